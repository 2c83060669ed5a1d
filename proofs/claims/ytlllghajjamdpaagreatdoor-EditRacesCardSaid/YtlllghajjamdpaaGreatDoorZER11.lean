/- Part 11 of the proof that for every argument the law EditRaces answers true: edits that two sites make of the same row, ordered one behind the other either way, leave what each wrote whole, side by side, and take away what each took -/
import Derived.Test.YtlllghajjamdpaaGreatDoorZER10
section
namespace Go.Proofs.YtlllghajjamdpaaGreatDoor.L
open Go.RowKit Go.Proofs.YtlllghajjamdpaaGreatDoorW.PrintWords Go.Proofs.YtlllghajjamdpaaGreatDoorW.PrintLast Go.Proofs.YtlllghajjamdpaaGreatDoorW.PrintMore
set_option linter.unusedVariables false
set_option linter.unusedSimpArgs false
set_option maxHeartbeats 40000000
set_option maxRecDepth 1000000
section
attribute [local go_sem] Qbm Qbk Qbu Qbt Qbc Qbb Qbl Qbj
def doc_Visible.f (l0 : List (SOp)) : Option ((List (SElem)) × Int):=(tree_May.f l0).bind fun t594 => (if t594 = true then ((doc_Seen.f l0).bind fun t595 => (some (t595,0))) else (some (([] : List (SElem)),1)))
theorem doc_Visible.calls (A0 : Option Addr) (c0 : Nat) (l0 : List (SOp)) (r1 : List (SElem)) (r2 : Int) (w : World) (hr0 : Kd.C kOp w A0 l0.length l0) (hc0 : l0.length <= c0) (h : doc_Visible.f l0 = some (r1,r2)) :
  Calls Tryz.prog 13 #[.slice A0 l0.length c0] w fun e w' => ∃ v0_ : Value,e = .returned (.tuple #[v0_, .int .i64 r2]) /\ Kd.R Qap 32 w' w.heap.size (fun _ => True) v0_ r1 /\ Below w.heap.size w w':=by
 have HR0:=Zz.k hr0
 have HC0:=Zz.k hc0
 clear hr0 hc0
 have HB:=Zz.k (Below.refl w.heap.size w)
 unfold doc_Visible.f at h; have H:=h
 clear h
 obtain ⟨t594,A2,H⟩:=bE H
 by_cases c3 : t594 = true
 ·subst c3
  rw [if_pos rfl] at H
  obtain ⟨t595,A4,H⟩:=bE H
  simp only [Option.some.injEq,Prod.mk.injEq] at H
  obtain ⟨rfl,rfl⟩:=H
  go_enter Tryz.func13,Tryz.ntmps13
  go_wp2_with (first | ((with_reducible refine Qac (f:=44) rfl ?_); refine gl (some 5) Tryz.func44 #[.slice A0 l0.length c0] (h := ?_); (with_reducible refine (tree_May.calls _ _ l0 true _ ?side1 ?side2 A2.out).mono ?_); (case side1 => repeat (first | exact HR0.out | (with_reducible refine Kd.C_alloc ?_ _) | (with_reducible refine Kd.C_drewN ?_ _) | (with_reducible refine Kd.C_drew ?_))); (case side2 => exact HC0.out); rintro e w5 ⟨rfl,hb⟩; refine ⟨_,rfl, ?_⟩; replace HB:=bs HB hb; clear hb) | ((with_reducible refine Qac (f:=47) rfl ?_); refine gl (some 8) Tryz.func47 #[.slice A0 l0.length c0] (h := ?_); (with_reducible refine (doc_Seen.calls _ _ l0 t595 _ ?side1 ?side2 A4.out).mono ?_); (case side1 => exact cb HR0 HB); (case side2 => exact HC0.out); rintro e w6 ⟨v596,rfl,ho0,hb⟩; refine ⟨_,rfl, ?_⟩; have HO597:=Zz.k (Kd.R_lower ho0 (Qal (bw HB))); replace HB:=bs HB hb; clear hb; clear ho0))
  go_ret2
  exact ⟨_,re,by (with_reducible repeat (first | apply Kd.R_alloc | apply Kd.R_drewN | apply Kd.R_drew)); exact HO597.out,bw HB⟩
 replace c3:=Zf c3
 subst c3
 rw [if_neg nft] at H
 simp only [Option.some.injEq,Prod.mk.injEq] at H
 obtain ⟨rfl,rfl⟩:=H
 go_enter Tryz.func13,Tryz.ntmps13
 go_wp2_with (first | ((with_reducible refine Qac (f:=44) rfl ?_); refine gl (some 5) Tryz.func44 #[.slice A0 l0.length c0] (h := ?_); (with_reducible refine (tree_May.calls _ _ l0 false _ ?side1 ?side2 A2.out).mono ?_); (case side1 => repeat (first | exact HR0.out | (with_reducible refine Kd.C_alloc ?_ _) | (with_reducible refine Kd.C_drewN ?_ _) | (with_reducible refine Kd.C_drew ?_))); (case side2 => exact HC0.out); rintro e w7 ⟨rfl,hb⟩; refine ⟨_,rfl, ?_⟩; replace HB:=bs HB hb; clear hb))
 go_ret2
 exact ⟨_,re,by first | exact Kd.R_nil _ _ _ _ _ | exact Kd.N_nil _ _ _ _ _ | exact Kd.V_nil _ _ _ _ _ | exact Kd.Q_nil _ _ _ _ _ | exact Kd.S_nil _ _ _ _ _,bw HB⟩
def r4_Elems.l0 : Nat -> List (SElem) -> Int -> Int -> Int -> Int -> Int -> Int -> Int -> ByteArray -> List (SElem) -> Int -> Int -> Int -> Option ((List (SElem)))
 | 0,_,_,_,_,_,_,_,_,_,_,_,_,_ => none
 | k + 1,x3,x4,x599000,x599001,x599002,x599003,x599004,x599005,x599006,x599007,x599008,x599009,x599010 => (r4_Runes.f k x599000 x599001 x599002 x599003 x599004 x599005 x599006 x599007 x599008 x599009 x599010).bind fun t599 => (if x4 < t599 then (if x3.length < 5864062014805 then (r4_Elems.l0 k (x3 ++ [(⟨x599000,x599001,x4⟩ : SElem)]) (wrap64 (x4 + 1)) x599000 x599001 x599002 x599003 x599004 x599005 x599006 x599007 x599008 x599009 x599010) else (none)) else (some x3))
def r4_Elems.f (k : Nat) (a0_0 : Int) (a0_1 : Int) (a0_2 : Int) (a0_3 : Int) (a0_4 : Int) (a0_5 : Int) (a0_6 : ByteArray) (l0_7 : List (SElem)) (a0_8 : Int) (a0_9 : Int) (a0_10 : Int) : Option ((List (SElem))):=r4_Elems.l0 k ([] : List (SElem)) 0 a0_0 a0_1 a0_2 a0_3 a0_4 a0_5 a0_6 l0_7 a0_8 a0_9 a0_10
theorem r4_Elems.calls (k : Nat) (a0_0 : Int) (a0_1 : Int) (a0_2 : Int) (a0_3 : Int) (a0_4 : Int) (a0_5 : Int) (a0_6 : ByteArray) (A0_7 : Option Addr) (c0_7 : Nat) (l0_7 : List (SElem)) (a0_8 : Int) (a0_9 : Int) (a0_10 : Int) (r : List (SElem)) (w : World) (hr0_7 : Kd.C Qap w A0_7 l0_7.length l0_7) (hc0_7 : l0_7.length <= c0_7) (hT : GT w) (h : r4_Elems.f k a0_0 a0_1 a0_2 a0_3 a0_4 a0_5 a0_6 l0_7 a0_8 a0_9 a0_10 = some r) :
  Calls Tryz.prog 14 #[.agg #[.int .i64 a0_0, .int .i64 a0_1, .int .i64 a0_2, .int .i64 a0_3, .int .i64 a0_4, .int .i64 a0_5, .string a0_6, .slice A0_7 l0_7.length c0_7, .int .i64 a0_8, .int .i64 a0_9, .int .i64 a0_10]] w fun e w' => ∃ v0_ : Value,e = .returned (v0_) /\ Kd.R Qap 32 w' w.heap.size (fun _ => True) v0_ r /\ Below w.heap.size w w':=by
 have hu34:=Tryz.underlying34
 have hu32:=Tryz.underlying32
 have HR0_7:=Zz.k hr0_7
 have HC0_7:=Zz.k hc0_7
 clear hr0_7 hc0_7
 have HB:=Zz.k (Below.refl w.heap.size w)
 unfold r4_Elems.f at h; have H:=h
 clear h
 have H':=Zz.k H
 clear H
 go_enter Tryz.func14,Tryz.ntmps14
 go_wp2_with (first | ((with_reducible refine Qaf (N:=1) rfl ?_); refine bx 1 #[.int .i64 a0_0, .int .i64 a0_1, .int .i64 a0_2, .int .i64 a0_3, .int .i64 a0_4, .int .i64 a0_5, .string a0_6, .slice A0_7 l0_7.length c0_7, .int .i64 a0_8, .int .i64 a0_9, .int .i64 a0_10] 34 (h := ?_); intro gb598 hg w2 hbox hb; have BK598:=Zz.k (hbox); have GW598:=bz HB hg; have GE598:=bz HB hg; replace HB:=bs HB hb; clear hb hbox hg))
 go_loopg [3,4] k (fun kq v3 v4 w' => ∃ (x3_1 : List (SElem)) (x4_1 : Int),v4 = .int .i64 x4_1 /\ Zz (r4_Elems.l0 kq x3_1 x4_1 a0_0 a0_1 a0_2 a0_3 a0_4 a0_5 a0_6 l0_7 a0_8 a0_9 a0_10 = some r) /\ Zz (kq <= k) /\ Zz (Kd.R Qap 32 w' w.heap.size (fun _ => True) v3 x3_1) /\ Zz (w'.heap[gb598]? = some (.cells #[.int .i64 a0_0, .int .i64 a0_1, .int .i64 a0_2, .int .i64 a0_3, .int .i64 a0_4, .int .i64 a0_5, .string a0_6,(.slice A0_7 l0_7.length c0_7), .int .i64 a0_8, .int .i64 a0_9, .int .i64 a0_10] 34 (0,0))) /\ Zz (Below w.heap.size w w'))
 case atStart => exact ⟨(([] : List (SElem))),(0),rf,H',⟨Nat.le_refl _⟩,⟨by first | exact Kd.R_nil _ _ _ _ _ | exact Kd.N_nil _ _ _ _ _ | exact Kd.V_nil _ _ _ _ _ | exact Kd.Q_nil _ _ _ _ _ | exact Kd.S_nil _ _ _ _ _⟩,⟨kk BK598⟩,⟨bw HB⟩⟩
 case round =>
  clear H'
  obtain ⟨x3_1,x4_1,rfl,HA,HK1,HO_3,BK598,HB⟩:=hrel
  cases gk with
  | zero => exact absurd HA.out (by simp [r4_Elems.l0])
  | succ k1 =>
   have H:=HA.out
   clear HA
   simp only [r4_Elems.l0] at H
   obtain ⟨t599,A3,H⟩:=bE H
   by_cases c4 : x4_1 < t599; rotate_left
   ·rw [if_neg c4] at H
    have c4b0:=Ze c4
    clear c4
    obtain rfl:=Zo H
    obtain ⟨_,_,_,_,_,_,_,_,_,_,_,_,_,_,_,_,_,_,_,_,_,_⟩:=kc11 BK598
    go_wp2_with (first | ((with_reducible refine Qac (f:=55) rfl ?_); refine gl (some 7) Tryz.func55 #[.agg #[.int .i64 a0_0, .int .i64 a0_1, .int .i64 a0_2, .int .i64 a0_3, .int .i64 a0_4, .int .i64 a0_5, .string a0_6, .slice A0_7 l0_7.length c0_7, .int .i64 a0_8, .int .i64 a0_9, .int .i64 a0_10]] (h := ?_); (with_reducible refine (r4_Runes.calls k1 a0_0 a0_1 a0_2 a0_3 a0_4 a0_5 a0_6 _ _ l0_7 a0_8 a0_9 a0_10 t599 _ ?side1 ?side2 ?side3 A3.out).mono ?_); (case side1 => exact cb HR0_7 HB); (case side2 => exact HC0_7.out); (case side3 => exact (hT.below (bw HB))); rintro e w11 ⟨rfl,hb⟩; refine ⟨_,rfl, ?_⟩; replace HO_3:=rb HO_3 hb; replace BK598:=bl BK598 hb; replace HB:=bs HB hb; clear hb))
    go_ret
    exact ⟨_,re,by (with_reducible repeat (first | apply Kd.R_alloc | apply Kd.R_drewN | apply Kd.R_drew)); exact HO_3.out,bw HB⟩
   rw [if_pos c4] at H
   have c4b0:=Zd c4
   clear c4
   by_cases c5 : x3_1.length < 5864062014805; rotate_left
   ·rw [if_neg c5] at H
    exact absurd H (by simp)
   rw [if_pos c5] at H
   have LMc5:=Zz.k c5
   clear c5
   obtain ⟨y600,hy600⟩ : ∃ y_ : List (SElem),y_ = (x3_1 ++ [(⟨a0_0,a0_1,x4_1⟩ : SElem)]):=⟨_,rfl⟩
   first | rw [Option.bind_some,<- hy600] at H | rw [<- hy600] at H
   have Ny600:=Zz.k hy600
   clear hy600
   have H':=Zz.k H
   clear H
   obtain ⟨_,_,_,_,_,_,_,_,_,_,_,_,_,_,_,_,_,_,_,_,_,_⟩:=kc11 BK598
   go_wp2_with (first | ((with_reducible refine Qac (f:=55) rfl ?_); refine gl (some 7) Tryz.func55 #[.agg #[.int .i64 a0_0, .int .i64 a0_1, .int .i64 a0_2, .int .i64 a0_3, .int .i64 a0_4, .int .i64 a0_5, .string a0_6, .slice A0_7 l0_7.length c0_7, .int .i64 a0_8, .int .i64 a0_9, .int .i64 a0_10]] (h := ?_); (with_reducible refine (r4_Runes.calls k1 a0_0 a0_1 a0_2 a0_3 a0_4 a0_5 a0_6 _ _ l0_7 a0_8 a0_9 a0_10 t599 _ ?side1 ?side2 ?side3 A3.out).mono ?_); (case side1 => exact cb HR0_7 HB); (case side2 => exact HC0_7.out); (case side3 => exact (hT.below (bw HB))); rintro e w7 ⟨rfl,hb⟩; refine ⟨_,rfl, ?_⟩; replace HO_3:=rb HO_3 hb; replace BK598:=bl BK598 hb; replace HB:=bs HB hb; clear hb; obtain ⟨_,_,_,_,_,_,_,_,_,_,_,_,_,_,_,_,_,_,_,_,_,_⟩:=kc11 BK598) | ((with_reducible refine Qbz (b:=.append) (xs:=#[.tmp 11, .tmp 18]) rfl ?_); at_builtin; refine Kd.R_append Qap (w0:=w) w.heap.size rfl (.tmp 11) (.tmp 18) 23 32 (.agg #[(.int .i64 0),(.int .i64 0),(.int .i64 0)]) 24 rfl Tryz.underlying23 info32 rfl (by decide) (by omega) u3 x3_1 (⟨a0_0,a0_1,x4_1⟩ : SElem) [.int .i64 a0_0, .int .i64 a0_1, .int .i64 x4_1] (fun _ => True) (fun _ => False) rfl rfl ?aP (fun _ hk => hk.elim) ?aF ?aO ?aB ?aS ?aL ?_; (case aP => exact Qcd _ _ _ (⟨a0_0,a0_1,x4_1⟩ : SElem)); (case aB => exact (bw HB)); (case aF => exact (fun _ _ => trivial)); (case aO => exact (rk HO_3)); (case aS => exact (Qal (bw HB))); (case aL => have:=LMc5.out; omega); intro v601 w9 ho hb hg hat; rw [<- Ny600.out] at ho; have n0_:=Zz.k (Qcx (kk BK598) hg (Kd.R_ne HO_3.out BK598.out (by decide))); have n1_:=Zz.k (hb); have n2_:=Zz.k (ho); clear BK598; clear HB; clear HO_3; have BK598:=n0_; have HB:=n1_; have HO602:=n2_; clear n0_ n1_ n2_; clear ho hb hg hat))
   go_roundg k1
   case measure => have:=HK1.out; omega
   case rel => exact ⟨(y600),(wrap64 (x4_1 + 1)),rf,H',⟨by have:=HK1.out; omega⟩,⟨rk HO602⟩,⟨kk BK598⟩,⟨bw HB⟩⟩
end
end Go.Proofs.YtlllghajjamdpaaGreatDoor.L
end
