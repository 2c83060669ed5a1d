/- Part 5 of the proof that for every argument the law OpTells answers true: whether any op may be, its elements, what it needs, any own element, and whether any element may be, are the page's, or the error is. -/
import Derived.Test.YtonoaflfobajcaaDoorZOT4
import Derived.Test.YtonoaflfobajcaaDoorRows
import Derived.Test.YtonoaflfobajcaaDoorTie
import Derived.Test.YtonoaflfobajcaaDoorCards
import Derived.Lib.LaidIn
import Derived.Lib.LaidU8
import Derived.Deep.DeepHandedRow
import Derived.Deep.DeepWitnessRowRef
import Derived.SevenTiedAt
import Derived.WalkKit
import Derived.ProofKit
import Derived.OpenShut
import Derived.ChangeOld
import Derived.Below
import Derived.SizedLaws
import Derived.JoinedCond
section
namespace Go.Proofs.YtonoaflfobajcaaDoor.L
open Go.RowKit Go.Proofs.YtonoaflfobajcaaDoorW.PrintWords Go.Proofs.YtonoaflfobajcaaDoorW.PrintLast Go.Proofs.YtonoaflfobajcaaDoorW.PrintMore
set_option linter.unusedVariables false
set_option linter.unusedSimpArgs false
set_option maxHeartbeats 40000000
set_option maxRecDepth 1000000
section
attribute [local go_sem] Qbo Qbm Qbz Qby Qbd Qbc Qbn Qbl
attribute [local go_sem high] eqAElem
def op_All.l0 : Nat -> List (SElem) -> Int -> Int -> Int -> Int -> Int -> Int -> Int -> Int -> ByteArray -> List (SElem) -> Int -> Int -> Int -> Option ((List (SElem)))
 | 0,_,_,_,_,_,_,_,_,_,_,_,_,_,_ => none
 | k + 1,x2,x5,x6,x221000,x221001,x221002,x221003,x221004,x221005,x221006,x221007,x221008,x221009,x221010 => if x6 < x5 then ((op_At.f x221000 x221001 x221002 x221003 x221004 x221005 x221006 x221007 x221008 x221009 x221010 x6).bind fun bt222 => (if x2.length < 5864062014805 then (op_All.l0 k (x2 ++ [(⟨bt222.1,bt222.2.1,bt222.2.2⟩ : SElem)]) x5 (wrap64 (x6 + 1)) x221000 x221001 x221002 x221003 x221004 x221005 x221006 x221007 x221008 x221009 x221010) else (none))) else (some x2)
def op_All.f (k : Nat) (a0_0 : Int) (a0_1 : Int) (a0_2 : Int) (a0_3 : Int) (a0_4 : Int) (a0_5 : Int) (a0_6 : ByteArray) (l0_7 : List (SElem)) (a0_8 : Int) (a0_9 : Int) (a0_10 : Int) : Option ((List (SElem))):=(op_Size.f a0_0 a0_1 a0_2 a0_3 a0_4 a0_5 a0_6 l0_7 a0_8 a0_9 a0_10).bind fun t221 => (op_All.l0 k ([] : List (SElem)) t221 0 a0_0 a0_1 a0_2 a0_3 a0_4 a0_5 a0_6 l0_7 a0_8 a0_9 a0_10)
theorem op_All.mono_l : ∀ k,(∀ y0 y1 y2 y3 y4 y5 y6 y7 y8 y9 y10 y11 y12 y13,LeO (op_All.l0 k y0 y1 y2 y3 y4 y5 y6 y7 y8 y9 y10 y11 y12 y13) (op_All.l0 (k + 1) y0 y1 y2 y3 y4 y5 y6 y7 y8 y9 y10 y11 y12 y13))
 | 0 => fun _ _ _ _ _ _ _ _ _ _ _ _ _ _ r h => by simp [op_All.l0] at h
 | k + 1 => by
  have ih0:=op_All.mono_l k
  ·intro y0 y1 y2 y3 y4 y5 y6 y7 y8 y9 y10 y11 y12 y13
   unfold op_All.l0
   repeat' first
   | (with_reducible exact ih0 _ _ _ _ _ _ _ _ _ _ _ _ _ _)
   | (with_reducible exact LeO.refl _)
   | (with_reducible exact LeO.none _)
   | (with_reducible refine LeO.ite ?_ ?_)
   | (with_reducible refine LeO.bind ?_ (fun _ => ?_))
   | exact ih0 _ _ _ _ _ _ _ _ _ _ _ _ _ _
   | exact LeO.none _
   | refine LeO.ite ?_ ?_
   | refine LeO.bind ?_ (fun _ => ?_)
theorem op_All.mono : ∀ a0 a1 a2 a3 a4 a5 a6 a7 a8 a9 a10 k,LeO (op_All.f k a0 a1 a2 a3 a4 a5 a6 a7 a8 a9 a10) (op_All.f (k + 1) a0 a1 a2 a3 a4 a5 a6 a7 a8 a9 a10):=by
 intro a0 a1 a2 a3 a4 a5 a6 a7 a8 a9 a10 k
 have ih0:=op_All.mono_l k
 unfold op_All.f
 repeat' first
   | (with_reducible exact ih0 _ _ _ _ _ _ _ _ _ _ _ _ _ _)
   | (with_reducible exact LeO.refl _)
   | (with_reducible exact LeO.none _)
   | (with_reducible refine LeO.ite ?_ ?_)
   | (with_reducible refine LeO.bind ?_ (fun _ => ?_))
   | exact ih0 _ _ _ _ _ _ _ _ _ _ _ _ _ _
   | exact LeO.none _
   | refine LeO.ite ?_ ?_
   | refine LeO.bind ?_ (fun _ => ?_)
theorem op_All.calls (k : Nat) (a0_0 : Int) (a0_1 : Int) (a0_2 : Int) (a0_3 : Int) (a0_4 : Int) (a0_5 : Int) (a0_6 : ByteArray) (A0_7 : Option Addr) (c0_7 : Nat) (l0_7 : List (SElem)) (a0_8 : Int) (a0_9 : Int) (a0_10 : Int) (r : List (SElem)) (w : World) (hr0_7 : Kd.C Qak w A0_7 l0_7.length l0_7) (hc0_7 : l0_7.length <= c0_7) (h : op_All.f k a0_0 a0_1 a0_2 a0_3 a0_4 a0_5 a0_6 l0_7 a0_8 a0_9 a0_10 = some r) :
  Calls Tryd.prog 93 #[.agg #[.int .i64 a0_0, .int .i64 a0_1, .int .i64 a0_2, .int .i64 a0_3, .int .i64 a0_4, .int .i64 a0_5, .string a0_6, .slice A0_7 l0_7.length c0_7, .int .i64 a0_8, .int .i64 a0_9, .int .i64 a0_10]] w fun e w' => ∃ v0_ : Value,e = .returned (v0_) /\ Kd.R Qak 43 w' w.heap.size (fun _ => True) v0_ r /\ Below w.heap.size w w':=by
 have hu55:=Tryd.underlying55
 have HR0_7:=Zz.k hr0_7
 have HC0_7:=Zz.k hc0_7
 clear hr0_7 hc0_7
 have HB:=Zz.k (Below.refl w.heap.size w)
 unfold op_All.f at h; have H:=h
 clear h
 obtain ⟨t221,A2,H⟩:=bE H
 have H':=Zz.k H
 clear H
 go_enter Tryd.func93,Tryd.ntmps93
 go_wp2_with (first | ((with_reducible refine Qac (N:=1) rfl ?_); refine bx 1 #[.int .i64 a0_0, .int .i64 a0_1, .int .i64 a0_2, .int .i64 a0_3, .int .i64 a0_4, .int .i64 a0_5, .string a0_6, .slice A0_7 l0_7.length c0_7, .int .i64 a0_8, .int .i64 a0_9, .int .i64 a0_10] 55 (h := ?_); intro gb220 hg w3 hbox hb; have BK220:=Zz.k (hbox); have GW220:=bz HB hg; have GE220:=bz HB hg; replace HB:=bs HB hb; clear hb hbox hg; obtain ⟨_,_,_,_,_,_,_,_,_,_,_,_,_,_,_,_,_,_,_,_,_,_⟩:=kc11 BK220) | ((with_reducible refine Qab (f:=95) rfl ?_); refine gl (some 5) Tryd.func95 #[.agg #[.int .i64 a0_0, .int .i64 a0_1, .int .i64 a0_2, .int .i64 a0_3, .int .i64 a0_4, .int .i64 a0_5, .string a0_6, .slice A0_7 l0_7.length c0_7, .int .i64 a0_8, .int .i64 a0_9, .int .i64 a0_10]] (h := ?_); (with_reducible refine (op_Size.calls a0_0 a0_1 a0_2 a0_3 a0_4 a0_5 a0_6 _ _ l0_7 a0_8 a0_9 a0_10 t221 _ ?side1 ?side2 A2.out).mono ?_); (case side1 => exact cb HR0_7 HB); (case side2 => exact HC0_7.out); rintro e w5 ⟨rfl,hb⟩; refine ⟨_,rfl, ?_⟩; replace BK220:=bl BK220 hb; replace HB:=bs HB hb; clear hb))
 go_loopg [2,6] k (fun kq v2 v6 w' => ∃ (x2_1 : List (SElem)) (x6_1 : Int),v6 = .int .i64 x6_1 /\ Zz (op_All.l0 kq x2_1 t221 x6_1 a0_0 a0_1 a0_2 a0_3 a0_4 a0_5 a0_6 l0_7 a0_8 a0_9 a0_10 = some r) /\ Zz (kq <= k) /\ Zz (Kd.R Qak 43 w' w.heap.size (fun _ => True) v2 x2_1) /\ Zz (w'.heap[gb220]? = some (.cells #[.int .i64 a0_0, .int .i64 a0_1, .int .i64 a0_2, .int .i64 a0_3, .int .i64 a0_4, .int .i64 a0_5, .string a0_6,(.slice A0_7 l0_7.length c0_7), .int .i64 a0_8, .int .i64 a0_9, .int .i64 a0_10] 55 (0,0))) /\ Zz (Below w.heap.size w w'))
 case atStart => exact ⟨(([] : List (SElem))),(0),rf,H',⟨Nat.le_refl _⟩,⟨by first | exact Kd.R_nil _ _ _ _ _ | exact Kd.N_nil _ _ _ _ _ | exact Kd.V_nil _ _ _ _ _ | exact Kd.Q_nil _ _ _ _ _ | exact Kd.S_nil _ _ _ _ _⟩,⟨kk BK220⟩,⟨bw HB⟩⟩
 case round =>
  clear H'
  obtain ⟨x2_1,x6_1,rfl,HA,HK1,HO_2,BK220,HB⟩:=hrel
  cases gk with
  | zero => exact absurd HA.out (by simp [op_All.l0])
  | succ k1 =>
   have H:=HA.out
   clear HA
   simp only [op_All.l0] at H
   by_cases c6 : x6_1 < t221; rotate_left
   ·rw [if_neg c6] at H
    have c6b0:=Ze c6
    clear c6
    obtain rfl:=Zo H
    go_wp2
    go_ret
    exact ⟨_,re,by (with_reducible repeat (first | apply Kd.R_alloc | apply Kd.R_drewN | apply Kd.R_drew)); exact HO_2.out,bw HB⟩
   rw [if_pos c6] at H
   have c6b0:=Zd c6
   clear c6
   obtain ⟨⟨t222,t223,t224⟩,A7,H⟩:=bE H
   try dsimp only at H
   by_cases c8 : x2_1.length < 5864062014805; rotate_left
   ·rw [if_neg c8] at H
    exact absurd H (by simp)
   rw [if_pos c8] at H
   have LMc8:=Zz.k c8
   clear c8
   obtain ⟨y225,hy225⟩ : ∃ y_ : List (SElem),y_ = (x2_1 ++ [(⟨t222,t223,t224⟩ : SElem)]):=⟨_,rfl⟩
   first | rw [Option.bind_some,<- hy225] at H | rw [<- hy225] at H
   have Ny225:=Zz.k hy225
   clear hy225
   have H':=Zz.k H
   clear H
   obtain ⟨_,_,_,_,_,_,_,_,_,_,_,_,_,_,_,_,_,_,_,_,_,_⟩:=kc11 BK220
   go_wp2_with (first | ((with_reducible refine Qab (f:=96) rfl ?_); refine gl (some 12) Tryd.func96 #[.agg #[.int .i64 a0_0, .int .i64 a0_1, .int .i64 a0_2, .int .i64 a0_3, .int .i64 a0_4, .int .i64 a0_5, .string a0_6, .slice A0_7 l0_7.length c0_7, .int .i64 a0_8, .int .i64 a0_9, .int .i64 a0_10], .int .i64 x6_1] (h := ?_); (with_reducible refine (op_At.calls a0_0 a0_1 a0_2 a0_3 a0_4 a0_5 a0_6 _ _ l0_7 a0_8 a0_9 a0_10 x6_1 t222 t223 t224 _ ?side1 ?side2 A7.out).mono ?_); (case side1 => exact cb HR0_7 HB); (case side2 => exact HC0_7.out); rintro e w10 ⟨rfl,hb⟩; refine ⟨_,rfl, ?_⟩; replace HO_2:=rb HO_2 hb; replace BK220:=bl BK220 hb; replace HB:=bs HB hb; clear hb) | ((with_reducible refine gate_builtin (b:=.append) (xs:=#[.tmp 9, .tmp 13]) rfl ?_); at_builtin; refine Kd.R_append Qak (w0:=w) w.heap.size rfl (.tmp 9) (.tmp 13) 23 43 (.agg #[(.int .i64 0),(.int .i64 0),(.int .i64 0)]) 24 rfl Tryd.underlying23 info43 rfl (by decide) (by omega) u2 x2_1 (⟨t222,t223,t224⟩ : SElem) [.int .i64 t222, .int .i64 t223, .int .i64 t224] (fun _ => True) (fun _ => False) rfl rfl ?aP (fun _ hk => hk.elim) ?aF ?aO ?aB ?aS ?aL ?_; (case aP => exact Qau _ _ _ (⟨t222,t223,t224⟩ : SElem)); (case aB => exact (bw HB)); (case aF => exact (fun _ _ => trivial)); (case aO => exact (rk HO_2)); (case aS => exact (Qar (bw HB))); (case aL => have:=LMc8.out; omega); intro v226 w11 ho hb hg hat; rw [<- Ny225.out] at ho; have n0_:=Zz.k (blk_grown (kk BK220) hg (Kd.R_ne HO_2.out BK220.out (by decide))); have n1_:=Zz.k (hb); have n2_:=Zz.k (ho); clear BK220; clear HB; clear HO_2; have BK220:=n0_; have HB:=n1_; have HO227:=n2_; clear n0_ n1_ n2_; clear ho hb hg hat))
   go_roundg k1
   case measure => have:=HK1.out; omega
   case rel => exact ⟨(y225),(wrap64 (x6_1 + 1)),rf,H',⟨by have:=HK1.out; omega⟩,⟨rk HO227⟩,⟨kk BK220⟩,⟨bw HB⟩⟩
def op_Elems.f (k : Nat) (a0_0 : Int) (a0_1 : Int) (a0_2 : Int) (a0_3 : Int) (a0_4 : Int) (a0_5 : Int) (a0_6 : ByteArray) (l0_7 : List (SElem)) (a0_8 : Int) (a0_9 : Int) (a0_10 : Int) : Option ((List (SElem)) × Int):=(op_May.f k a0_0 a0_1 a0_2 a0_3 a0_4 a0_5 a0_6 l0_7 a0_8 a0_9 a0_10).bind fun t229 => (if t229 = true then ((op_All.f k a0_0 a0_1 a0_2 a0_3 a0_4 a0_5 a0_6 l0_7 a0_8 a0_9 a0_10).bind fun t230 => (some (t230,0))) else (some (([] : List (SElem)),1)))
theorem op_Elems.mono : ∀ a0 a1 a2 a3 a4 a5 a6 a7 a8 a9 a10 k,LeO (op_Elems.f k a0 a1 a2 a3 a4 a5 a6 a7 a8 a9 a10) (op_Elems.f (k + 1) a0 a1 a2 a3 a4 a5 a6 a7 a8 a9 a10):=by
 intro a0 a1 a2 a3 a4 a5 a6 a7 a8 a9 a10 k
 unfold op_Elems.f
 repeat' first
   | (with_reducible exact op_All.mono _ _ _ _ _ _ _ _ _ _ _ _)
   | (with_reducible exact op_May.mono _ _ _ _ _ _ _ _ _ _ _ _)
   | (with_reducible exact LeO.refl _)
   | (with_reducible exact LeO.none _)
   | (with_reducible refine LeO.ite ?_ ?_)
   | (with_reducible refine LeO.bind ?_ (fun _ => ?_))
   | exact op_All.mono _ _ _ _ _ _ _ _ _ _ _ _
   | exact op_May.mono _ _ _ _ _ _ _ _ _ _ _ _
   | exact LeO.none _
   | refine LeO.ite ?_ ?_
   | refine LeO.bind ?_ (fun _ => ?_)
theorem op_Elems.calls (k : Nat) (a0_0 : Int) (a0_1 : Int) (a0_2 : Int) (a0_3 : Int) (a0_4 : Int) (a0_5 : Int) (a0_6 : ByteArray) (A0_7 : Option Addr) (c0_7 : Nat) (l0_7 : List (SElem)) (a0_8 : Int) (a0_9 : Int) (a0_10 : Int) (r1 : List (SElem)) (r2 : Int) (w : World) (hr0_7 : Kd.C Qak w A0_7 l0_7.length l0_7) (hc0_7 : l0_7.length <= c0_7) (h : op_Elems.f k a0_0 a0_1 a0_2 a0_3 a0_4 a0_5 a0_6 l0_7 a0_8 a0_9 a0_10 = some (r1,r2)) :
  Calls Tryd.prog 47 #[.agg #[.int .i64 a0_0, .int .i64 a0_1, .int .i64 a0_2, .int .i64 a0_3, .int .i64 a0_4, .int .i64 a0_5, .string a0_6, .slice A0_7 l0_7.length c0_7, .int .i64 a0_8, .int .i64 a0_9, .int .i64 a0_10]] w fun e w' => ∃ v0_ : Value,e = .returned (.tuple #[v0_, .int .i64 r2]) /\ Kd.R Qak 43 w' w.heap.size (fun _ => True) v0_ r1 /\ Below w.heap.size w w':=by
 have hu55:=Tryd.underlying55
 have HR0_7:=Zz.k hr0_7
 have HC0_7:=Zz.k hc0_7
 clear hr0_7 hc0_7
 have HB:=Zz.k (Below.refl w.heap.size w)
 unfold op_Elems.f at h; have H:=h
 clear h
 obtain ⟨t229,A2,H⟩:=bE H
 by_cases c3 : t229 = true
 ·subst c3
  rw [if_pos rfl] at H
  obtain ⟨t230,A4,H⟩:=bE H
  simp only [Option.some.injEq,Prod.mk.injEq] at H
  obtain ⟨rfl,rfl⟩:=H
  go_enter Tryd.func47,Tryd.ntmps47
  go_wp2_with (first | ((with_reducible refine Qac (N:=1) rfl ?_); refine bx 1 #[.int .i64 a0_0, .int .i64 a0_1, .int .i64 a0_2, .int .i64 a0_3, .int .i64 a0_4, .int .i64 a0_5, .string a0_6, .slice A0_7 l0_7.length c0_7, .int .i64 a0_8, .int .i64 a0_9, .int .i64 a0_10] 55 (h := ?_); intro gb228 hg w5 hbox hb; have BK228:=Zz.k (hbox); have GW228:=bz HB hg; have GE228:=bz HB hg; replace HB:=bs HB hb; clear hb hbox hg; obtain ⟨_,_,_,_,_,_,_,_,_,_,_,_,_,_,_,_,_,_,_,_,_,_⟩:=kc11 BK228) | ((with_reducible refine Qab (f:=84) rfl ?_); refine gl (some 5) Tryd.func84 #[.agg #[.int .i64 a0_0, .int .i64 a0_1, .int .i64 a0_2, .int .i64 a0_3, .int .i64 a0_4, .int .i64 a0_5, .string a0_6, .slice A0_7 l0_7.length c0_7, .int .i64 a0_8, .int .i64 a0_9, .int .i64 a0_10]] (h := ?_); (with_reducible refine (op_May.calls k a0_0 a0_1 a0_2 a0_3 a0_4 a0_5 a0_6 _ _ l0_7 a0_8 a0_9 a0_10 true _ ?side1 ?side2 A2.out).mono ?_); (case side1 => exact cb HR0_7 HB); (case side2 => exact HC0_7.out); rintro e w7 ⟨rfl,hb⟩; refine ⟨_,rfl, ?_⟩; replace BK228:=bl BK228 hb; replace HB:=bs HB hb; clear hb; obtain ⟨_,_,_,_,_,_,_,_,_,_,_,_,_,_,_,_,_,_,_,_,_,_⟩:=kc11 BK228) | ((with_reducible refine Qab (f:=93) rfl ?_); refine gl (some 8) Tryd.func93 #[.agg #[.int .i64 a0_0, .int .i64 a0_1, .int .i64 a0_2, .int .i64 a0_3, .int .i64 a0_4, .int .i64 a0_5, .string a0_6, .slice A0_7 l0_7.length c0_7, .int .i64 a0_8, .int .i64 a0_9, .int .i64 a0_10]] (h := ?_); (with_reducible refine (op_All.calls k a0_0 a0_1 a0_2 a0_3 a0_4 a0_5 a0_6 _ _ l0_7 a0_8 a0_9 a0_10 t230 _ ?side1 ?side2 A4.out).mono ?_); (case side1 => exact cb HR0_7 HB); (case side2 => exact HC0_7.out); rintro e w9 ⟨v231,rfl,ho0,hb⟩; refine ⟨_,rfl, ?_⟩; have HO232:=Zz.k (Kd.R_lower ho0 (Qar (bw HB))); replace BK228:=bl BK228 hb; replace HB:=bs HB hb; clear hb; clear ho0))
  go_ret2
  exact ⟨_,re,by (with_reducible repeat (first | apply Kd.R_alloc | apply Kd.R_drewN | apply Kd.R_drew)); exact HO232.out,bw HB⟩
 replace c3:=Zf c3
 subst c3
 rw [if_neg nft] at H
 simp only [Option.some.injEq,Prod.mk.injEq] at H
 obtain ⟨rfl,rfl⟩:=H
 go_enter Tryd.func47,Tryd.ntmps47
 go_wp2_with (first | ((with_reducible refine Qac (N:=1) rfl ?_); refine bx 1 #[.int .i64 a0_0, .int .i64 a0_1, .int .i64 a0_2, .int .i64 a0_3, .int .i64 a0_4, .int .i64 a0_5, .string a0_6, .slice A0_7 l0_7.length c0_7, .int .i64 a0_8, .int .i64 a0_9, .int .i64 a0_10] 55 (h := ?_); intro gb228 hg w10 hbox hb; have BK228:=Zz.k (hbox); have GW228:=bz HB hg; have GE228:=bz HB hg; replace HB:=bs HB hb; clear hb hbox hg; obtain ⟨_,_,_,_,_,_,_,_,_,_,_,_,_,_,_,_,_,_,_,_,_,_⟩:=kc11 BK228) | ((with_reducible refine Qab (f:=84) rfl ?_); refine gl (some 5) Tryd.func84 #[.agg #[.int .i64 a0_0, .int .i64 a0_1, .int .i64 a0_2, .int .i64 a0_3, .int .i64 a0_4, .int .i64 a0_5, .string a0_6, .slice A0_7 l0_7.length c0_7, .int .i64 a0_8, .int .i64 a0_9, .int .i64 a0_10]] (h := ?_); (with_reducible refine (op_May.calls k a0_0 a0_1 a0_2 a0_3 a0_4 a0_5 a0_6 _ _ l0_7 a0_8 a0_9 a0_10 false _ ?side1 ?side2 A2.out).mono ?_); (case side1 => exact cb HR0_7 HB); (case side2 => exact HC0_7.out); rintro e w12 ⟨rfl,hb⟩; refine ⟨_,rfl, ?_⟩; replace BK228:=bl BK228 hb; replace HB:=bs HB hb; clear hb))
 go_ret2
 exact ⟨_,re,by first | exact Kd.R_nil _ _ _ _ _ | exact Kd.N_nil _ _ _ _ _ | exact Kd.V_nil _ _ _ _ _ | exact Kd.Q_nil _ _ _ _ _ | exact Kd.S_nil _ _ _ _ _,bw HB⟩
def op_Own.f (k : Nat) (a0_0 : Int) (a0_1 : Int) (a0_2 : Int) (a0_3 : Int) (a0_4 : Int) (a0_5 : Int) (a0_6 : ByteArray) (l0_7 : List (SElem)) (a0_8 : Int) (a0_9 : Int) (a0_10 : Int) (a1 : Int) : Option (Int × Int × Int × Int):=(op_May.f k a0_0 a0_1 a0_2 a0_3 a0_4 a0_5 a0_6 l0_7 a0_8 a0_9 a0_10).bind fun t235 => (if t235 = true then (if a1 < 0 then (some (0,0,0,2)) else ((op_Size.f a0_0 a0_1 a0_2 a0_3 a0_4 a0_5 a0_6 l0_7 a0_8 a0_9 a0_10).bind fun t236 => (if a1 >= t236 then (some (0,0,0,2)) else ((op_At.f a0_0 a0_1 a0_2 a0_3 a0_4 a0_5 a0_6 l0_7 a0_8 a0_9 a0_10 a1).bind fun bt237 => (some (bt237.1,bt237.2.1,bt237.2.2,0)))))) else (some (0,0,0,1)))
theorem op_Own.mono : ∀ a0 a1 a2 a3 a4 a5 a6 a7 a8 a9 a10 a11 k,LeO (op_Own.f k a0 a1 a2 a3 a4 a5 a6 a7 a8 a9 a10 a11) (op_Own.f (k + 1) a0 a1 a2 a3 a4 a5 a6 a7 a8 a9 a10 a11):=by
 intro a0 a1 a2 a3 a4 a5 a6 a7 a8 a9 a10 a11 k
 unfold op_Own.f
 repeat' first
   | (with_reducible exact op_May.mono _ _ _ _ _ _ _ _ _ _ _ _)
   | (with_reducible exact LeO.refl _)
   | (with_reducible exact LeO.none _)
   | (with_reducible refine LeO.ite ?_ ?_)
   | (with_reducible refine LeO.bind ?_ (fun _ => ?_))
   | exact op_May.mono _ _ _ _ _ _ _ _ _ _ _ _
   | exact LeO.none _
   | refine LeO.ite ?_ ?_
   | refine LeO.bind ?_ (fun _ => ?_)
theorem op_Own.calls (k : Nat) (a0_0 : Int) (a0_1 : Int) (a0_2 : Int) (a0_3 : Int) (a0_4 : Int) (a0_5 : Int) (a0_6 : ByteArray) (A0_7 : Option Addr) (c0_7 : Nat) (l0_7 : List (SElem)) (a0_8 : Int) (a0_9 : Int) (a0_10 : Int) (a1 : Int) (r1 : Int) (r2 : Int) (r3 : Int) (r4 : Int) (w : World) (hr0_7 : Kd.C Qak w A0_7 l0_7.length l0_7) (hc0_7 : l0_7.length <= c0_7) (h : op_Own.f k a0_0 a0_1 a0_2 a0_3 a0_4 a0_5 a0_6 l0_7 a0_8 a0_9 a0_10 a1 = some (r1,r2,r3,r4)) :
  Calls Tryd.prog 49 #[.agg #[.int .i64 a0_0, .int .i64 a0_1, .int .i64 a0_2, .int .i64 a0_3, .int .i64 a0_4, .int .i64 a0_5, .string a0_6, .slice A0_7 l0_7.length c0_7, .int .i64 a0_8, .int .i64 a0_9, .int .i64 a0_10], .int .i64 a1] w fun e w' => e = .returned (.tuple #[.agg #[.int .i64 r1, .int .i64 r2, .int .i64 r3], .int .i64 r4]) /\ Below w.heap.size w w':=by
 have hu55:=Tryd.underlying55
 have hu43:=Tryd.underlying43
 have HR0_7:=Zz.k hr0_7
 have HC0_7:=Zz.k hc0_7
 clear hr0_7 hc0_7
 have HB:=Zz.k (Below.refl w.heap.size w)
 unfold op_Own.f at h; have H:=h
 clear h
 obtain ⟨t235,A3,H⟩:=bE H
 by_cases c4 : t235 = true; rotate_left
 ·replace c4:=Zf c4
  subst c4
  rw [if_neg nft] at H
  simp only [Option.some.injEq,Prod.mk.injEq] at H
  obtain ⟨rfl,rfl,rfl,rfl⟩:=H
  go_enter Tryd.func49,Tryd.ntmps49
  go_wp2_with (first | ((with_reducible refine Qac (N:=2) rfl ?_); refine bx 2 #[.int .i64 a0_0, .int .i64 a0_1, .int .i64 a0_2, .int .i64 a0_3, .int .i64 a0_4, .int .i64 a0_5, .string a0_6, .slice A0_7 l0_7.length c0_7, .int .i64 a0_8, .int .i64 a0_9, .int .i64 a0_10] 55 (h := ?_); intro gb233 hg w33 hbox hb; have BK233:=Zz.k (hbox); have GW233:=bz HB hg; have GE233:=bz HB hg; replace HB:=bs HB hb; clear hb hbox hg) | ((with_reducible refine Qac (N:=4) rfl ?_); refine bx 4 #[.int .i64 0, .int .i64 0, .int .i64 0] 43 (h := ?_); intro gb234 hg w34 hbox hb; have BK234:=Zz.k (hbox); have GW234:=bz HB hg; have GE234:=bz HB hg; have NB233_234:=bn BK233 hg; have NB234_233:=bm BK233 hg; replace BK233:=bl BK233 hb; replace HB:=bs HB hb; clear hb hbox hg; have hnb35:=NB233_234.out; have hnc35:=NB234_233.out; obtain ⟨_,_,_,_,_,_,_,_,_,_,_,_,_,_,_,_,_,_,_,_,_,_⟩:=kc11 BK233) | ((with_reducible refine Qab (f:=84) rfl ?_); refine gl (some 8) Tryd.func84 #[.agg #[.int .i64 a0_0, .int .i64 a0_1, .int .i64 a0_2, .int .i64 a0_3, .int .i64 a0_4, .int .i64 a0_5, .string a0_6, .slice A0_7 l0_7.length c0_7, .int .i64 a0_8, .int .i64 a0_9, .int .i64 a0_10]] (h := ?_); (with_reducible refine (op_May.calls k a0_0 a0_1 a0_2 a0_3 a0_4 a0_5 a0_6 _ _ l0_7 a0_8 a0_9 a0_10 false _ ?side1 ?side2 A3.out).mono ?_); (case side1 => exact cb HR0_7 HB); (case side2 => exact HC0_7.out); rintro e w37 ⟨rfl,hb⟩; refine ⟨_,rfl, ?_⟩; replace BK233:=bl BK233 hb; replace BK234:=bl BK234 hb; replace HB:=bs HB hb; clear hb; obtain ⟨_,_,_,_,_,_⟩:=kc3 BK234))
  refine bodyPost_ret (results_ct rfl _ _ gb234 43 #[.int .i64 0, .int .i64 0, .int .i64 0] (0,0) _ rfl (bp (bp (bp (kk BK234) 0) 1) 2) Tryd.underlying43 rfl (by kernel_rfl)) rfl ?_
  exact ⟨re,bw HB⟩
 subst c4
 rw [if_pos rfl] at H
 by_cases c5 : a1 < 0
 ·rw [if_pos c5] at H
  have c5b0:=Zd c5
  clear c5
  simp only [Option.some.injEq,Prod.mk.injEq] at H
  obtain ⟨rfl,rfl,rfl,rfl⟩:=H
  go_enter Tryd.func49,Tryd.ntmps49
  go_wp2_with (first | ((with_reducible refine Qac (N:=2) rfl ?_); refine bx 2 #[.int .i64 a0_0, .int .i64 a0_1, .int .i64 a0_2, .int .i64 a0_3, .int .i64 a0_4, .int .i64 a0_5, .string a0_6, .slice A0_7 l0_7.length c0_7, .int .i64 a0_8, .int .i64 a0_9, .int .i64 a0_10] 55 (h := ?_); intro gb233 hg w6 hbox hb; have BK233:=Zz.k (hbox); have GW233:=bz HB hg; have GE233:=bz HB hg; replace HB:=bs HB hb; clear hb hbox hg) | ((with_reducible refine Qac (N:=4) rfl ?_); refine bx 4 #[.int .i64 0, .int .i64 0, .int .i64 0] 43 (h := ?_); intro gb234 hg w7 hbox hb; have BK234:=Zz.k (hbox); have GW234:=bz HB hg; have GE234:=bz HB hg; have NB233_234:=bn BK233 hg; have NB234_233:=bm BK233 hg; replace BK233:=bl BK233 hb; replace HB:=bs HB hb; clear hb hbox hg; have hnb8:=NB233_234.out; have hnc8:=NB234_233.out; obtain ⟨_,_,_,_,_,_,_,_,_,_,_,_,_,_,_,_,_,_,_,_,_,_⟩:=kc11 BK233) | ((with_reducible refine Qab (f:=84) rfl ?_); refine gl (some 8) Tryd.func84 #[.agg #[.int .i64 a0_0, .int .i64 a0_1, .int .i64 a0_2, .int .i64 a0_3, .int .i64 a0_4, .int .i64 a0_5, .string a0_6, .slice A0_7 l0_7.length c0_7, .int .i64 a0_8, .int .i64 a0_9, .int .i64 a0_10]] (h := ?_); (with_reducible refine (op_May.calls k a0_0 a0_1 a0_2 a0_3 a0_4 a0_5 a0_6 _ _ l0_7 a0_8 a0_9 a0_10 true _ ?side1 ?side2 A3.out).mono ?_); (case side1 => exact cb HR0_7 HB); (case side2 => exact HC0_7.out); rintro e w10 ⟨rfl,hb⟩; refine ⟨_,rfl, ?_⟩; replace BK233:=bl BK233 hb; replace BK234:=bl BK234 hb; replace HB:=bs HB hb; clear hb; obtain ⟨_,_,_,_,_,_⟩:=kc3 BK234))
  refine bodyPost_ret (results_ct rfl _ _ gb234 43 #[.int .i64 0, .int .i64 0, .int .i64 0] (0,0) _ rfl (bp (bp (bp (kk BK234) 0) 1) 2) Tryd.underlying43 rfl (by kernel_rfl)) rfl ?_
  exact ⟨re,bw HB⟩
 rw [if_neg c5] at H
 have c5b0:=Ze c5
 clear c5
 obtain ⟨t236,A12,H⟩:=bE H
 by_cases c13 : a1 >= t236
 ·rw [if_pos c13] at H
  have c13b0:=Zd c13
  clear c13
  simp only [Option.some.injEq,Prod.mk.injEq] at H
  obtain ⟨rfl,rfl,rfl,rfl⟩:=H
  go_enter Tryd.func49,Tryd.ntmps49
  go_wp2_with (first | ((with_reducible refine Qac (N:=2) rfl ?_); refine bx 2 #[.int .i64 a0_0, .int .i64 a0_1, .int .i64 a0_2, .int .i64 a0_3, .int .i64 a0_4, .int .i64 a0_5, .string a0_6, .slice A0_7 l0_7.length c0_7, .int .i64 a0_8, .int .i64 a0_9, .int .i64 a0_10] 55 (h := ?_); intro gb233 hg w14 hbox hb; have BK233:=Zz.k (hbox); have GW233:=bz HB hg; have GE233:=bz HB hg; replace HB:=bs HB hb; clear hb hbox hg) | ((with_reducible refine Qac (N:=4) rfl ?_); refine bx 4 #[.int .i64 0, .int .i64 0, .int .i64 0] 43 (h := ?_); intro gb234 hg w15 hbox hb; have BK234:=Zz.k (hbox); have GW234:=bz HB hg; have GE234:=bz HB hg; have NB233_234:=bn BK233 hg; have NB234_233:=bm BK233 hg; replace BK233:=bl BK233 hb; replace HB:=bs HB hb; clear hb hbox hg; have hnb16:=NB233_234.out; have hnc16:=NB234_233.out; obtain ⟨_,_,_,_,_,_,_,_,_,_,_,_,_,_,_,_,_,_,_,_,_,_⟩:=kc11 BK233) | ((with_reducible refine Qab (f:=84) rfl ?_); refine gl (some 8) Tryd.func84 #[.agg #[.int .i64 a0_0, .int .i64 a0_1, .int .i64 a0_2, .int .i64 a0_3, .int .i64 a0_4, .int .i64 a0_5, .string a0_6, .slice A0_7 l0_7.length c0_7, .int .i64 a0_8, .int .i64 a0_9, .int .i64 a0_10]] (h := ?_); (with_reducible refine (op_May.calls k a0_0 a0_1 a0_2 a0_3 a0_4 a0_5 a0_6 _ _ l0_7 a0_8 a0_9 a0_10 true _ ?side1 ?side2 A3.out).mono ?_); (case side1 => exact cb HR0_7 HB); (case side2 => exact HC0_7.out); rintro e w18 ⟨rfl,hb⟩; refine ⟨_,rfl, ?_⟩; replace BK233:=bl BK233 hb; replace BK234:=bl BK234 hb; replace HB:=bs HB hb; clear hb; obtain ⟨_,_,_,_,_,_,_,_,_,_,_,_,_,_,_,_,_,_,_,_,_,_⟩:=kc11 BK233) | (go_at_call 95; (with_reducible refine (op_Size.calls a0_0 a0_1 a0_2 a0_3 a0_4 a0_5 a0_6 _ _ l0_7 a0_8 a0_9 a0_10 t236 _ ?side1 ?side2 A12.out).mono ?_); (case side1 => exact cb HR0_7 HB); (case side2 => exact HC0_7.out); rintro e w20 ⟨rfl,hb⟩; replace BK233:=bl BK233 hb; replace BK234:=bl BK234 hb; replace HB:=bs HB hb; clear hb; obtain ⟨_,_,_,_,_,_⟩:=kc3 BK234))
  refine bodyPost_ret (results_ct rfl _ _ gb234 43 #[.int .i64 0, .int .i64 0, .int .i64 0] (0,0) _ rfl (bp (bp (bp (kk BK234) 0) 1) 2) Tryd.underlying43 rfl (by kernel_rfl)) rfl ?_
  exact ⟨re,bw HB⟩
 rw [if_neg c13] at H
 have c13b0:=Ze c13
 clear c13
 obtain ⟨⟨t237,t238,t239⟩,A22,H⟩:=bE H
 try dsimp only at H
 simp only [Option.some.injEq,Prod.mk.injEq] at H
 obtain ⟨rfl,rfl,rfl,rfl⟩:=H
 go_enter Tryd.func49,Tryd.ntmps49
 go_wp2_with (first | ((with_reducible refine Qac (N:=2) rfl ?_); refine bx 2 #[.int .i64 a0_0, .int .i64 a0_1, .int .i64 a0_2, .int .i64 a0_3, .int .i64 a0_4, .int .i64 a0_5, .string a0_6, .slice A0_7 l0_7.length c0_7, .int .i64 a0_8, .int .i64 a0_9, .int .i64 a0_10] 55 (h := ?_); intro gb233 hg w23 hbox hb; have BK233:=Zz.k (hbox); have GW233:=bz HB hg; have GE233:=bz HB hg; replace HB:=bs HB hb; clear hb hbox hg) | ((with_reducible refine Qac (N:=4) rfl ?_); refine bx 4 #[.int .i64 0, .int .i64 0, .int .i64 0] 43 (h := ?_); intro gb234 hg w24 hbox hb; have BK234:=Zz.k (hbox); have GW234:=bz HB hg; have GE234:=bz HB hg; have NB233_234:=bn BK233 hg; have NB234_233:=bm BK233 hg; replace BK233:=bl BK233 hb; replace HB:=bs HB hb; clear hb hbox hg; have hnb25:=NB233_234.out; have hnc25:=NB234_233.out; obtain ⟨_,_,_,_,_,_,_,_,_,_,_,_,_,_,_,_,_,_,_,_,_,_⟩:=kc11 BK233) | ((with_reducible refine Qab (f:=84) rfl ?_); refine gl (some 8) Tryd.func84 #[.agg #[.int .i64 a0_0, .int .i64 a0_1, .int .i64 a0_2, .int .i64 a0_3, .int .i64 a0_4, .int .i64 a0_5, .string a0_6, .slice A0_7 l0_7.length c0_7, .int .i64 a0_8, .int .i64 a0_9, .int .i64 a0_10]] (h := ?_); (with_reducible refine (op_May.calls k a0_0 a0_1 a0_2 a0_3 a0_4 a0_5 a0_6 _ _ l0_7 a0_8 a0_9 a0_10 true _ ?side1 ?side2 A3.out).mono ?_); (case side1 => exact cb HR0_7 HB); (case side2 => exact HC0_7.out); rintro e w27 ⟨rfl,hb⟩; refine ⟨_,rfl, ?_⟩; replace BK233:=bl BK233 hb; replace BK234:=bl BK234 hb; replace HB:=bs HB hb; clear hb; obtain ⟨_,_,_,_,_,_,_,_,_,_,_,_,_,_,_,_,_,_,_,_,_,_⟩:=kc11 BK233) | (go_at_call 95; (with_reducible refine (op_Size.calls a0_0 a0_1 a0_2 a0_3 a0_4 a0_5 a0_6 _ _ l0_7 a0_8 a0_9 a0_10 t236 _ ?side1 ?side2 A12.out).mono ?_); (case side1 => exact cb HR0_7 HB); (case side2 => exact HC0_7.out); rintro e w29 ⟨rfl,hb⟩; replace BK233:=bl BK233 hb; replace BK234:=bl BK234 hb; replace HB:=bs HB hb; clear hb; obtain ⟨_,_,_,_,_,_,_,_,_,_,_,_,_,_,_,_,_,_,_,_,_,_⟩:=kc11 BK233) | ((with_reducible refine Qab (f:=96) rfl ?_); refine gl (some 23) Tryd.func96 #[.agg #[.int .i64 a0_0, .int .i64 a0_1, .int .i64 a0_2, .int .i64 a0_3, .int .i64 a0_4, .int .i64 a0_5, .string a0_6, .slice A0_7 l0_7.length c0_7, .int .i64 a0_8, .int .i64 a0_9, .int .i64 a0_10], .int .i64 a1] (h := ?_); (with_reducible refine (op_At.calls a0_0 a0_1 a0_2 a0_3 a0_4 a0_5 a0_6 _ _ l0_7 a0_8 a0_9 a0_10 a1 t237 t238 t239 _ ?side1 ?side2 A22.out).mono ?_); (case side1 => exact cb HR0_7 HB); (case side2 => exact HC0_7.out); rintro e w31 ⟨rfl,hb⟩; refine ⟨_,rfl, ?_⟩; replace BK233:=bl BK233 hb; replace BK234:=bl BK234 hb; replace HB:=bs HB hb; clear hb; obtain ⟨_,_,_,_,_,_⟩:=kc3 BK234))
 refine bodyPost_ret (results_ct rfl _ _ gb234 43 #[.int .i64 t237, .int .i64 t238, .int .i64 t239] (0,0) _ rfl (bp (bp (bp (kk BK234) 0) 1) 2) Tryd.underlying43 rfl (by kernel_rfl)) rfl ?_
 exact ⟨re,bw HB⟩
def w4_wakes.f (k : Nat)  : Option (Bool):=(op_Elems.f k 1 1 1 0 0 0 (⟨#[97,98]⟩ : ByteArray) ([] : List (SElem)) 0 0 0).bind fun bt241 => ((op_Own.f k 1 1 1 0 0 0 (⟨#[97,98]⟩ : ByteArray) ([] : List (SElem)) 0 0 0 1).bind fun bt245 => ((op_Check.f k 1 1 1 0 0 0 (⟨#[97,98]⟩ : ByteArray) ([] : List (SElem)) 0 0 0).bind fun t250 => ((w4_num.f t250).bind fun t251 => (if t251 = 0 then ((w4_num.f bt241.2).bind fun t252 => (if t252 = 0 then ((w4_num.f bt245.2.2.2).bind fun t253 => (if t253 = 0 then (if (bt241.1.length : Int) = 2 then (some (bt245.1 == 1 && (bt245.2.1 == 1 && (bt245.2.2.1 == 1)))) else (some false)) else (some false))) else (some false))) else (some false)))))
theorem w4_wakes.mono : ∀ k,LeO (w4_wakes.f k ) (w4_wakes.f (k + 1) ):=by
 intro  k
 unfold w4_wakes.f
 repeat' first
   | (with_reducible exact op_Check.mono _ _ _ _ _ _ _ _ _ _ _ _)
   | (with_reducible exact op_Elems.mono _ _ _ _ _ _ _ _ _ _ _ _)
   | (with_reducible exact op_Own.mono _ _ _ _ _ _ _ _ _ _ _ _ _)
   | (with_reducible exact LeO.refl _)
   | (with_reducible exact LeO.none _)
   | (with_reducible refine LeO.ite ?_ ?_)
   | (with_reducible refine LeO.bind ?_ (fun _ => ?_))
   | exact op_Check.mono _ _ _ _ _ _ _ _ _ _ _ _
   | exact op_Elems.mono _ _ _ _ _ _ _ _ _ _ _ _
   | exact op_Own.mono _ _ _ _ _ _ _ _ _ _ _ _ _
   | exact LeO.none _
   | refine LeO.ite ?_ ?_
   | refine LeO.bind ?_ (fun _ => ?_)
theorem w4_wakes.calls (k : Nat)  (r : Bool) (w : World) (h : w4_wakes.f k  = some r) :
  Calls Tryd.prog 45 #[] w fun e w' => e = .returned (.bool r) /\ Below w.heap.size w w':=by
 have hu55:=Tryd.underlying55
 have hu43:=Tryd.underlying43
 have HB:=Zz.k (Below.refl w.heap.size w)
 unfold w4_wakes.f at h; have H:=h
 clear h
 obtain ⟨⟨t241,t244⟩,A1,H⟩:=bE H
 try dsimp only at H
 obtain ⟨⟨t245,t246,t247,t248⟩,A2,H⟩:=bE H
 try dsimp only at H
 obtain ⟨t250,A3,H⟩:=bE H
 obtain ⟨t251,A4,H⟩:=bE H
 by_cases c5 : t251 = 0; rotate_left
 ·rw [if_neg c5] at H
  obtain ⟨c5b0,c5b1⟩:=bF c5
  obtain rfl:=Zo H
  go_enter Tryd.func45,Tryd.ntmps45
  go_wp2_with (first | ((with_reducible refine Qac (N:=1) rfl ?_); (try (refine Qal (by rfl) ?_; dsimp only)); refine bx 1 #[.int .i64 0, .int .i64 0, .int .i64 0, .int .i64 0, .int .i64 0, .int .i64 0, .string (⟨#[]⟩ : ByteArray), .slice none 0 0, .int .i64 0, .int .i64 0, .int .i64 0] 55 (h := ?_); intro gb240 hg w54 hbox hb; have BK240:=Zz.k (hbox); have GW240:=bz HB hg; have GE240:=bz HB hg; replace HB:=bs HB hb; clear hb hbox hg; obtain ⟨_,_,_,_,_,_,_,_,_,_,_,_,_,_,_,_,_,_,_,_,_,_⟩:=kc11 BK240) | ((with_reducible refine Qab (f:=47) rfl ?_); refine gl (some 9) Tryd.func47 #[.agg #[.int .i64 1, .int .i64 1, .int .i64 1, .int .i64 0, .int .i64 0, .int .i64 0, .string (⟨#[97,98]⟩ : ByteArray), .slice none 0 0, .int .i64 0, .int .i64 0, .int .i64 0]] (h := ?_); (refine (op_Elems.calls k 1 1 1 0 0 0 (⟨#[97,98]⟩ : ByteArray) _ _ ([] : List (SElem)) 0 0 0 t241 t244 _ ?side1 ?side2 A1.out).mono ?_); (case side1 => exact Kd.C_nil _ _); (case side2 => exact Nat.le_refl _); rintro e w56 ⟨v242,rfl,ho0,hb⟩; refine ⟨_,rfl, ?_⟩; have HO243:=Zz.k (Kd.R_lower ho0 (Qar (bw HB))); replace BK240:=Zz.k (Qbf (bp11 (kk BK240)) hb); replace HB:=bs HB hb; clear hb; clear ho0; obtain ⟨_,_,_,_,_,_,_,_,_,_,_,_,_,_,_,_,_,_,_,_,_,_⟩:=kc11 BK240) | ((with_reducible refine Qab (f:=49) rfl ?_); refine gl (some 14) Tryd.func49 #[.agg #[.int .i64 1, .int .i64 1, .int .i64 1, .int .i64 0, .int .i64 0, .int .i64 0, .string (⟨#[97,98]⟩ : ByteArray), .slice none 0 0, .int .i64 0, .int .i64 0, .int .i64 0], .int .i64 1] (h := ?_); (refine (op_Own.calls k 1 1 1 0 0 0 (⟨#[97,98]⟩ : ByteArray) _ _ ([] : List (SElem)) 0 0 0 1 t245 t246 t247 t248 _ ?side1 ?side2 A2.out).mono ?_); (case side1 => exact Kd.C_nil _ _); (case side2 => exact Nat.le_refl _); rintro e w58 ⟨rfl,hb⟩; refine ⟨_,rfl, ?_⟩; replace HO243:=rb HO243 hb; replace BK240:=bl BK240 hb; replace HB:=bs HB hb; clear hb) | ((with_reducible refine Qac (N:=4) rfl ?_); (try (refine Qal (by rfl) ?_; dsimp only)); refine bx 4 #[.int .i64 0, .int .i64 0, .int .i64 0] 43 (h := ?_); intro gb249 hg w59 hbox hb; have BK249:=Zz.k (hbox); have GW249:=bz HB hg; have GE249:=bz HB hg; have NB240_249:=bn BK240 hg; have NB249_240:=bm BK240 hg; replace HO243:=Zz.k (Kd.R_below (Kd.R_elderB (rk HO243) gb249 (Nat.le_of_eq hg.symm)) hb); replace BK240:=bl BK240 hb; replace HB:=bs HB hb; clear hb hbox hg; have hnb60:=NB249_240.out; have hnc60:=NB240_249.out; obtain ⟨_,_,_,_,_,_⟩:=kc3 BK249; obtain ⟨_,_,_,_,_,_,_,_,_,_,_,_,_,_,_,_,_,_,_,_,_,_⟩:=kc11 BK240) | ((with_reducible refine Qab (f:=43) rfl ?_); refine gl (some 18) Tryd.func43 #[.agg #[.int .i64 1, .int .i64 1, .int .i64 1, .int .i64 0, .int .i64 0, .int .i64 0, .string (⟨#[97,98]⟩ : ByteArray), .slice none 0 0, .int .i64 0, .int .i64 0, .int .i64 0]] (h := ?_); (refine (op_Check.calls k 1 1 1 0 0 0 (⟨#[97,98]⟩ : ByteArray) _ _ ([] : List (SElem)) 0 0 0 t250 _ ?side1 ?side2 A3.out).mono ?_); (case side1 => exact Kd.C_nil _ _); (case side2 => exact Nat.le_refl _); rintro e w63 ⟨rfl,hb⟩; refine ⟨_,rfl, ?_⟩; replace HO243:=Zz.k (Kd.R_below (by (with_reducible repeat (first | apply Kd.R_alloc | apply Kd.R_drewN | apply Kd.R_drew)); exact (Kd.R_mono (Kd.R_far (p:=⟨gb249,2,none⟩) (Kd.R_far (p:=⟨gb249,1,none⟩) (Kd.R_far (p:=⟨gb249,0,none⟩) (Kd.R_mono HO243.out (fun k_ hk => (⟨hk,hk.2⟩ : _ /\ k_ ≠ gb249))) (fun _ hk => hk.2) (.int .i64 t245)) (fun _ hk => hk.2) (.int .i64 t246)) (fun _ hk => hk.2) (.int .i64 t247)) (fun _ h_ => h_.1))) hb); replace BK240:=bl BK240 hb; replace BK249:=Zz.k (Qbf (g:=gb249) (o:=.cells #[.int .i64 t245, .int .i64 t246, .int .i64 t247] 43 (0,0)) (bp (bp (bp (kk BK249) 0) 1) 2) hb); replace HB:=bs HB hb; clear hb) | ((with_reducible refine Qab (f:=42) rfl ?_); refine gl (some 19) Tryd.func42 #[.int .i64 t250] (h := ?_); (with_reducible refine (w4_num.calls t250 t251 _ A4.out).mono ?_); rintro e w' ⟨rfl,⟨nd,rfl⟩⟩; refine ⟨_,rfl, ?_⟩))
  go_ret
  exact ⟨re,bw HB⟩
 rw [if_pos c5] at H
 obtain ⟨c5b0,c5b1⟩:=bT c5
 clear c5
 obtain ⟨t252,A6,H⟩:=bE H
 by_cases c7 : t252 = 0; rotate_left
 ·rw [if_neg c7] at H
  obtain ⟨c7b0,c7b1⟩:=bF c7
  obtain rfl:=Zo H
  go_enter Tryd.func45,Tryd.ntmps45
  go_wp2_with (first | ((with_reducible refine Qac (N:=1) rfl ?_); (try (refine Qal (by rfl) ?_; dsimp only)); refine bx 1 #[.int .i64 0, .int .i64 0, .int .i64 0, .int .i64 0, .int .i64 0, .int .i64 0, .string (⟨#[]⟩ : ByteArray), .slice none 0 0, .int .i64 0, .int .i64 0, .int .i64 0] 55 (h := ?_); intro gb240 hg w44 hbox hb; have BK240:=Zz.k (hbox); have GW240:=bz HB hg; have GE240:=bz HB hg; replace HB:=bs HB hb; clear hb hbox hg; obtain ⟨_,_,_,_,_,_,_,_,_,_,_,_,_,_,_,_,_,_,_,_,_,_⟩:=kc11 BK240) | ((with_reducible refine Qab (f:=47) rfl ?_); refine gl (some 9) Tryd.func47 #[.agg #[.int .i64 1, .int .i64 1, .int .i64 1, .int .i64 0, .int .i64 0, .int .i64 0, .string (⟨#[97,98]⟩ : ByteArray), .slice none 0 0, .int .i64 0, .int .i64 0, .int .i64 0]] (h := ?_); (refine (op_Elems.calls k 1 1 1 0 0 0 (⟨#[97,98]⟩ : ByteArray) _ _ ([] : List (SElem)) 0 0 0 t241 t244 _ ?side1 ?side2 A1.out).mono ?_); (case side1 => exact Kd.C_nil _ _); (case side2 => exact Nat.le_refl _); rintro e w46 ⟨v242,rfl,ho0,hb⟩; refine ⟨_,rfl, ?_⟩; have HO243:=Zz.k (Kd.R_lower ho0 (Qar (bw HB))); replace BK240:=Zz.k (Qbf (bp11 (kk BK240)) hb); replace HB:=bs HB hb; clear hb; clear ho0; obtain ⟨_,_,_,_,_,_,_,_,_,_,_,_,_,_,_,_,_,_,_,_,_,_⟩:=kc11 BK240) | ((with_reducible refine Qab (f:=49) rfl ?_); refine gl (some 14) Tryd.func49 #[.agg #[.int .i64 1, .int .i64 1, .int .i64 1, .int .i64 0, .int .i64 0, .int .i64 0, .string (⟨#[97,98]⟩ : ByteArray), .slice none 0 0, .int .i64 0, .int .i64 0, .int .i64 0], .int .i64 1] (h := ?_); (refine (op_Own.calls k 1 1 1 0 0 0 (⟨#[97,98]⟩ : ByteArray) _ _ ([] : List (SElem)) 0 0 0 1 t245 t246 t247 t248 _ ?side1 ?side2 A2.out).mono ?_); (case side1 => exact Kd.C_nil _ _); (case side2 => exact Nat.le_refl _); rintro e w48 ⟨rfl,hb⟩; refine ⟨_,rfl, ?_⟩; replace HO243:=rb HO243 hb; replace BK240:=bl BK240 hb; replace HB:=bs HB hb; clear hb) | ((with_reducible refine Qac (N:=4) rfl ?_); (try (refine Qal (by rfl) ?_; dsimp only)); refine bx 4 #[.int .i64 0, .int .i64 0, .int .i64 0] 43 (h := ?_); intro gb249 hg w49 hbox hb; have BK249:=Zz.k (hbox); have GW249:=bz HB hg; have GE249:=bz HB hg; have NB240_249:=bn BK240 hg; have NB249_240:=bm BK240 hg; replace HO243:=Zz.k (Kd.R_below (Kd.R_elderB (rk HO243) gb249 (Nat.le_of_eq hg.symm)) hb); replace BK240:=bl BK240 hb; replace HB:=bs HB hb; clear hb hbox hg; have hnb50:=NB249_240.out; have hnc50:=NB240_249.out; obtain ⟨_,_,_,_,_,_⟩:=kc3 BK249; obtain ⟨_,_,_,_,_,_,_,_,_,_,_,_,_,_,_,_,_,_,_,_,_,_⟩:=kc11 BK240) | ((with_reducible refine Qab (f:=43) rfl ?_); refine gl (some 18) Tryd.func43 #[.agg #[.int .i64 1, .int .i64 1, .int .i64 1, .int .i64 0, .int .i64 0, .int .i64 0, .string (⟨#[97,98]⟩ : ByteArray), .slice none 0 0, .int .i64 0, .int .i64 0, .int .i64 0]] (h := ?_); (refine (op_Check.calls k 1 1 1 0 0 0 (⟨#[97,98]⟩ : ByteArray) _ _ ([] : List (SElem)) 0 0 0 t250 _ ?side1 ?side2 A3.out).mono ?_); (case side1 => exact Kd.C_nil _ _); (case side2 => exact Nat.le_refl _); rintro e w53 ⟨rfl,hb⟩; refine ⟨_,rfl, ?_⟩; replace HO243:=Zz.k (Kd.R_below (by (with_reducible repeat (first | apply Kd.R_alloc | apply Kd.R_drewN | apply Kd.R_drew)); exact (Kd.R_mono (Kd.R_far (p:=⟨gb249,2,none⟩) (Kd.R_far (p:=⟨gb249,1,none⟩) (Kd.R_far (p:=⟨gb249,0,none⟩) (Kd.R_mono HO243.out (fun k_ hk => (⟨hk,hk.2⟩ : _ /\ k_ ≠ gb249))) (fun _ hk => hk.2) (.int .i64 t245)) (fun _ hk => hk.2) (.int .i64 t246)) (fun _ hk => hk.2) (.int .i64 t247)) (fun _ h_ => h_.1))) hb); replace BK240:=bl BK240 hb; replace BK249:=Zz.k (Qbf (g:=gb249) (o:=.cells #[.int .i64 t245, .int .i64 t246, .int .i64 t247] 43 (0,0)) (bp (bp (bp (kk BK249) 0) 1) 2) hb); replace HB:=bs HB hb; clear hb) | ((with_reducible refine Qab (f:=42) rfl ?_); refine gl (some 19) Tryd.func42 #[.int .i64 t250] (h := ?_); (with_reducible refine (w4_num.calls t250 t251 _ A4.out).mono ?_); rintro e w' ⟨rfl,⟨nd,rfl⟩⟩; refine ⟨_,rfl, ?_⟩) | (go_at_call 42; (with_reducible refine (w4_num.calls t244 t252 _ A6.out).mono ?_); rintro e w' ⟨rfl,⟨nd,rfl⟩⟩))
  go_ret
  exact ⟨re,bw HB⟩
 rw [if_pos c7] at H
 obtain ⟨c7b0,c7b1⟩:=bT c7
 clear c7
 obtain ⟨t253,A8,H⟩:=bE H
 by_cases c9 : t253 = 0; rotate_left
 ·rw [if_neg c9] at H
  obtain ⟨c9b0,c9b1⟩:=bF c9
  obtain rfl:=Zo H
  go_enter Tryd.func45,Tryd.ntmps45
  go_wp2_with (first | ((with_reducible refine Qac (N:=1) rfl ?_); (try (refine Qal (by rfl) ?_; dsimp only)); refine bx 1 #[.int .i64 0, .int .i64 0, .int .i64 0, .int .i64 0, .int .i64 0, .int .i64 0, .string (⟨#[]⟩ : ByteArray), .slice none 0 0, .int .i64 0, .int .i64 0, .int .i64 0] 55 (h := ?_); intro gb240 hg w34 hbox hb; have BK240:=Zz.k (hbox); have GW240:=bz HB hg; have GE240:=bz HB hg; replace HB:=bs HB hb; clear hb hbox hg; obtain ⟨_,_,_,_,_,_,_,_,_,_,_,_,_,_,_,_,_,_,_,_,_,_⟩:=kc11 BK240) | ((with_reducible refine Qab (f:=47) rfl ?_); refine gl (some 9) Tryd.func47 #[.agg #[.int .i64 1, .int .i64 1, .int .i64 1, .int .i64 0, .int .i64 0, .int .i64 0, .string (⟨#[97,98]⟩ : ByteArray), .slice none 0 0, .int .i64 0, .int .i64 0, .int .i64 0]] (h := ?_); (refine (op_Elems.calls k 1 1 1 0 0 0 (⟨#[97,98]⟩ : ByteArray) _ _ ([] : List (SElem)) 0 0 0 t241 t244 _ ?side1 ?side2 A1.out).mono ?_); (case side1 => exact Kd.C_nil _ _); (case side2 => exact Nat.le_refl _); rintro e w36 ⟨v242,rfl,ho0,hb⟩; refine ⟨_,rfl, ?_⟩; have HO243:=Zz.k (Kd.R_lower ho0 (Qar (bw HB))); replace BK240:=Zz.k (Qbf (bp11 (kk BK240)) hb); replace HB:=bs HB hb; clear hb; clear ho0; obtain ⟨_,_,_,_,_,_,_,_,_,_,_,_,_,_,_,_,_,_,_,_,_,_⟩:=kc11 BK240) | ((with_reducible refine Qab (f:=49) rfl ?_); refine gl (some 14) Tryd.func49 #[.agg #[.int .i64 1, .int .i64 1, .int .i64 1, .int .i64 0, .int .i64 0, .int .i64 0, .string (⟨#[97,98]⟩ : ByteArray), .slice none 0 0, .int .i64 0, .int .i64 0, .int .i64 0], .int .i64 1] (h := ?_); (refine (op_Own.calls k 1 1 1 0 0 0 (⟨#[97,98]⟩ : ByteArray) _ _ ([] : List (SElem)) 0 0 0 1 t245 t246 t247 t248 _ ?side1 ?side2 A2.out).mono ?_); (case side1 => exact Kd.C_nil _ _); (case side2 => exact Nat.le_refl _); rintro e w38 ⟨rfl,hb⟩; refine ⟨_,rfl, ?_⟩; replace HO243:=rb HO243 hb; replace BK240:=bl BK240 hb; replace HB:=bs HB hb; clear hb) | ((with_reducible refine Qac (N:=4) rfl ?_); (try (refine Qal (by rfl) ?_; dsimp only)); refine bx 4 #[.int .i64 0, .int .i64 0, .int .i64 0] 43 (h := ?_); intro gb249 hg w39 hbox hb; have BK249:=Zz.k (hbox); have GW249:=bz HB hg; have GE249:=bz HB hg; have NB240_249:=bn BK240 hg; have NB249_240:=bm BK240 hg; replace HO243:=Zz.k (Kd.R_below (Kd.R_elderB (rk HO243) gb249 (Nat.le_of_eq hg.symm)) hb); replace BK240:=bl BK240 hb; replace HB:=bs HB hb; clear hb hbox hg; have hnb40:=NB249_240.out; have hnc40:=NB240_249.out; obtain ⟨_,_,_,_,_,_⟩:=kc3 BK249; obtain ⟨_,_,_,_,_,_,_,_,_,_,_,_,_,_,_,_,_,_,_,_,_,_⟩:=kc11 BK240) | ((with_reducible refine Qab (f:=43) rfl ?_); refine gl (some 18) Tryd.func43 #[.agg #[.int .i64 1, .int .i64 1, .int .i64 1, .int .i64 0, .int .i64 0, .int .i64 0, .string (⟨#[97,98]⟩ : ByteArray), .slice none 0 0, .int .i64 0, .int .i64 0, .int .i64 0]] (h := ?_); (refine (op_Check.calls k 1 1 1 0 0 0 (⟨#[97,98]⟩ : ByteArray) _ _ ([] : List (SElem)) 0 0 0 t250 _ ?side1 ?side2 A3.out).mono ?_); (case side1 => exact Kd.C_nil _ _); (case side2 => exact Nat.le_refl _); rintro e w43 ⟨rfl,hb⟩; refine ⟨_,rfl, ?_⟩; replace HO243:=Zz.k (Kd.R_below (by (with_reducible repeat (first | apply Kd.R_alloc | apply Kd.R_drewN | apply Kd.R_drew)); exact (Kd.R_mono (Kd.R_far (p:=⟨gb249,2,none⟩) (Kd.R_far (p:=⟨gb249,1,none⟩) (Kd.R_far (p:=⟨gb249,0,none⟩) (Kd.R_mono HO243.out (fun k_ hk => (⟨hk,hk.2⟩ : _ /\ k_ ≠ gb249))) (fun _ hk => hk.2) (.int .i64 t245)) (fun _ hk => hk.2) (.int .i64 t246)) (fun _ hk => hk.2) (.int .i64 t247)) (fun _ h_ => h_.1))) hb); replace BK240:=bl BK240 hb; replace BK249:=Zz.k (Qbf (g:=gb249) (o:=.cells #[.int .i64 t245, .int .i64 t246, .int .i64 t247] 43 (0,0)) (bp (bp (bp (kk BK249) 0) 1) 2) hb); replace HB:=bs HB hb; clear hb) | ((with_reducible refine Qab (f:=42) rfl ?_); refine gl (some 19) Tryd.func42 #[.int .i64 t250] (h := ?_); (with_reducible refine (w4_num.calls t250 t251 _ A4.out).mono ?_); rintro e w' ⟨rfl,⟨nd,rfl⟩⟩; refine ⟨_,rfl, ?_⟩) | (go_at_call 42; (with_reducible refine (w4_num.calls t244 t252 _ A6.out).mono ?_); rintro e w' ⟨rfl,⟨nd,rfl⟩⟩) | (go_at_call 42; (with_reducible refine (w4_num.calls t248 t253 _ A8.out).mono ?_); rintro e w' ⟨rfl,⟨nd,rfl⟩⟩))
  go_ret
  exact ⟨re,bw HB⟩
 rw [if_pos c9] at H
 obtain ⟨c9b0,c9b1⟩:=bT c9
 clear c9
 by_cases c10 : (t241.length : Int) = 2
 ·rw [if_pos c10] at H
  obtain ⟨c10b0,c10b1⟩:=bT c10
  clear c10
  obtain rfl:=Zo H
  go_enter Tryd.func45,Tryd.ntmps45
  go_wp2_with (first | ((with_reducible refine Qac (N:=1) rfl ?_); (try (refine Qal (by rfl) ?_; dsimp only)); refine bx 1 #[.int .i64 0, .int .i64 0, .int .i64 0, .int .i64 0, .int .i64 0, .int .i64 0, .string (⟨#[]⟩ : ByteArray), .slice none 0 0, .int .i64 0, .int .i64 0, .int .i64 0] 55 (h := ?_); intro gb240 hg w11 hbox hb; have BK240:=Zz.k (hbox); have GW240:=bz HB hg; have GE240:=bz HB hg; replace HB:=bs HB hb; clear hb hbox hg; obtain ⟨_,_,_,_,_,_,_,_,_,_,_,_,_,_,_,_,_,_,_,_,_,_⟩:=kc11 BK240) | ((with_reducible refine Qab (f:=47) rfl ?_); refine gl (some 9) Tryd.func47 #[.agg #[.int .i64 1, .int .i64 1, .int .i64 1, .int .i64 0, .int .i64 0, .int .i64 0, .string (⟨#[97,98]⟩ : ByteArray), .slice none 0 0, .int .i64 0, .int .i64 0, .int .i64 0]] (h := ?_); (refine (op_Elems.calls k 1 1 1 0 0 0 (⟨#[97,98]⟩ : ByteArray) _ _ ([] : List (SElem)) 0 0 0 t241 t244 _ ?side1 ?side2 A1.out).mono ?_); (case side1 => exact Kd.C_nil _ _); (case side2 => exact Nat.le_refl _); rintro e w13 ⟨v242,rfl,ho0,hb⟩; refine ⟨_,rfl, ?_⟩; have HO243:=Zz.k (Kd.R_lower ho0 (Qar (bw HB))); replace BK240:=Zz.k (Qbf (bp11 (kk BK240)) hb); replace HB:=bs HB hb; clear hb; clear ho0; obtain ⟨_,_,_,_,_,_,_,_,_,_,_,_,_,_,_,_,_,_,_,_,_,_⟩:=kc11 BK240) | ((with_reducible refine Qab (f:=49) rfl ?_); refine gl (some 14) Tryd.func49 #[.agg #[.int .i64 1, .int .i64 1, .int .i64 1, .int .i64 0, .int .i64 0, .int .i64 0, .string (⟨#[97,98]⟩ : ByteArray), .slice none 0 0, .int .i64 0, .int .i64 0, .int .i64 0], .int .i64 1] (h := ?_); (refine (op_Own.calls k 1 1 1 0 0 0 (⟨#[97,98]⟩ : ByteArray) _ _ ([] : List (SElem)) 0 0 0 1 t245 t246 t247 t248 _ ?side1 ?side2 A2.out).mono ?_); (case side1 => exact Kd.C_nil _ _); (case side2 => exact Nat.le_refl _); rintro e w15 ⟨rfl,hb⟩; refine ⟨_,rfl, ?_⟩; replace HO243:=rb HO243 hb; replace BK240:=bl BK240 hb; replace HB:=bs HB hb; clear hb) | ((with_reducible refine Qac (N:=4) rfl ?_); (try (refine Qal (by rfl) ?_; dsimp only)); refine bx 4 #[.int .i64 0, .int .i64 0, .int .i64 0] 43 (h := ?_); intro gb249 hg w16 hbox hb; have BK249:=Zz.k (hbox); have GW249:=bz HB hg; have GE249:=bz HB hg; have NB240_249:=bn BK240 hg; have NB249_240:=bm BK240 hg; replace HO243:=Zz.k (Kd.R_below (Kd.R_elderB (rk HO243) gb249 (Nat.le_of_eq hg.symm)) hb); replace BK240:=bl BK240 hb; replace HB:=bs HB hb; clear hb hbox hg; have hnb17:=NB249_240.out; have hnc17:=NB240_249.out; obtain ⟨_,_,_,_,_,_⟩:=kc3 BK249; obtain ⟨_,_,_,_,_,_,_,_,_,_,_,_,_,_,_,_,_,_,_,_,_,_⟩:=kc11 BK240) | ((with_reducible refine Qab (f:=43) rfl ?_); refine gl (some 18) Tryd.func43 #[.agg #[.int .i64 1, .int .i64 1, .int .i64 1, .int .i64 0, .int .i64 0, .int .i64 0, .string (⟨#[97,98]⟩ : ByteArray), .slice none 0 0, .int .i64 0, .int .i64 0, .int .i64 0]] (h := ?_); (refine (op_Check.calls k 1 1 1 0 0 0 (⟨#[97,98]⟩ : ByteArray) _ _ ([] : List (SElem)) 0 0 0 t250 _ ?side1 ?side2 A3.out).mono ?_); (case side1 => exact Kd.C_nil _ _); (case side2 => exact Nat.le_refl _); rintro e w20 ⟨rfl,hb⟩; refine ⟨_,rfl, ?_⟩; replace HO243:=Zz.k (Kd.R_below (by (with_reducible repeat (first | apply Kd.R_alloc | apply Kd.R_drewN | apply Kd.R_drew)); exact (Kd.R_mono (Kd.R_far (p:=⟨gb249,2,none⟩) (Kd.R_far (p:=⟨gb249,1,none⟩) (Kd.R_far (p:=⟨gb249,0,none⟩) (Kd.R_mono HO243.out (fun k_ hk => (⟨hk,hk.2⟩ : _ /\ k_ ≠ gb249))) (fun _ hk => hk.2) (.int .i64 t245)) (fun _ hk => hk.2) (.int .i64 t246)) (fun _ hk => hk.2) (.int .i64 t247)) (fun _ h_ => h_.1))) hb); replace BK240:=bl BK240 hb; replace BK249:=Zz.k (Qbf (g:=gb249) (o:=.cells #[.int .i64 t245, .int .i64 t246, .int .i64 t247] 43 (0,0)) (bp (bp (bp (kk BK249) 0) 1) 2) hb); replace HB:=bs HB hb; clear hb) | ((with_reducible refine Qab (f:=42) rfl ?_); refine gl (some 19) Tryd.func42 #[.int .i64 t250] (h := ?_); (with_reducible refine (w4_num.calls t250 t251 _ A4.out).mono ?_); rintro e w' ⟨rfl,⟨nd,rfl⟩⟩; refine ⟨_,rfl, ?_⟩) | (go_at_call 42; (with_reducible refine (w4_num.calls t244 t252 _ A6.out).mono ?_); rintro e w' ⟨rfl,⟨nd,rfl⟩⟩) | (go_at_call 42; (with_reducible refine (w4_num.calls t248 t253 _ A8.out).mono ?_); rintro e w' ⟨rfl,⟨nd,rfl⟩⟩; obtain ⟨Ao21,co21,eo21⟩:=Kd.R_slice HO243.out; subst eo21; obtain ⟨_,_,_,_,_,_⟩:=kc3 BK249))
  go_ret
  exact ⟨re,bw HB⟩
 rw [if_neg c10] at H
 obtain ⟨c10b0,c10b1⟩:=bF c10
 obtain rfl:=Zo H
 go_enter Tryd.func45,Tryd.ntmps45
 go_wp2_with (first | ((with_reducible refine Qac (N:=1) rfl ?_); (try (refine Qal (by rfl) ?_; dsimp only)); refine bx 1 #[.int .i64 0, .int .i64 0, .int .i64 0, .int .i64 0, .int .i64 0, .int .i64 0, .string (⟨#[]⟩ : ByteArray), .slice none 0 0, .int .i64 0, .int .i64 0, .int .i64 0] 55 (h := ?_); intro gb240 hg w23 hbox hb; have BK240:=Zz.k (hbox); have GW240:=bz HB hg; have GE240:=bz HB hg; replace HB:=bs HB hb; clear hb hbox hg; obtain ⟨_,_,_,_,_,_,_,_,_,_,_,_,_,_,_,_,_,_,_,_,_,_⟩:=kc11 BK240) | ((with_reducible refine Qab (f:=47) rfl ?_); refine gl (some 9) Tryd.func47 #[.agg #[.int .i64 1, .int .i64 1, .int .i64 1, .int .i64 0, .int .i64 0, .int .i64 0, .string (⟨#[97,98]⟩ : ByteArray), .slice none 0 0, .int .i64 0, .int .i64 0, .int .i64 0]] (h := ?_); (refine (op_Elems.calls k 1 1 1 0 0 0 (⟨#[97,98]⟩ : ByteArray) _ _ ([] : List (SElem)) 0 0 0 t241 t244 _ ?side1 ?side2 A1.out).mono ?_); (case side1 => exact Kd.C_nil _ _); (case side2 => exact Nat.le_refl _); rintro e w25 ⟨v242,rfl,ho0,hb⟩; refine ⟨_,rfl, ?_⟩; have HO243:=Zz.k (Kd.R_lower ho0 (Qar (bw HB))); replace BK240:=Zz.k (Qbf (bp11 (kk BK240)) hb); replace HB:=bs HB hb; clear hb; clear ho0; obtain ⟨_,_,_,_,_,_,_,_,_,_,_,_,_,_,_,_,_,_,_,_,_,_⟩:=kc11 BK240) | ((with_reducible refine Qab (f:=49) rfl ?_); refine gl (some 14) Tryd.func49 #[.agg #[.int .i64 1, .int .i64 1, .int .i64 1, .int .i64 0, .int .i64 0, .int .i64 0, .string (⟨#[97,98]⟩ : ByteArray), .slice none 0 0, .int .i64 0, .int .i64 0, .int .i64 0], .int .i64 1] (h := ?_); (refine (op_Own.calls k 1 1 1 0 0 0 (⟨#[97,98]⟩ : ByteArray) _ _ ([] : List (SElem)) 0 0 0 1 t245 t246 t247 t248 _ ?side1 ?side2 A2.out).mono ?_); (case side1 => exact Kd.C_nil _ _); (case side2 => exact Nat.le_refl _); rintro e w27 ⟨rfl,hb⟩; refine ⟨_,rfl, ?_⟩; replace HO243:=rb HO243 hb; replace BK240:=bl BK240 hb; replace HB:=bs HB hb; clear hb) | ((with_reducible refine Qac (N:=4) rfl ?_); (try (refine Qal (by rfl) ?_; dsimp only)); refine bx 4 #[.int .i64 0, .int .i64 0, .int .i64 0] 43 (h := ?_); intro gb249 hg w28 hbox hb; have BK249:=Zz.k (hbox); have GW249:=bz HB hg; have GE249:=bz HB hg; have NB240_249:=bn BK240 hg; have NB249_240:=bm BK240 hg; replace HO243:=Zz.k (Kd.R_below (Kd.R_elderB (rk HO243) gb249 (Nat.le_of_eq hg.symm)) hb); replace BK240:=bl BK240 hb; replace HB:=bs HB hb; clear hb hbox hg; have hnb29:=NB249_240.out; have hnc29:=NB240_249.out; obtain ⟨_,_,_,_,_,_⟩:=kc3 BK249; obtain ⟨_,_,_,_,_,_,_,_,_,_,_,_,_,_,_,_,_,_,_,_,_,_⟩:=kc11 BK240) | ((with_reducible refine Qab (f:=43) rfl ?_); refine gl (some 18) Tryd.func43 #[.agg #[.int .i64 1, .int .i64 1, .int .i64 1, .int .i64 0, .int .i64 0, .int .i64 0, .string (⟨#[97,98]⟩ : ByteArray), .slice none 0 0, .int .i64 0, .int .i64 0, .int .i64 0]] (h := ?_); (refine (op_Check.calls k 1 1 1 0 0 0 (⟨#[97,98]⟩ : ByteArray) _ _ ([] : List (SElem)) 0 0 0 t250 _ ?side1 ?side2 A3.out).mono ?_); (case side1 => exact Kd.C_nil _ _); (case side2 => exact Nat.le_refl _); rintro e w32 ⟨rfl,hb⟩; refine ⟨_,rfl, ?_⟩; replace HO243:=Zz.k (Kd.R_below (by (with_reducible repeat (first | apply Kd.R_alloc | apply Kd.R_drewN | apply Kd.R_drew)); exact (Kd.R_mono (Kd.R_far (p:=⟨gb249,2,none⟩) (Kd.R_far (p:=⟨gb249,1,none⟩) (Kd.R_far (p:=⟨gb249,0,none⟩) (Kd.R_mono HO243.out (fun k_ hk => (⟨hk,hk.2⟩ : _ /\ k_ ≠ gb249))) (fun _ hk => hk.2) (.int .i64 t245)) (fun _ hk => hk.2) (.int .i64 t246)) (fun _ hk => hk.2) (.int .i64 t247)) (fun _ h_ => h_.1))) hb); replace BK240:=bl BK240 hb; replace BK249:=Zz.k (Qbf (g:=gb249) (o:=.cells #[.int .i64 t245, .int .i64 t246, .int .i64 t247] 43 (0,0)) (bp (bp (bp (kk BK249) 0) 1) 2) hb); replace HB:=bs HB hb; clear hb) | ((with_reducible refine Qab (f:=42) rfl ?_); refine gl (some 19) Tryd.func42 #[.int .i64 t250] (h := ?_); (with_reducible refine (w4_num.calls t250 t251 _ A4.out).mono ?_); rintro e w' ⟨rfl,⟨nd,rfl⟩⟩; refine ⟨_,rfl, ?_⟩) | (go_at_call 42; (with_reducible refine (w4_num.calls t244 t252 _ A6.out).mono ?_); rintro e w' ⟨rfl,⟨nd,rfl⟩⟩) | (go_at_call 42; (with_reducible refine (w4_num.calls t248 t253 _ A8.out).mono ?_); rintro e w' ⟨rfl,⟨nd,rfl⟩⟩; obtain ⟨Ao33,co33,eo33⟩:=Kd.R_slice HO243.out; subst eo33))
 go_ret
 exact ⟨re,bw HB⟩
end
section
structure GoodAsk4 (l0 : List SOp) (l1 : List SElem) (l2 : List Int) : Prop where
 n0 : l0.length <= 140737488351232
 r0 : ∀ o ∈ l0,o.f4.size <= 140737488351232 /\ o.f5.length <= 140737488351232
 n1 : l1.length <= 140737488351232
 n2 : l2.length <= 140737488351232
theorem wrap4 {i n : Nat} (h : i < n) (hn : n <= 4611686018427387904) : wrap64 ((i : Int) + 1) = ((i + 1 : Nat) : Int):=by
 rw [Qaq (by omega) (by omega)]; omega
theorem rd4_Op (l : List SOp) (i : Nat) (h : i < l.length) : Qaf l (i : Int) = l[i]:=by unfold Qaf; simp [h]
def tiny4 (o : SOp) : Prop:=o.f4.size <= 4000 /\ o.f5.length <= 1000
theorem Weight4 (l : List SOp) (hl : l.length <= 140737488351232) (hs : ∀ o ∈ l,o.f4.size <= 140737488351232 /\ o.f5.length <= 140737488351232) : ∀ d i (t : Int),i + d = l.length -> 0 <= t -> t <= 200000000000000 ->
  ∃ r,Ev (fun k => w0_OpsWeight.l0 k l t (i : Int)) r /\ t <= r /\ r <= 400000000000000 /\ (r <= 900 -> ∀ j (hj : j < l.length),i <= j -> tiny4 l[j])
 | 0,i,t,h,h0,h1 => ⟨t,Ev.step (f:=fun _ => some t) (fun k => by simp only [w0_OpsWeight.l0]; rw [if_neg (by omega)]) (Ev.now _),Int.le_refl _,by omega,fun _ j hj hij => by omega⟩
 | d + 1,i,t,h,h0,h1 => by
  by_cases ht : t < 1048576
  ·have hlt : i < l.length:=by omega
   have hb:=hs _ (List.getElem_mem hlt)
   have hw : wrap64 (t + (wrap64 ((wrap64 (2 + (wrap64 ((l[i].f4.size : Int) / 4)))) + (l[i].f5.length : Int)))) = t + (2 + (l[i].f4.size : Int) / 4 + (l[i].f5.length : Int)):=by
    rw [Qaq (i:=(l[i].f4.size : Int) / 4) (by omega) (by omega),Qaq (i:=2 + (l[i].f4.size : Int) / 4) (by omega) (by omega),Qaq (i:=2 + (l[i].f4.size : Int) / 4 + (l[i].f5.length : Int)) (by omega) (by omega),Qaq (by omega) (by omega)]
   obtain ⟨r,hr,r1,r2,r3⟩:=Weight4 l hl hs d (i + 1) (t + (2 + (l[i].f4.size : Int) / 4 + (l[i].f5.length : Int))) (by omega) (by omega) (by omega)
   rw [<- hw] at hr
   refine ⟨r,Ev.step (fun k => ?_) hr,by omega,r2,fun h9 j hj hij => ?_⟩
   ·simp only [w0_OpsWeight.l0]
    rw [if_pos (by omega),if_pos ht,if_pos (by omega),wrap4 hlt (by omega),rd4_Op _ _ hlt]
    rfl
   ·rcases Nat.lt_or_ge i j with hj2 | hj2
    ·exact r3 h9 j hj hj2
    ·obtain rfl : j = i:=by omega
     exact ⟨by omega,by omega⟩
  ·exact ⟨t,Ev.step (f:=fun _ => some t) (fun k => by simp only [w0_OpsWeight.l0]; rw [if_pos (by omega),if_neg ht]) (Ev.now _),Int.le_refl _,by omega,fun h9 => by omega⟩
theorem Heavy4 {l0 : List SOp} {l1 : List SElem} {l2 : List Int} (hg : GoodAsk4 l0 l1 l2) : ∃ b,Ev (fun k => w4_Heavy.f k l0 l1 l2) b /\ (b = false -> l0.length <= 900 /\ (∀ o ∈ l0,tiny4 o) /\ l1.length <= 900 /\ l2.length <= 900):=by
 have n0:=hg.n0
 have n1:=hg.n1
 have n2:=hg.n2
 obtain ⟨q,hq,q1,q2,q3⟩:=Weight4 l0 hg.n0 hg.r0 _ 0 (l0.length : Int) (Nat.zero_add _) (by omega) (by omega)
 have hw : wrap64 ((wrap64 (q + (l1.length : Int))) + (l2.length : Int)) = q + (l1.length : Int) + (l2.length : Int):=by
  rw [Qaq (i:=q + (l1.length : Int)) (by omega) (by omega),Qaq (by omega) (by omega)]
 refine ⟨_,Ev.bind (f:=fun _ q => some (decide ((wrap64 ((wrap64 (q + (l1.length : Int))) + (l2.length : Int))) > 900))) hq (Ev.now _),fun h => ?_⟩
 rw [hw] at h
 have:=of_decide_eq_false h
 refine ⟨by omega,fun o ho => ?_,by omega,by omega⟩
 obtain ⟨z,hz,rfl⟩:=List.getElem_of_mem ho
 exact q3 (by omega) z hz (Nat.zero_le _)
def chain4 (o : SOp) : List SElem:=(List.range (Qap o)).map fun j : Nat => (⟨o.f0,o.f1,(j : Int)⟩ : SElem)
theorem chain4_len (o : SOp) : (chain4 o).length = Qap o:=by unfold chain4; simp
theorem chain4_at (o : SOp) {j : Nat} (h : j < Qap o) : Qaa (chain4 o) (j : Int) = ⟨o.f0,o.f1,(j : Int)⟩:=by
 rw [Qam _ _ (by rw [chain4_len]; exact h)]; unfold chain4; simp
theorem All4_loop (o : SOp) (hs : Qap o <= 1000000) : ∀ d i,i + d = Qap o -> Ev (fun k => op_All.l0 k ((List.range i).map fun j : Nat => (⟨o.f0,o.f1,(j : Int)⟩ : SElem)) (Qap o : Int) (i : Int) o.f0 o.f1 o.f2 o.f3.f0 o.f3.f1 o.f3.f2 o.f4 o.f5 o.f6 o.f7 o.f8) (chain4 o)
 | 0,i,hi => by
  obtain rfl : i = Qap o:=by omega
  refine Ev.step (f:=fun _ => some (chain4 o)) (fun k => ?_) (Ev.now _)
  simp only [op_All.l0]
  rw [if_neg (by omega)]
  rfl
 | d + 1,i,hi => by
  have ih:=All4_loop o hs d (i + 1) (by omega)
  rw [List.range_succ,List.map_append] at ih
  refine Ev.step (fun k => ?_) ih
  simp only [op_All.l0]
  unfold op_At.f
  rw [if_pos (by omega),Option.bind_some,if_pos (by simp; omega),wrap4 (show i < Qap o by omega) (by omega)]
  rfl
theorem runesOf_nil4 (s : ByteArray) : (runesOf s).length = 0 ↔ s.toList.isEmpty = true:=by
 have e : s.toList.isEmpty = true ↔ s.size = 0:=by
  rw [ByteArray.toList_eq,<- data_length,List.isEmpty_iff,List.length_eq_zero_iff]
 rw [e]
 unfold runesOf
 constructor
 ·intro h
  cases hs : s.size with
  | zero => rfl
  | succ n => rw [hs] at h; unfold Qbt at h; rw [if_pos (by omega)] at h; simp at h
 ·intro h; rw [h]; rfl
theorem size4 {o : SOp} (h : opOk o = true) : Qap o <= 12:=by
 unfold opOk at h
 simp only [Bool.and_eq_true] at h
 obtain ⟨hn,h⟩:=h
 by_cases h1 : o.f2 = 1
 ·rw [if_pos h1] at h
  unfold editOk at h
  simp only [Bool.and_eq_true,decide_eq_true_eq] at h
  exact h.1.1.1.1.2
 ·rw [if_neg h1] at h
  simp only [Bool.and_eq_true] at h
  have h3:=h.2
  unfold toggleOk at h3
  simp only [Bool.and_eq_true] at h3
  have h4:=h3.1.2
  have:=(runesOf_nil4 o.f4).2 h4
  unfold Qap; omega
theorem Elems4 (o : SOp) (hs : Sm o) : Ev (fun k => op_Elems.f k o.f0 o.f1 o.f2 o.f3.f0 o.f3.f1 o.f3.f2 o.f4 o.f5 o.f6 o.f7 o.f8) (if opOk o = true then (chain4 o,0) else ([],1)):=by
 refine Ev.bind (f:=fun k t163 => if t163 = true then ((op_All.f k o.f0 o.f1 o.f2 o.f3.f0 o.f3.f1 o.f3.f2 o.f4 o.f5 o.f6 o.f7 o.f8).bind fun t164 => (some (t164,0))) else (some (([] : List (SElem)),1))) (op_May_f o hs) ?_
 cases h : opOk o
 ·exact Ev.now _
 ·simp only [if_true]
  refine Ev.bind (f:=fun _ t164 => some (t164,0)) (a:=chain4 o) ?_ (Ev.now _)
  refine Ev.congr (fun k => ?_) (All4_loop o (by have:=size4 h; omega) (Qap o) 0 (Nat.zero_add _))
  unfold op_All.f
  rw [op_Size_f o hs,Option.bind_some]
  rfl
theorem Check4 (o : SOp) (hs : Sm o) : Ev (fun k => op_Check.f k o.f0 o.f1 o.f2 o.f3.f0 o.f3.f1 o.f3.f2 o.f4 o.f5 o.f6 o.f7 o.f8) (if opOk o = true then 0 else 1):=by
 refine Ev.bind (f:=fun _ t153 => if t153 = true then (some 0) else (some 1)) (op_May_f o hs) ?_
 cases h : opOk o
 ·exact Ev.now _
 ·exact Ev.now _
theorem Own4 (o : SOp) (hs : Sm o) (n : Int) : Ev (fun k => op_Own.f k o.f0 o.f1 o.f2 o.f3.f0 o.f3.f1 o.f3.f2 o.f4 o.f5 o.f6 o.f7 o.f8 n) (if opOk o = true then (if 0 <= n /\ n < (Qap o : Int) then (o.f0,o.f1,n,0) else (0,0,0,2)) else (0,0,0,1)):=by
 refine Ev.bind (f:=fun _ t183 => if t183 = true then (if n < 0 then (some (0,0,0,2)) else ((op_Size.f o.f0 o.f1 o.f2 o.f3.f0 o.f3.f1 o.f3.f2 o.f4 o.f5 o.f6 o.f7 o.f8).bind fun t184 => (if n >= t184 then (some (0,0,0,2)) else ((op_At.f o.f0 o.f1 o.f2 o.f3.f0 o.f3.f1 o.f3.f2 o.f4 o.f5 o.f6 o.f7 o.f8 n).bind fun bt185 => (some (bt185.1,bt185.2.1,bt185.2.2,0)))))) else (some (0,0,0,1))) (op_May_f o hs) ?_
 cases h : opOk o
 ·exact Ev.now _
 ·refine Ev.congr (fun k => ?_) (Ev.now _)
  simp only [if_true]
  rw [op_Size_f o hs,Option.bind_some]
  by_cases h0 : n < 0
  ·rw [if_pos h0,if_neg (by omega)]
  ·rw [if_neg h0]
   by_cases h1 : n >= (Qap o : Int)
   ·rw [if_pos h1,if_neg (by omega)]
   ·rw [if_neg h1,if_pos (by omega)]; rfl
theorem needs4 (o : SOp) (hs : o.f4.size < 9223372036854775807) (hl : o.f5.length <= 900000) : op_Needs.f o.f0 o.f1 o.f2 o.f3.f0 o.f3.f1 o.f3.f2 o.f4 o.f5 o.f6 o.f7 o.f8 = some (if opOk o = true then (needsL o,0) else ([],1)):=by
 show needsF o = _
 unfold needsF
 rw [if_pos ⟨hs,hl⟩]
theorem tiny4_Sm {o : SOp} (h : tiny4 o) : Sm o:=⟨by have:=h.1; omega,by have:=h.2; omega⟩
end
section
theorem bytes1 {n B : Nat} (hB : 1 <= B) (h : n * B <= reachBytes) : n <= 140737488351232:=Nat.le_trans (Nat.le_mul_of_pos_right n hB) h
theorem GoodOp.le {o : SOp} (h : GoodOp o) : o.f4.size <= 140737488351232 /\ o.f5.length <= 140737488351232:=⟨h.1,bytes1 (of_decide_eq_true (by kernel_rfl)) h.2⟩
theorem GoodAsk4.of {l0 : List SOp} {l1 : List SElem} {l2 : List Int}
  (h0 : l0.length * Tryd.prog.bytesOf 55 <= reachBytes /\ ∀ x ∈ l0,GoodOp x)
  (h1 : l1.length * Tryd.prog.bytesOf 43 <= reachBytes /\ ∀ x ∈ l1,(Lit.int .i64 x.f0).wf = true /\ (Lit.int .i64 x.f1).wf = true /\ (Lit.int .i64 x.f2).wf = true)
  (h2 : l2.length * Tryd.prog.bytesOf 3 <= reachBytes /\ ∀ x ∈ l2,(Lit.int .i64 x).wf = true) : GoodAsk4 l0 l1 l2 :=
 ⟨bytes1 (of_decide_eq_true (by kernel_rfl)) h0.1,fun o ho => (h0.2 o ho).le,bytes1 (of_decide_eq_true (by kernel_rfl)) h1.1,bytes1 (of_decide_eq_true (by kernel_rfl)) h2.1⟩
theorem agg_of_cells {v : Value} {a b : Value} {l : List Value} (h : v.cells.toList = a :: b :: l) : v = .agg (a :: b :: l).toArray:=by
 cases v <;> simp [Value.cells] at h
 rw [<- h]
theorem opens_Ask (H : Type) : ∀ (enc : TypeId × Value -> H) (W : World) (base : Nat) (sp : Nat -> Bool) (held : Bool) (fuel : Nat) (cs : List Value) (x : DataW H × List MemPlace),DataW.trod enc Tryd.prog W base sp held fuel 61 cs = some x -> lightW Tryd.prog 61 x.1 ->
  ∃ A0 c0 l0 A1 c1 l1 A2 c2 l2,cs = [.slice A0 l0.length c0, .slice A1 l1.length c1, .slice A2 l2.length c2] /\ Kd.C kOp W A0 l0.length l0 /\ l0.length <= c0 /\ Kd.C Qak W A1 l1.length l1 /\ l1.length <= c1 /\ Kd.C (Kd.int .i64) W A2 l2.length l2 /\ l2.length <= c2 /\ GoodAsk4 l0 l1 l2:=by
 intro enc W base sp held fuel cs x h hl
 have hS:=Qcb.struct (H:=H) Tryd.underlying61 (by kernel_rfl)
  (Qbx.cons (opens_Ops H) (by kernel_rfl) rfl rfl (Qbx.cons (opens_Elems H) (by kernel_rfl) rfl rfl (Qbx.last (opens_Ints H) (by kernel_rfl) rfl rfl)))
 obtain ⟨⟨l0,l1,l2⟩,hp,hg⟩:=hS enc W base sp held fuel cs x h hl
 obtain ⟨_,_,rfl,⟨A0,c0,rfl,h0,g0⟩,⟨_,_,rfl,⟨A1,c1,rfl,h1,g1⟩,⟨A2,c2,rfl,h2,g2⟩⟩⟩:=hp
 exact ⟨A0,c0,l0,A1,c1,l1,A2,c2,l2,rfl,g0,h0,g1,h1,g2,h2,GoodAsk4.of hg.1 hg.2.1 hg.2.2⟩
end
end Go.Proofs.YtonoaflfobajcaaDoor.L
end

section
namespace Go.Proofs.YtonoaflfobajcaaDoor.door
open Go.Shelf Go.ChangeShapes Go.WideShapes Go.ChangeAt Go.RowKit Go.Lib Go.Proofs.YtonoaflfobajcaaDoor.L Go.Proofs.YtonoaflfobajcaaDoorW.PrintWords
set_option linter.unusedVariables false
set_option linter.unusedSimpArgs false
set_option maxHeartbeats 40000000
set_option maxRecDepth 1000000
section
theorem own : ownKnob Tryd.prog.godebug = none:=by kernel_rfl
theorem laidOut : laidOutB Tryd.prog = true:=by kernel_rfl
abbrev laid2 : List (String × DataW Unit) := [("unicode/utf8.acceptRanges", Rows.laid_unicode_utf8_acceptRanges), ("unicode/utf8.first", Rows.laid_unicode_utf8_first)]
theorem accept_eq : (Rows.laid_unicode_utf8_acceptRanges : DataW Unit) = Lib.acceptData:=by kernel_rfl
theorem first_eq : Rows.laid_unicode_utf8_first = Lib.firstData:=by kernel_rfl
theorem gt_of {W : World} (hL : laidMetH Tryd.prog laid2 W) : GT W:=by
 have h1:=Lib.laidMet.reads hL (.head _)
 have h2:=Lib.laidMet.reads hL (.tail _ (.head _))
 rw [accept_eq] at h1
 rw [first_eq] at h2
 exact utf8Tabs_of_reads Tryd.lays260 ⟨by kernel_rfl,by kernel_rfl,by kernel_rfl,by kernel_rfl,by kernel_rfl,by kernel_rfl,by kernel_rfl⟩ h2 h1
noncomputable def laidWorld (os : Os) : World :=
 let w0:=World.holding Tryd.prog os ⟨#[],#[],[]⟩
 let put (h : Array Obj) (g : Nat) (cs : Array Value) : Array Obj:=h.modify g fun
  | .cells _ t frozen => .cells cs t frozen
  | o => o
 let h1:=put w0.heap 0 (Lib.firstTab.map fun z => Value.int .u8 z).toArray
 let h2:=put h1 1 ((List.range 16).flatMap fun i => [Value.int .u8 (Lib.accLo i),Value.int .u8 (Lib.accHi i)]).toArray
 { w0 with heap:=h2 }
theorem laid_met (os : Os) (args : Array Value) : laidMet Tryd.prog laid2 ((laidWorld os).forCall (fun _ _ => 0) ⟨#[],args,[]⟩).memory :=
 (LaidIn.of_run (l:=laid2) [1,0] 8 (by kernel_rfl) (by kernel_rfl) (by kernel_rfl) (by kernel_rfl)).met
end
end Go.Proofs.YtonoaflfobajcaaDoor.door
end

section
namespace Go.Proofs.YtonoaflfobajcaaDoor.L
open Go.RowKit Go.Proofs.YtonoaflfobajcaaDoorW.PrintWords Go.Proofs.YtonoaflfobajcaaDoorW.PrintLast Go.Proofs.YtonoaflfobajcaaDoorW.PrintMore
set_option linter.unusedVariables false
set_option linter.unusedSimpArgs false
set_option maxHeartbeats 40000000
set_option maxRecDepth 1000000
section
attribute [local go_sem] Qbo Qbm Qbz Qby Qbd Qbc Qbn Qbl
attribute [local go_sem high] eqAElem
def r0_Num.f (a0 : Int) (a1 : Int) : Option (Bool):=if a0 >= 0 then (some (decide (a0 <= a1))) else (some false)
theorem r0_Num.calls (a0 : Int) (a1 : Int) (r : Bool) (w : World) (h : r0_Num.f a0 a1 = some r) :
  Calls Tryd.prog 50 #[.int .i64 a0, .int .i64 a1] w fun e w' => e = .returned (.bool r) /\ Drawn0 w w':=by
 unfold r0_Num.f at h; have H:=h
 clear h
 by_cases c3 : a0 >= 0
 ·rw [if_pos c3] at H
  have c3b0:=Zd c3
  clear c3
  obtain rfl:=Zo H
  go_enter Tryd.func50,Tryd.ntmps50
  go_wp2
  go_ret
  exact ⟨rf,by repeat (first | exact Drawn0.refl _ | apply Drawn0.step)⟩
 rw [if_neg c3] at H
 have c3b0:=Ze c3
 clear c3
 obtain rfl:=Zo H
 go_enter Tryd.func50,Tryd.ntmps50
 go_wp2
 go_ret
 exact ⟨rf,by repeat (first | exact Drawn0.refl _ | apply Drawn0.step)⟩
def r4_Begin.f (a0_0 : Int) (a0_1 : Int) (a0_2 : Int) : Option (Bool):=some (a0_0 == 0 && (a0_1 == 0 && (a0_2 == 0)))
theorem r4_Begin.calls (a0_0 : Int) (a0_1 : Int) (a0_2 : Int) (r : Bool) (w : World) (h : r4_Begin.f a0_0 a0_1 a0_2 = some r) :
  Calls Tryd.prog 62 #[.agg #[.int .i64 a0_0, .int .i64 a0_1, .int .i64 a0_2]] w fun e w' => e = .returned (.bool r) /\ Below w.heap.size w w':=by
 have hu43:=Tryd.underlying43
 have HB:=Zz.k (Below.refl w.heap.size w)
 unfold r4_Begin.f at h; have H:=h
 clear h
 obtain rfl:=Zo H
 go_enter Tryd.func62,Tryd.ntmps62
 go_wp2_with (first | ((with_reducible refine Qac (N:=1) rfl ?_); refine bx 1 #[.int .i64 a0_0, .int .i64 a0_1, .int .i64 a0_2] 43 (h := ?_); intro gb177 hg w2 hbox hb; have BK177:=Zz.k (hbox); have GW177:=bz HB hg; have GE177:=bz HB hg; replace HB:=bs HB hb; clear hb hbox hg; obtain ⟨_,_,_,_,_,_⟩:=kc3 BK177))
 go_ret
 exact ⟨re,bw HB⟩
def r0_Between.f (a0 : Int) (a1 : Int) (a2 : Int) : Option (Bool):=if a0 >= a1 then (some (decide (a0 <= a2))) else (some false)
theorem r0_Between.calls (a0 : Int) (a1 : Int) (a2 : Int) (r : Bool) (w : World) (h : r0_Between.f a0 a1 a2 = some r) :
  Calls Tryd.prog 124 #[.int .i64 a0, .int .i64 a1, .int .i64 a2] w fun e w' => e = .returned (.bool r) /\ Drawn0 w w':=by
 unfold r0_Between.f at h; have H:=h
 clear h
 by_cases c4 : a0 >= a1
 ·rw [if_pos c4] at H
  have c4b0:=Zd c4
  clear c4
  obtain rfl:=Zo H
  go_enter Tryd.func124,Tryd.ntmps124
  go_wp2
  go_ret
  exact ⟨rf,by repeat (first | exact Drawn0.refl _ | apply Drawn0.step)⟩
 rw [if_neg c4] at H
 have c4b0:=Ze c4
 clear c4
 obtain rfl:=Zo H
 go_enter Tryd.func124,Tryd.ntmps124
 go_wp2
 go_ret
 exact ⟨rf,by repeat (first | exact Drawn0.refl _ | apply Drawn0.step)⟩
def r4_name.f (a0 : Int) (a1 : Int) : Option (Bool):=(r0_Between.f a0 1 8).bind fun t178 => (if t178 = true then ((r0_Between.f a1 1 268435456).bind fun t179 => (some t179)) else (some false))
theorem r4_name.calls (a0 : Int) (a1 : Int) (r : Bool) (w : World) (h : r4_name.f a0 a1 = some r) :
  Calls Tryd.prog 91 #[.int .i64 a0, .int .i64 a1] w fun e w' => e = .returned (.bool r) /\ Drawn0 w w':=by
 unfold r4_name.f at h; have H:=h
 clear h
 obtain ⟨t178,A3,H⟩:=bE H
 by_cases c4 : t178 = true
 ·subst c4
  rw [if_pos rfl] at H
  obtain ⟨t179,A5,H⟩:=bE H
  obtain rfl:=Zo H
  go_enter Tryd.func91,Tryd.ntmps91
  go_wp2_with (first | ((with_reducible refine Qab (f:=124) rfl ?_); refine gl (some 6) Tryd.func124 #[.int .i64 a0, .int .i64 1, .int .i64 8] (h := ?_); (with_reducible refine (r0_Between.calls a0 1 8 true _ A3.out).mono ?_); rintro e w' ⟨rfl,⟨nd,rfl⟩⟩; refine ⟨_,rfl, ?_⟩) | (go_at_call 124; (with_reducible refine (r0_Between.calls a1 1 268435456 t179 _ A5.out).mono ?_); rintro e w' ⟨rfl,⟨nd,rfl⟩⟩))
  go_ret
  exact ⟨rf,by repeat (first | exact Drawn0.refl _ | apply Drawn0.step)⟩
 replace c4:=Zf c4
 subst c4
 rw [if_neg nft] at H
 obtain rfl:=Zo H
 go_enter Tryd.func91,Tryd.ntmps91
 go_wp2_with (first | ((with_reducible refine Qab (f:=124) rfl ?_); refine gl (some 6) Tryd.func124 #[.int .i64 a0, .int .i64 1, .int .i64 8] (h := ?_); (with_reducible refine (r0_Between.calls a0 1 8 false _ A3.out).mono ?_); rintro e w' ⟨rfl,⟨nd,rfl⟩⟩; refine ⟨_,rfl, ?_⟩))
 go_ret
 exact ⟨rf,by repeat (first | exact Drawn0.refl _ | apply Drawn0.step)⟩
def r4_Elem.f (a0_0 : Int) (a0_1 : Int) (a0_2 : Int) : Option (Bool):=(r4_Begin.f a0_0 a0_1 a0_2).bind fun t181 => (if t181 = true then (some true) else ((r4_name.f a0_0 a0_1).bind fun t182 => (if t182 = true then ((r0_Num.f a0_2 11).bind fun t183 => (some t183)) else (some false))))
theorem r4_Elem.calls (a0_0 : Int) (a0_1 : Int) (a0_2 : Int) (r : Bool) (w : World) (h : r4_Elem.f a0_0 a0_1 a0_2 = some r) :
  Calls Tryd.prog 53 #[.agg #[.int .i64 a0_0, .int .i64 a0_1, .int .i64 a0_2]] w fun e w' => e = .returned (.bool r) /\ Below w.heap.size w w':=by
 have hu43:=Tryd.underlying43
 have HB:=Zz.k (Below.refl w.heap.size w)
 unfold r4_Elem.f at h; have H:=h
 clear h
 obtain ⟨t181,A2,H⟩:=bE H
 by_cases c3 : t181 = true
 ·subst c3
  rw [if_pos rfl] at H
  obtain rfl:=Zo H
  go_enter Tryd.func53,Tryd.ntmps53
  go_wp2_with (first | ((with_reducible refine Qac (N:=1) rfl ?_); refine bx 1 #[.int .i64 a0_0, .int .i64 a0_1, .int .i64 a0_2] 43 (h := ?_); intro gb180 hg w4 hbox hb; have BK180:=Zz.k (hbox); have GW180:=bz HB hg; have GE180:=bz HB hg; replace HB:=bs HB hb; clear hb hbox hg; obtain ⟨_,_,_,_,_,_⟩:=kc3 BK180) | ((with_reducible refine Qab (f:=62) rfl ?_); refine gl (some 4) Tryd.func62 #[.agg #[.int .i64 a0_0, .int .i64 a0_1, .int .i64 a0_2]] (h := ?_); (with_reducible refine (r4_Begin.calls a0_0 a0_1 a0_2 true _ A2.out).mono ?_); rintro e w6 ⟨rfl,hb⟩; refine ⟨_,rfl, ?_⟩; replace BK180:=bl BK180 hb; replace HB:=bs HB hb; clear hb))
  go_ret
  exact ⟨re,bw HB⟩
 replace c3:=Zf c3
 subst c3
 rw [if_neg nft] at H
 obtain ⟨t182,A7,H⟩:=bE H
 by_cases c8 : t182 = true
 ·subst c8
  rw [if_pos rfl] at H
  obtain ⟨t183,A9,H⟩:=bE H
  obtain rfl:=Zo H
  go_enter Tryd.func53,Tryd.ntmps53
  go_wp2_with (first | ((with_reducible refine Qac (N:=1) rfl ?_); refine bx 1 #[.int .i64 a0_0, .int .i64 a0_1, .int .i64 a0_2] 43 (h := ?_); intro gb180 hg w10 hbox hb; have BK180:=Zz.k (hbox); have GW180:=bz HB hg; have GE180:=bz HB hg; replace HB:=bs HB hb; clear hb hbox hg; obtain ⟨_,_,_,_,_,_⟩:=kc3 BK180) | ((with_reducible refine Qab (f:=62) rfl ?_); refine gl (some 4) Tryd.func62 #[.agg #[.int .i64 a0_0, .int .i64 a0_1, .int .i64 a0_2]] (h := ?_); (with_reducible refine (r4_Begin.calls a0_0 a0_1 a0_2 false _ A2.out).mono ?_); rintro e w12 ⟨rfl,hb⟩; refine ⟨_,rfl, ?_⟩; replace BK180:=bl BK180 hb; replace HB:=bs HB hb; clear hb; obtain ⟨_,_,_,_,_,_⟩:=kc3 BK180) | (go_at_call 91; (with_reducible refine (r4_name.calls a0_0 a0_1 true _ A7.out).mono ?_); rintro e w' ⟨rfl,⟨nd,rfl⟩⟩) | (go_at_call 50; (with_reducible refine (r0_Num.calls a0_2 11 t183 _ A9.out).mono ?_); rintro e w' ⟨rfl,⟨nd,rfl⟩⟩))
  go_ret
  exact ⟨re,bw HB⟩
 replace c8:=Zf c8
 subst c8
 rw [if_neg nft] at H
 obtain rfl:=Zo H
 go_enter Tryd.func53,Tryd.ntmps53
 go_wp2_with (first | ((with_reducible refine Qac (N:=1) rfl ?_); refine bx 1 #[.int .i64 a0_0, .int .i64 a0_1, .int .i64 a0_2] 43 (h := ?_); intro gb180 hg w14 hbox hb; have BK180:=Zz.k (hbox); have GW180:=bz HB hg; have GE180:=bz HB hg; replace HB:=bs HB hb; clear hb hbox hg; obtain ⟨_,_,_,_,_,_⟩:=kc3 BK180) | ((with_reducible refine Qab (f:=62) rfl ?_); refine gl (some 4) Tryd.func62 #[.agg #[.int .i64 a0_0, .int .i64 a0_1, .int .i64 a0_2]] (h := ?_); (with_reducible refine (r4_Begin.calls a0_0 a0_1 a0_2 false _ A2.out).mono ?_); rintro e w16 ⟨rfl,hb⟩; refine ⟨_,rfl, ?_⟩; replace BK180:=bl BK180 hb; replace HB:=bs HB hb; clear hb; obtain ⟨_,_,_,_,_,_⟩:=kc3 BK180) | (go_at_call 91; (with_reducible refine (r4_name.calls a0_0 a0_1 false _ A7.out).mono ?_); rintro e w' ⟨rfl,⟨nd,rfl⟩⟩))
 go_ret
 exact ⟨re,bw HB⟩
def r4_Less.f (a0_0 : Int) (a0_1 : Int) (a0_2 : Int) (a1_0 : Int) (a1_1 : Int) (a1_2 : Int) : Option (Bool):=if a0_0 = a1_0 then (if a0_1 = a1_1 then (some (decide (a0_2 < a1_2))) else (some (decide (a0_1 < a1_1)))) else (some (decide (a0_0 < a1_0)))
theorem r4_Less.calls (a0_0 : Int) (a0_1 : Int) (a0_2 : Int) (a1_0 : Int) (a1_1 : Int) (a1_2 : Int) (r : Bool) (w : World) (h : r4_Less.f a0_0 a0_1 a0_2 a1_0 a1_1 a1_2 = some r) :
  Calls Tryd.prog 55 #[.agg #[.int .i64 a0_0, .int .i64 a0_1, .int .i64 a0_2], .agg #[.int .i64 a1_0, .int .i64 a1_1, .int .i64 a1_2]] w fun e w' => e = .returned (.bool r) /\ Below w.heap.size w w':=by
 have hu43:=Tryd.underlying43
 have HB:=Zz.k (Below.refl w.heap.size w)
 unfold r4_Less.f at h; have H:=h
 clear h
 by_cases c3 : a0_0 = a1_0; rotate_left
 ·rw [if_neg c3] at H
  obtain ⟨c3b0,c3b1⟩:=bF c3
  obtain rfl:=Zo H
  go_enter Tryd.func55,Tryd.ntmps55
  go_wp2_with (first | ((with_reducible refine Qac (N:=2) rfl ?_); refine bx 2 #[.int .i64 a0_0, .int .i64 a0_1, .int .i64 a0_2] 43 (h := ?_); intro gb184 hg w15 hbox hb; have BK184:=Zz.k (hbox); have GW184:=bz HB hg; have GE184:=bz HB hg; replace HB:=bs HB hb; clear hb hbox hg) | ((with_reducible refine Qac (N:=3) rfl ?_); refine bx 3 #[.int .i64 a1_0, .int .i64 a1_1, .int .i64 a1_2] 43 (h := ?_); intro gb185 hg w16 hbox hb; have BK185:=Zz.k (hbox); have GW185:=bz HB hg; have GE185:=bz HB hg; have NB184_185:=bn BK184 hg; have NB185_184:=bm BK184 hg; replace BK184:=bl BK184 hb; replace HB:=bs HB hb; clear hb hbox hg; have hnb17:=NB184_185.out; have hnc17:=NB185_184.out; obtain ⟨_,_,_,_,_,_⟩:=kc3 BK184; obtain ⟨_,_,_,_,_,_⟩:=kc3 BK185))
  go_ret
  exact ⟨re,bw HB⟩
 rw [if_pos c3] at H
 obtain ⟨c3b0,c3b1⟩:=bT c3
 clear c3
 by_cases c4 : a0_1 = a1_1
 ·rw [if_pos c4] at H
  obtain ⟨c4b0,c4b1⟩:=bT c4
  clear c4
  obtain rfl:=Zo H
  go_enter Tryd.func55,Tryd.ntmps55
  go_wp2_with (first | ((with_reducible refine Qac (N:=2) rfl ?_); refine bx 2 #[.int .i64 a0_0, .int .i64 a0_1, .int .i64 a0_2] 43 (h := ?_); intro gb184 hg w5 hbox hb; have BK184:=Zz.k (hbox); have GW184:=bz HB hg; have GE184:=bz HB hg; replace HB:=bs HB hb; clear hb hbox hg) | ((with_reducible refine Qac (N:=3) rfl ?_); refine bx 3 #[.int .i64 a1_0, .int .i64 a1_1, .int .i64 a1_2] 43 (h := ?_); intro gb185 hg w6 hbox hb; have BK185:=Zz.k (hbox); have GW185:=bz HB hg; have GE185:=bz HB hg; have NB184_185:=bn BK184 hg; have NB185_184:=bm BK184 hg; replace BK184:=bl BK184 hb; replace HB:=bs HB hb; clear hb hbox hg; have hnb7:=NB184_185.out; have hnc7:=NB185_184.out; obtain ⟨_,_,_,_,_,_⟩:=kc3 BK184; obtain ⟨_,_,_,_,_,_⟩:=kc3 BK185))
  go_ret
  exact ⟨re,bw HB⟩
 rw [if_neg c4] at H
 obtain ⟨c4b0,c4b1⟩:=bF c4
 obtain rfl:=Zo H
 go_enter Tryd.func55,Tryd.ntmps55
 go_wp2_with (first | ((with_reducible refine Qac (N:=2) rfl ?_); refine bx 2 #[.int .i64 a0_0, .int .i64 a0_1, .int .i64 a0_2] 43 (h := ?_); intro gb184 hg w10 hbox hb; have BK184:=Zz.k (hbox); have GW184:=bz HB hg; have GE184:=bz HB hg; replace HB:=bs HB hb; clear hb hbox hg) | ((with_reducible refine Qac (N:=3) rfl ?_); refine bx 3 #[.int .i64 a1_0, .int .i64 a1_1, .int .i64 a1_2] 43 (h := ?_); intro gb185 hg w11 hbox hb; have BK185:=Zz.k (hbox); have GW185:=bz HB hg; have GE185:=bz HB hg; have NB184_185:=bn BK184 hg; have NB185_184:=bm BK184 hg; replace BK184:=bl BK184 hb; replace HB:=bs HB hb; clear hb hbox hg; have hnb12:=NB184_185.out; have hnc12:=NB185_184.out; obtain ⟨_,_,_,_,_,_⟩:=kc3 BK184; obtain ⟨_,_,_,_,_,_⟩:=kc3 BK185))
 go_ret
 exact ⟨re,bw HB⟩
end
end Go.Proofs.YtonoaflfobajcaaDoor.L
end
