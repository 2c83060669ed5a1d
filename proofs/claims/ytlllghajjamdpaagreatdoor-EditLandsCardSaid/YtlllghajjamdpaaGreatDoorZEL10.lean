/- Part 10 of the proof that for every argument the law EditLands answers true: what is written stands at the place that was asked for; what was taken away is gone, the rest is as it was; toggled it is as before, toggled again as behind -/
import Derived.Test.YtlllghajjamdpaaGreatDoorZEL9
section
namespace Go.Proofs.YtlllghajjamdpaaGreatDoor.L
open Go.RowKit Go.Proofs.YtlllghajjamdpaaGreatDoorW.PrintWords Go.Proofs.YtlllghajjamdpaaGreatDoorW.PrintLast Go.Proofs.YtlllghajjamdpaaGreatDoorW.PrintMore
set_option linter.unusedVariables false
set_option linter.unusedSimpArgs false
set_option maxHeartbeats 40000000
set_option maxRecDepth 1000000
section
attribute [local go_sem] Qbu Qbs Qcg Qcf Qbe Qbd Qbt Qbr
def r0_CopyElems.l0 : Nat -> List (SElem) -> List (SElem) -> Int -> Option ((List (SElem)))
 | 0,_,_,_ => none
 | k + 1,x0,x3,x4 => if x4 < (x0.length : Int) then (if 0 <= x4 then (if x3.length < 5864062014805 then (r0_CopyElems.l0 k x0 (x3 ++ [(⟨(Qac x0 x4).f0,(Qac x0 x4).f1,(Qac x0 x4).f2⟩ : SElem)]) (wrap64 (x4 + 1))) else (none)) else (none)) else (some x3)
def r0_CopyElems.f (k : Nat) (l0 : List (SElem)) : Option ((List (SElem))):=r0_CopyElems.l0 k l0 ([] : List (SElem)) 0
theorem r0_CopyElems.calls (k : Nat) (A0 : Option Addr) (c0 : Nat) (l0 : List (SElem)) (r : List (SElem)) (w : World) (hr0 : Kd.C Qav w A0 l0.length l0) (hc0 : l0.length <= c0) (h : r0_CopyElems.f k l0 = some r) :
  Calls Tryz.prog 88 #[.slice A0 l0.length c0] w fun e w' => ∃ v0_ : Value,e = .returned (v0_) /\ Kd.R Qav 32 w' w.heap.size (fun _ => True) v0_ r /\ Below w.heap.size w w':=by
 have hu32:=Tryz.underlying32
 have HR0:=Zz.k hr0
 have HC0:=Zz.k hc0
 clear hr0 hc0
 have HB:=Zz.k (Below.refl w.heap.size w)
 unfold r0_CopyElems.f at h; have H:=h
 clear h
 have H':=Zz.k H
 clear H
 go_enter Tryz.func88,Tryz.ntmps88
 go_wp2
 go_loopg [3,4] k (fun kq v3 v4 w' => ∃ (x3_1 : List (SElem)) (x4_1 : Int),v4 = .int .i64 x4_1 /\ Zz (r0_CopyElems.l0 kq l0 x3_1 x4_1 = some r) /\ Zz (kq <= k) /\ Zz (Kd.R Qav 32 w' w.heap.size (fun _ => True) v3 x3_1) /\ Zz (Below w.heap.size w w'))
 case atStart => exact ⟨(([] : List (SElem))),(0),rf,H',⟨Nat.le_refl _⟩,⟨by first | exact Kd.R_nil _ _ _ _ _ | exact Kd.N_nil _ _ _ _ _ | exact Kd.V_nil _ _ _ _ _ | exact Kd.Q_nil _ _ _ _ _ | exact Kd.S_nil _ _ _ _ _⟩,⟨bw HB⟩⟩
 case round =>
  clear H'
  obtain ⟨x3_1,x4_1,rfl,HA,HK1,HO_3,HB⟩:=hrel
  cases gk with
  | zero => exact absurd HA.out (by simp [r0_CopyElems.l0])
  | succ k1 =>
   have H:=HA.out
   clear HA
   simp only [r0_CopyElems.l0] at H
   by_cases c2 : x4_1 < (l0.length : Int); rotate_left
   ·rw [if_neg c2] at H
    have c2b0:=Ze c2
    clear c2
    obtain rfl:=Zo H
    go_wp2
    go_ret
    exact ⟨_,re,by (with_reducible repeat (first | apply Kd.R_alloc | apply Kd.R_drewN | apply Kd.R_drew)); exact HO_3.out,bw HB⟩
   rw [if_pos c2] at H
   have c2b0:=Zd c2
   clear c2
   by_cases c3 : 0 <= x4_1; rotate_left
   ·rw [if_neg c3] at H
    exact absurd H (by simp)
   rw [if_pos c3] at H
   have c3b0:=Zd c3
   clear c3
   by_cases c4 : x3_1.length < 5864062014805; rotate_left
   ·rw [if_neg c4] at H
    exact absurd H (by simp)
   rw [if_pos c4] at H
   have LMc4:=Zz.k c4
   clear c4
   obtain ⟨y280,hy280⟩ : ∃ y_ : List (SElem),y_ = (x3_1 ++ [(⟨(Qac l0 x4_1).f0,(Qac l0 x4_1).f1,(Qac l0 x4_1).f2⟩ : SElem)]):=⟨_,rfl⟩
   first | rw [Option.bind_some,<- hy280] at H | rw [<- hy280] at H
   have Ny280:=Zz.k hy280
   clear hy280
   have H':=Zz.k H
   clear H
   have p279 : 0 <= (x4_1 : Int):=od
   have q279 : x4_1 < (l0.length : Int):=od
   obtain ⟨ad279,e279,hx279_0,hx279_1,hx279_2⟩:=Qbw HR0.out x4_1 p279 q279
   cases e279
   replace hx279_0:=cl HB hx279_0
   replace hx279_1:=cl HB hx279_1
   replace hx279_2:=cl HB hx279_2
   replace p279:=eq_true p279
   replace q279:=eq_true q279
   go_wp2_with (first | ((with_reducible refine gate_builtin (b:=.append) (xs:=#[.tmp 11, .tmp 16]) rfl ?_); at_builtin; refine Kd.R_append Qav (w0:=w) w.heap.size rfl (.tmp 11) (.tmp 16) 23 32 (.agg #[(.int .i64 0),(.int .i64 0),(.int .i64 0)]) 24 rfl Tryz.underlying23 info32 rfl (by decide) (by omega) u3 x3_1 (⟨(Qac l0 x4_1).f0,(Qac l0 x4_1).f1,(Qac l0 x4_1).f2⟩ : SElem) [.int .i64 ((Qac l0 x4_1).f0), .int .i64 ((Qac l0 x4_1).f1), .int .i64 ((Qac l0 x4_1).f2)] (fun _ => True) (fun _ => False) rfl rfl ?aP (fun _ hk => hk.elim) ?aF ?aO ?aB ?aS ?aL ?_; (case aP => exact kElem_mkM _ _ _ (⟨(Qac l0 x4_1).f0,(Qac l0 x4_1).f1,(Qac l0 x4_1).f2⟩ : SElem)); (case aB => exact (bw HB)); (case aF => exact (fun _ _ => trivial)); (case aO => exact (rk HO_3)); (case aS => exact (Qag (bw HB))); (case aL => have:=LMc4.out; omega); intro v281 w5 ho hb hg hat; rw [<- Ny280.out] at ho; have n0_:=Zz.k (hb); have n1_:=Zz.k (ho); clear HB; clear HO_3; have HB:=n0_; have HO282:=n1_; clear n0_ n1_; clear ho hb hg hat))
   go_roundg k1
   case measure => have:=HK1.out; omega
   case rel => exact ⟨(y280),(wrap64 (x4_1 + 1)),rf,H',⟨by have:=HK1.out; omega⟩,⟨rk HO282⟩,⟨bw HB⟩⟩
def r0_CopyOp.f (k : Nat) (a0_0 : Int) (a0_1 : Int) (a0_2 : Int) (a0_3 : Int) (a0_4 : Int) (a0_5 : Int) (a0_6 : ByteArray) (l0_7 : List (SElem)) (a0_8 : Int) (a0_9 : Int) (a0_10 : Int) : Option (Int × Int × Int × Int × Int × Int × ByteArray × (List (SElem)) × Int × Int × Int):=(r0_CopyElems.f k l0_7).bind fun t286 => (some (a0_0,a0_1,a0_2,a0_3,a0_4,a0_5,a0_6,t286,a0_8,a0_9,a0_10))
theorem r0_CopyOp.calls (k : Nat) (a0_0 : Int) (a0_1 : Int) (a0_2 : Int) (a0_3 : Int) (a0_4 : Int) (a0_5 : Int) (a0_6 : ByteArray) (A0_7 : Option Addr) (c0_7 : Nat) (l0_7 : List (SElem)) (a0_8 : Int) (a0_9 : Int) (a0_10 : Int) (r1 : Int) (r2 : Int) (r3 : Int) (r4 : Int) (r5 : Int) (r6 : Int) (r7 : ByteArray) (r8 : List (SElem)) (r9 : Int) (r10 : Int) (r11 : Int) (w : World) (hr0_7 : Kd.C Qav w A0_7 l0_7.length l0_7) (hc0_7 : l0_7.length <= c0_7) (h : r0_CopyOp.f k a0_0 a0_1 a0_2 a0_3 a0_4 a0_5 a0_6 l0_7 a0_8 a0_9 a0_10 = some (r1,r2,r3,r4,r5,r6,r7,r8,r9,r10,r11)) :
  Calls Tryz.prog 54 #[.agg #[.int .i64 a0_0, .int .i64 a0_1, .int .i64 a0_2, .int .i64 a0_3, .int .i64 a0_4, .int .i64 a0_5, .string a0_6, .slice A0_7 l0_7.length c0_7, .int .i64 a0_8, .int .i64 a0_9, .int .i64 a0_10]] w fun e w' => ∃ v7_ : Value,e = .returned (.agg #[.int .i64 r1, .int .i64 r2, .int .i64 r3, .int .i64 r4, .int .i64 r5, .int .i64 r6, .string r7,v7_, .int .i64 r9, .int .i64 r10, .int .i64 r11]) /\ Kd.R Qav 32 w' w.heap.size (fun _ => True) v7_ r8 /\ Below w.heap.size w w':=by
 have hu34:=Tryz.underlying34
 have HR0_7:=Zz.k hr0_7
 have HC0_7:=Zz.k hc0_7
 clear hr0_7 hc0_7
 have HB:=Zz.k (Below.refl w.heap.size w)
 unfold r0_CopyOp.f at h; have H:=h
 clear h
 obtain ⟨t286,A2,H⟩:=bE H
 simp only [Option.some.injEq,Prod.mk.injEq] at H
 obtain ⟨rfl,rfl,rfl,rfl,rfl,rfl,rfl,rfl,rfl,rfl,rfl⟩:=H
 go_enter Tryz.func54,Tryz.ntmps54
 go_wp2_with (first | ((with_reducible refine Qad (N:=1) rfl ?_); refine bx 1 #[.int .i64 a0_0, .int .i64 a0_1, .int .i64 a0_2, .int .i64 a0_3, .int .i64 a0_4, .int .i64 a0_5, .string a0_6, .slice A0_7 l0_7.length c0_7, .int .i64 a0_8, .int .i64 a0_9, .int .i64 a0_10] 34 (h := ?_); intro gb283 hg w3 hbox hb; have BK283:=Zz.k (hbox); have GW283:=bz HB hg; have GE283:=bz HB hg; replace HB:=bs HB hb; clear hb hbox hg) | ((with_reducible refine Qad (N:=2) rfl ?_); refine bx 2 #[.int .i64 0, .int .i64 0, .int .i64 0, .int .i64 0, .int .i64 0, .int .i64 0, .string (⟨#[]⟩ : ByteArray), .slice none 0 0, .int .i64 0, .int .i64 0, .int .i64 0] 34 (h := ?_); intro gb284 hg w4 hbox hb; have BK284:=Zz.k (hbox); have GW284:=bz HB hg; have GE284:=bz HB hg; have NB283_284:=bn BK283 hg; have NB284_283:=bm BK283 hg; replace BK283:=bl BK283 hb; replace HB:=bs HB hb; clear hb hbox hg; have hnb5:=NB283_284.out; have hnc5:=NB284_283.out; obtain ⟨_,_,_,_,_,_,_,_,_,_,_,_,_,_,_,_,_,_,_,_,_,_⟩:=kc11 BK283) | ((with_reducible refine Qad (N:=3) rfl ?_); refine bx 3 #[.int .i64 0, .int .i64 0, .int .i64 0, .int .i64 0, .int .i64 0, .int .i64 0, .string (⟨#[]⟩ : ByteArray), .slice none 0 0, .int .i64 0, .int .i64 0, .int .i64 0] 34 (h := ?_); intro gb285 hg w7 hbox hb; have BK285:=Zz.k (hbox); have GW285:=bz HB hg; have GE285:=bz HB hg; have NB283_285:=bn BK283 hg; have NB285_283:=bm BK283 hg; have NB284_285:=bn BK284 hg; have NB285_284:=bm BK284 hg; replace BK283:=bl BK283 hb; replace BK284:=bl BK284 hb; replace HB:=bs HB hb; clear hb hbox hg; have hnb8:=NB285_283.out; have hnc8:=NB283_285.out; have hnb9:=NB285_284.out; have hnc9:=NB284_285.out; obtain ⟨_,_,_,_,_,_,_,_,_,_,_,_,_,_,_,_,_,_,_,_,_,_⟩:=kc11 BK285; obtain ⟨_,_,_,_,_,_,_,_,_,_,_,_,_,_,_,_,_,_,_,_,_,_⟩:=kc11 BK283) | ((with_reducible refine Qaa (f:=88) rfl ?_); refine gl (some 7) Tryz.func88 #[.slice A0_7 l0_7.length c0_7] (h := ?_); (with_reducible refine (r0_CopyElems.calls k _ _ l0_7 t286 _ ?side1 ?side2 A2.out).mono ?_); (case side1 => exact Kd.C_below HR0_7.out (bw HB)); (case side2 => exact HC0_7.out); rintro e w12 ⟨v287,rfl,ho0,hb⟩; refine ⟨_,rfl, ?_⟩; have HO288:=Zz.k (Kd.R_lower ho0 (Qag (bw HB))); replace BK283:=bl BK283 hb; replace BK284:=bl BK284 hb; replace BK285:=Zz.k (Qdh (bp11 (kk BK285)) hb); replace HB:=bs HB hb; clear hb; clear ho0; obtain ⟨Ao13,co13,eo13⟩:=Kd.R_slice HO288.out; subst eo13; obtain ⟨_,_,_,_,_,_,_,_,_,_,_,_,_,_,_,_,_,_,_,_,_,_⟩:=kc11 BK285; obtain ⟨_,_,_,_,_,_,_,_,_,_,_,_,_,_,_,_,_,_,_,_,_,_⟩:=kc11 BK284))
 refine bodyPost_ret (results_cell_row rfl _ _ gb284 34 #[.int .i64 a0_0, .int .i64 a0_1, .int .i64 a0_2, .int .i64 a0_3, .int .i64 a0_4, .int .i64 a0_5, .string a0_6, .slice Ao13 t286.length co13, .int .i64 a0_8, .int .i64 a0_9, .int .i64 a0_10] (0,0) _ rfl (by (with_reducible repeat (first | refine Qbq ?_ _ | refine Qam ?_ | refine blk_alloc ?_ _)); refine Qbz (cs:=#[.int .i64 a0_0, .int .i64 a0_1, .int .i64 a0_2, .int .i64 a0_3, .int .i64 a0_4, .int .i64 a0_5, .string a0_6, .slice Ao13 t286.length co13, .int .i64 a0_8, .int .i64 a0_9, .int .i64 0]) ?_ 10 _ rfl; (with_reducible repeat (first | refine Qbq ?_ _ | refine Qam ?_ | refine blk_alloc ?_ _)); refine Qbz (cs:=#[.int .i64 a0_0, .int .i64 a0_1, .int .i64 a0_2, .int .i64 a0_3, .int .i64 a0_4, .int .i64 a0_5, .string a0_6, .slice Ao13 t286.length co13, .int .i64 a0_8, .int .i64 0, .int .i64 0]) ?_ 9 _ rfl; (with_reducible repeat (first | refine Qbq ?_ _ | refine Qam ?_ | refine blk_alloc ?_ _)); refine Qbz (cs:=#[.int .i64 a0_0, .int .i64 a0_1, .int .i64 a0_2, .int .i64 a0_3, .int .i64 a0_4, .int .i64 a0_5, .string a0_6, .slice Ao13 t286.length co13, .int .i64 0, .int .i64 0, .int .i64 0]) ?_ 8 _ rfl; (with_reducible repeat (first | refine Qbq ?_ _ | refine Qam ?_ | refine blk_alloc ?_ _)); refine Qbz (cs:=#[.int .i64 a0_0, .int .i64 a0_1, .int .i64 a0_2, .int .i64 a0_3, .int .i64 a0_4, .int .i64 a0_5, .string a0_6, .slice none 0 0, .int .i64 0, .int .i64 0, .int .i64 0]) ?_ 7 _ rfl; (with_reducible repeat (first | refine Qbq ?_ _ | refine Qam ?_ | refine blk_alloc ?_ _)); refine Qbz (cs:=#[.int .i64 a0_0, .int .i64 a0_1, .int .i64 a0_2, .int .i64 a0_3, .int .i64 a0_4, .int .i64 a0_5, .string (⟨#[]⟩ : ByteArray), .slice none 0 0, .int .i64 0, .int .i64 0, .int .i64 0]) ?_ 6 _ rfl; (with_reducible repeat (first | refine Qbq ?_ _ | refine Qam ?_ | refine blk_alloc ?_ _)); refine Qbz (cs:=#[.int .i64 a0_0, .int .i64 a0_1, .int .i64 a0_2, .int .i64 a0_3, .int .i64 a0_4, .int .i64 0, .string (⟨#[]⟩ : ByteArray), .slice none 0 0, .int .i64 0, .int .i64 0, .int .i64 0]) ?_ 5 _ rfl; (with_reducible repeat (first | refine Qbq ?_ _ | refine Qam ?_ | refine blk_alloc ?_ _)); refine Qbz (cs:=#[.int .i64 a0_0, .int .i64 a0_1, .int .i64 a0_2, .int .i64 a0_3, .int .i64 0, .int .i64 0, .string (⟨#[]⟩ : ByteArray), .slice none 0 0, .int .i64 0, .int .i64 0, .int .i64 0]) ?_ 4 _ rfl; (with_reducible repeat (first | refine Qbq ?_ _ | refine Qam ?_ | refine blk_alloc ?_ _)); refine Qbz (cs:=#[.int .i64 a0_0, .int .i64 a0_1, .int .i64 a0_2, .int .i64 0, .int .i64 0, .int .i64 0, .string (⟨#[]⟩ : ByteArray), .slice none 0 0, .int .i64 0, .int .i64 0, .int .i64 0]) ?_ 3 _ rfl; (with_reducible repeat (first | refine Qbq ?_ _ | refine Qam ?_ | refine blk_alloc ?_ _)); refine Qbz (cs:=#[.int .i64 a0_0, .int .i64 a0_1, .int .i64 0, .int .i64 0, .int .i64 0, .int .i64 0, .string (⟨#[]⟩ : ByteArray), .slice none 0 0, .int .i64 0, .int .i64 0, .int .i64 0]) ?_ 2 _ rfl; (with_reducible repeat (first | refine Qbq ?_ _ | refine Qam ?_ | refine blk_alloc ?_ _)); refine Qbz (cs:=#[.int .i64 a0_0, .int .i64 0, .int .i64 0, .int .i64 0, .int .i64 0, .int .i64 0, .string (⟨#[]⟩ : ByteArray), .slice none 0 0, .int .i64 0, .int .i64 0, .int .i64 0]) ?_ 1 _ rfl; (with_reducible repeat (first | refine Qbq ?_ _ | refine Qam ?_ | refine blk_alloc ?_ _)); refine Qbz (cs:=#[.int .i64 0, .int .i64 0, .int .i64 0, .int .i64 0, .int .i64 0, .int .i64 0, .string (⟨#[]⟩ : ByteArray), .slice none 0 0, .int .i64 0, .int .i64 0, .int .i64 0]) ?_ 0 _ rfl; (with_reducible repeat (first | refine Qbq ?_ _ | refine Qam ?_ | refine blk_alloc ?_ _)); refine Qcl ?_ NB284_285.out _; (with_reducible repeat (first | refine Qbq ?_ _ | refine Qam ?_ | refine blk_alloc ?_ _)); exact BK284.out) Tryz.underlying34 rfl (by kernel_rfl)) rfl ?_
 exact ⟨_,re,by (with_reducible repeat (first | apply Kd.R_alloc | apply Kd.R_drewN | apply Kd.R_drew)); exact Kd.R_mono (rf11 (Kd.R_far (p:=⟨gb285,7,none⟩) (Kd.R_types (Kd.R_types HO288.out BK285.out (by decide)) BK284.out (by decide)) (fun _ hk => hk.1.2) (.slice Ao13 t286.length co13))) (fun _ hk => trivial),bw HB⟩
def r0_CopyOps.l0 : Nat -> List (SOp) -> List (SOp) -> Int -> Option ((List (SOp)))
 | 0,_,_,_ => none
 | k + 1,x0,x3,x4 => if x4 < (x0.length : Int) then (if 0 <= x4 then ((r0_CopyOp.f k ((Qaf x0 x4).f0) ((Qaf x0 x4).f1) ((Qaf x0 x4).f2) ((Qaf x0 x4).f3.f0) ((Qaf x0 x4).f3.f1) ((Qaf x0 x4).f3.f2) ((Qaf x0 x4).f4) ((Qaf x0 x4).f5) ((Qaf x0 x4).f6) ((Qaf x0 x4).f7) ((Qaf x0 x4).f8)).bind fun bt290 => (if x3.length < 1256584717458 then (r0_CopyOps.l0 k x0 (x3 ++ [(⟨bt290.1,bt290.2.1,bt290.2.2.1,(⟨bt290.2.2.2.1,bt290.2.2.2.2.1,bt290.2.2.2.2.2.1⟩ : SElem),bt290.2.2.2.2.2.2.1,bt290.2.2.2.2.2.2.2.1,bt290.2.2.2.2.2.2.2.2.1,bt290.2.2.2.2.2.2.2.2.2.1,bt290.2.2.2.2.2.2.2.2.2.2⟩ : SOp)]) (wrap64 (x4 + 1))) else (none))) else (none)) else (some x3)
def r0_CopyOps.f (k : Nat) (l0 : List (SOp)) : Option ((List (SOp))):=r0_CopyOps.l0 k l0 ([] : List (SOp)) 0
theorem r0_CopyOps.calls (k : Nat) (A0 : Option Addr) (c0 : Nat) (l0 : List (SOp)) (r : List (SOp)) (w : World) (hr0 : Kd.C kOp w A0 l0.length l0) (hc0 : l0.length <= c0) (h : r0_CopyOps.f k l0 = some r) :
  Calls Tryz.prog 20 #[.slice A0 l0.length c0] w fun e w' => ∃ v0_ : Value,e = .returned (v0_) /\ Kd.S kOp 34 w' w.heap.size (fun _ => True) v0_ r /\ Below w.heap.size w w':=by
 have hu34:=Tryz.underlying34
 have HR0:=Zz.k hr0
 have HC0:=Zz.k hc0
 clear hr0 hc0
 have HB:=Zz.k (Below.refl w.heap.size w)
 unfold r0_CopyOps.f at h; have H:=h
 clear h
 have H':=Zz.k H
 clear H
 go_enter Tryz.func20,Tryz.ntmps20
 go_wp2
 go_loopg [3,4] k (fun kq v3 v4 w' => ∃ (x3_1 : List (SOp)) (x4_1 : Int),v4 = .int .i64 x4_1 /\ Zz (r0_CopyOps.l0 kq l0 x3_1 x4_1 = some r) /\ Zz (kq <= k) /\ Zz (Kd.S kOp 34 w' w.heap.size (fun _ => True) v3 x3_1) /\ Zz (Below w.heap.size w w'))
 case atStart => exact ⟨(([] : List (SOp))),(0),rf,H',⟨Nat.le_refl _⟩,⟨by first | exact Kd.S_nil _ _ _ _ _ | exact Kd.N_nil _ _ _ _ _ | exact Kd.V_nil _ _ _ _ _ | exact Kd.Q_nil _ _ _ _ _ | exact Kd.R_nil _ _ _ _ _⟩,⟨bw HB⟩⟩
 case round =>
  clear H'
  obtain ⟨x3_1,x4_1,rfl,HA,HK1,HO_3,HB⟩:=hrel
  cases gk with
  | zero => exact absurd HA.out (by simp [r0_CopyOps.l0])
  | succ k1 =>
   have H:=HA.out
   clear HA
   simp only [r0_CopyOps.l0] at H
   by_cases c2 : x4_1 < (l0.length : Int); rotate_left
   ·rw [if_neg c2] at H
    have c2b0:=Ze c2
    clear c2
    obtain rfl:=Zo H
    go_wp2
    go_ret
    exact ⟨_,re,by (with_reducible repeat (first | apply Kd.S_alloc | apply Kd.S_drewN | apply Kd.S_drew)); exact HO_3.out,bw HB⟩
   rw [if_pos c2] at H
   have c2b0:=Zd c2
   clear c2
   by_cases c3 : 0 <= x4_1; rotate_left
   ·rw [if_neg c3] at H
    exact absurd H (by simp)
   rw [if_pos c3] at H
   have c3b0:=Zd c3
   clear c3
   obtain ⟨⟨t290,t291,t292,t293,t294,t295,t296,t297,t300,t301,t302⟩,A4,H⟩:=bE H
   try dsimp only at H
   by_cases c5 : x3_1.length < 1256584717458; rotate_left
   ·rw [if_neg c5] at H
    exact absurd H (by simp)
   rw [if_pos c5] at H
   have LMc5:=Zz.k c5
   clear c5
   obtain ⟨y303,hy303⟩ : ∃ y_ : List (SOp),y_ = (x3_1 ++ [(⟨t290,t291,t292,(⟨t293,t294,t295⟩ : SElem),t296,t297,t300,t301,t302⟩ : SOp)]):=⟨_,rfl⟩
   first | rw [Option.bind_some,<- hy303] at H | rw [<- hy303] at H
   have Ny303:=Zz.k hy303
   clear hy303
   have H':=Zz.k H
   clear H
   have p289 : 0 <= (x4_1 : Int):=od
   have q289 : x4_1 < (l0.length : Int):=od
   obtain ⟨ad289,A289_7,c289_7,e289,hx289_0,hx289_1,hx289_2,hx289_3,hx289_4,hx289_5,hx289_6,hx289_7,hx289_8,hx289_9,hx289_10,hl289_7,hi289_7⟩:=at_Op HR0.out x4_1 p289 q289
   cases e289
   replace hx289_0:=cl HB hx289_0
   replace hx289_1:=cl HB hx289_1
   replace hx289_2:=cl HB hx289_2
   replace hx289_3:=cl HB hx289_3
   replace hx289_4:=cl HB hx289_4
   replace hx289_5:=cl HB hx289_5
   replace hx289_6:=cl HB hx289_6
   replace hx289_7:=cl HB hx289_7
   replace hx289_8:=cl HB hx289_8
   replace hx289_9:=cl HB hx289_9
   replace hx289_10:=cl HB hx289_10
   have HR289_7:=Zz.k hi289_7
   have HC289_7:=Zz.k hl289_7
   clear hi289_7 hl289_7
   replace p289:=eq_true p289
   replace q289:=eq_true q289
   go_wp2_with (first | ((with_reducible refine Qaa (f:=54) rfl ?_); refine gl (some 16) Tryz.func54 #[.agg #[.int .i64 ((Qaf l0 x4_1).f0), .int .i64 ((Qaf l0 x4_1).f1), .int .i64 ((Qaf l0 x4_1).f2), .int .i64 ((Qaf l0 x4_1).f3.f0), .int .i64 ((Qaf l0 x4_1).f3.f1), .int .i64 ((Qaf l0 x4_1).f3.f2), .string ((Qaf l0 x4_1).f4), .slice A289_7 ((Qaf l0 x4_1).f5).length c289_7, .int .i64 ((Qaf l0 x4_1).f6), .int .i64 ((Qaf l0 x4_1).f7), .int .i64 ((Qaf l0 x4_1).f8)]] (h := ?_); (with_reducible refine (r0_CopyOp.calls k1 ((Qaf l0 x4_1).f0) ((Qaf l0 x4_1).f1) ((Qaf l0 x4_1).f2) ((Qaf l0 x4_1).f3.f0) ((Qaf l0 x4_1).f3.f1) ((Qaf l0 x4_1).f3.f2) ((Qaf l0 x4_1).f4) _ _ ((Qaf l0 x4_1).f5) ((Qaf l0 x4_1).f6) ((Qaf l0 x4_1).f7) ((Qaf l0 x4_1).f8) t290 t291 t292 t293 t294 t295 t296 t297 t300 t301 t302 _ ?side1 ?side2 A4.out).mono ?_); (case side1 => exact cb HR289_7 HB); (case side2 => exact HC289_7.out); rintro e w6 ⟨v298,rfl,ho0,hb⟩; refine ⟨_,rfl, ?_⟩; have HO299:=Zz.k (Kd.R_lower ho0 (Qag (bw HB))); replace HO_3:=Zz.k (Kd.S_elder' (sk HO_3) (Kd.R_base ho0) hb); replace HB:=bs HB hb; clear hb; clear ho0; obtain ⟨Ao8,co8,eo8⟩:=Kd.R_slice HO299.out; subst eo8) | ((with_reducible refine gate_builtin (b:=.append) (xs:=#[.tmp 11, .tmp 17]) rfl ?_); at_builtin; refine Kd.S_append kOp (w0:=w) w.heap.size rfl (.tmp 11) (.tmp 17) 24 34 (.agg #[(.int .i64 0),(.int .i64 0),(.int .i64 0),(.int .i64 0),(.int .i64 0),(.int .i64 0),(.string ⟨#[]⟩),(.slice none 0 0),(.int .i64 0),(.int .i64 0),(.int .i64 0)]) 112 rfl Tryz.underlying24 info34 rfl (by decide) (by omega) u3 x3_1 (⟨t290,t291,t292,(⟨t293,t294,t295⟩ : SElem),t296,t297,t300,t301,t302⟩ : SOp) [.int .i64 t290, .int .i64 t291, .int .i64 t292, .int .i64 t293, .int .i64 t294, .int .i64 t295, .string t296, .slice Ao8 t297.length co8, .int .i64 t300, .int .i64 t301, .int .i64 t302] (fun _ => True) (fun k_ => some k_ = (.slice Ao8 t297.length co8 : Value).ownBlock) rfl rfl ?aP (fun k_ hk_ => ((Kd.R_mono (ok':=fun k_ => ((fun _ => True)) k_ /\ some k_ ≠ (u3 : Value).ownBlock) (Kd.R_apart' (HO299.out) (Kd.S_typed HO_3.out) (by decide)) (fun k_ hk => ⟨trivial,hk.2⟩))).1 k_ hk_.symm) ?aF ?aO ?aB ?aS ?aL ?_; (case aP => exact kOp_mkM _ _ _ (⟨t290,t291,t292,(⟨t293,t294,t295⟩ : SElem),t296,t297,t300,t301,t302⟩ : SOp) (Kd.R_mono (Kd.R_tight rfl (Kd.R_mono (ok':=fun k_ => ((fun _ => True)) k_ /\ some k_ ≠ (u3 : Value).ownBlock) (Kd.R_apart' (HO299.out) (Kd.S_typed HO_3.out) (by decide)) (fun k_ hk => ⟨trivial,hk.2⟩))) (fun _ h_ => h_))); (case aB => exact (bw HB)); (case aF => exact (fun _ _ => trivial)); (case aO => exact (by (with_reducible repeat (first | apply Kd.S_alloc | apply Kd.S_drewN | apply Kd.S_drew)); exact Kd.S_mono HO_3.out (fun k_ hk => ⟨trivial,fun e_ => hk.2 e_⟩))); (case aS => exact (Qag (bw HB))); (case aL => have:=LMc5.out; omega); intro v304 w7 ho hb hg hat; rw [<- Ny303.out] at ho; have n0_:=Zz.k (hb); have n1_:=Zz.k (ho); clear HB; clear HO_3; clear HO299; have HB:=n0_; have HO305:=n1_; clear n0_ n1_; clear ho hb hg hat))
   go_roundg k1
   case measure => have:=HK1.out; omega
   case rel => exact ⟨(y303),(wrap64 (x4_1 + 1)),rf,H',⟨by have:=HK1.out; omega⟩,⟨sk HO305⟩,⟨bw HB⟩⟩
def doc_Edit.f (l0 : List (SOp)) (a1 : Int) (a2 : Int) : Option (Int × Int):=(tree_May.f l0).bind fun t306 => (if t306 = true then ((tree_Find.f l0 a1 a2).bind fun t307 => (if t307 < 0 then (some (0,3)) else (if 0 <= t307 then (if t307 < (l0.length : Int) then (if ((Qaf l0 t307).f2) = 1 then (some (t307,0)) else (some (0,3))) else (none)) else (none)))) else (some (0,1)))
theorem doc_Edit.calls (A0 : Option Addr) (c0 : Nat) (l0 : List (SOp)) (a1 : Int) (a2 : Int) (r1 : Int) (r2 : Int) (w : World) (hr0 : Kd.C kOp w A0 l0.length l0) (hc0 : l0.length <= c0) (h : doc_Edit.f l0 a1 a2 = some (r1,r2)) :
  Calls Tryz.prog 91 #[.slice A0 l0.length c0, .int .i64 a1, .int .i64 a2] w fun e w' => e = .returned (.tuple #[.int .i64 r1, .int .i64 r2]) /\ Below w.heap.size w w':=by
 have HR0:=Zz.k hr0
 have HC0:=Zz.k hc0
 clear hr0 hc0
 have HB:=Zz.k (Below.refl w.heap.size w)
 unfold doc_Edit.f at h; have H:=h
 clear h
 obtain ⟨t306,A4,H⟩:=bE H
 by_cases c5 : t306 = true; rotate_left
 ·replace c5:=Zf c5
  subst c5
  rw [if_neg nft] at H
  simp only [Option.some.injEq,Prod.mk.injEq] at H
  obtain ⟨rfl,rfl⟩:=H
  go_enter Tryz.func91,Tryz.ntmps91
  go_wp2_with (first | ((with_reducible refine Qaa (f:=44) rfl ?_); refine gl (some 10) Tryz.func44 #[.slice A0 l0.length c0] (h := ?_); (with_reducible refine (tree_May.calls _ _ l0 false _ ?side1 ?side2 A4.out).mono ?_); (case side1 => repeat (first | exact HR0.out | (with_reducible refine Kd.C_alloc ?_ _) | (with_reducible refine Kd.C_drewN ?_ _) | (with_reducible refine Kd.C_drew ?_))); (case side2 => exact HC0.out); rintro e w17 ⟨rfl,hb⟩; refine ⟨_,rfl, ?_⟩; replace HB:=bs HB hb; clear hb))
  go_ret2
  exact ⟨re,bw HB⟩
 subst c5
 rw [if_pos rfl] at H
 obtain ⟨t307,A6,H⟩:=bE H
 by_cases c7 : t307 < 0
 ·rw [if_pos c7] at H
  have c7b0:=Zd c7
  clear c7
  simp only [Option.some.injEq,Prod.mk.injEq] at H
  obtain ⟨rfl,rfl⟩:=H
  go_enter Tryz.func91,Tryz.ntmps91
  go_wp2_with (first | ((with_reducible refine Qaa (f:=44) rfl ?_); refine gl (some 10) Tryz.func44 #[.slice A0 l0.length c0] (h := ?_); (with_reducible refine (tree_May.calls _ _ l0 true _ ?side1 ?side2 A4.out).mono ?_); (case side1 => repeat (first | exact HR0.out | (with_reducible refine Kd.C_alloc ?_ _) | (with_reducible refine Kd.C_drewN ?_ _) | (with_reducible refine Kd.C_drew ?_))); (case side2 => exact HC0.out); rintro e w8 ⟨rfl,hb⟩; refine ⟨_,rfl, ?_⟩; replace HB:=bs HB hb; clear hb) | ((with_reducible refine Qaa (f:=125) rfl ?_); refine gl (some 15) Tryz.func125 #[.slice A0 l0.length c0, .int .i64 a1, .int .i64 a2] (h := ?_); (with_reducible refine (tree_Find.calls _ _ l0 a1 a2 t307 _ ?side1 ?side2 A6.out).mono ?_); (case side1 => exact cb HR0 HB); (case side2 => exact HC0.out); rintro e w9 ⟨rfl,hb⟩; refine ⟨_,rfl, ?_⟩; replace HB:=bs HB hb; clear hb))
  go_ret2
  exact ⟨re,bw HB⟩
 rw [if_neg c7] at H
 have c7b0:=Ze c7
 clear c7
 by_cases c10 : 0 <= t307; rotate_left
 ·rw [if_neg c10] at H
  exact absurd H (by simp)
 rw [if_pos c10] at H
 have c10b0:=Zd c10
 clear c10
 by_cases c11 : t307 < (l0.length : Int); rotate_left
 ·rw [if_neg c11] at H
  exact absurd H (by simp)
 rw [if_pos c11] at H
 have c11b0:=Zd c11
 clear c11
 by_cases c12 : ((Qaf l0 t307).f2) = 1
 ·rw [if_pos c12] at H
  obtain ⟨c12b0,c12b1⟩:=bT c12
  clear c12
  simp only [Option.some.injEq,Prod.mk.injEq] at H
  obtain ⟨rfl,rfl⟩:=H
  go_enter Tryz.func91,Tryz.ntmps91
  go_wp2_with (first | ((with_reducible refine Qaa (f:=44) rfl ?_); refine gl (some 10) Tryz.func44 #[.slice A0 l0.length c0] (h := ?_); (with_reducible refine (tree_May.calls _ _ l0 true _ ?side1 ?side2 A4.out).mono ?_); (case side1 => repeat (first | exact HR0.out | (with_reducible refine Kd.C_alloc ?_ _) | (with_reducible refine Kd.C_drewN ?_ _) | (with_reducible refine Kd.C_drew ?_))); (case side2 => exact HC0.out); rintro e w13 ⟨rfl,hb⟩; refine ⟨_,rfl, ?_⟩; replace HB:=bs HB hb; clear hb) | ((with_reducible refine Qaa (f:=125) rfl ?_); refine gl (some 15) Tryz.func125 #[.slice A0 l0.length c0, .int .i64 a1, .int .i64 a2] (h := ?_); (with_reducible refine (tree_Find.calls _ _ l0 a1 a2 t307 _ ?side1 ?side2 A6.out).mono ?_); (case side1 => exact cb HR0 HB); (case side2 => exact HC0.out); rintro e w14 ⟨rfl,hb⟩; refine ⟨_,rfl, ?_⟩; replace HB:=bs HB hb; clear hb; have p308 : 0 <= (t307 : Int):=od; have q308 : t307 < (l0.length : Int):=od; obtain ⟨ad308,A308_7,c308_7,e308,hx308_0,hx308_1,hx308_2,hx308_3,hx308_4,hx308_5,hx308_6,hx308_7,hx308_8,hx308_9,hx308_10,hl308_7,hi308_7⟩:=at_Op HR0.out t307 p308 q308; cases e308; replace hx308_0:=cl HB hx308_0; replace hx308_1:=cl HB hx308_1; replace hx308_2:=cl HB hx308_2; replace hx308_3:=cl HB hx308_3; replace hx308_4:=cl HB hx308_4; replace hx308_5:=cl HB hx308_5; replace hx308_6:=cl HB hx308_6; replace hx308_7:=cl HB hx308_7; replace hx308_8:=cl HB hx308_8; replace hx308_9:=cl HB hx308_9; replace hx308_10:=cl HB hx308_10; have HR308_7:=Zz.k hi308_7; have HC308_7:=Zz.k hl308_7; clear hi308_7 hl308_7; replace p308:=eq_true p308; replace q308:=eq_true q308))
  go_ret2
  exact ⟨re,bw HB⟩
 rw [if_neg c12] at H
 obtain ⟨c12b0,c12b1⟩:=bF c12
 simp only [Option.some.injEq,Prod.mk.injEq] at H
 obtain ⟨rfl,rfl⟩:=H
 go_enter Tryz.func91,Tryz.ntmps91
 go_wp2_with (first | ((with_reducible refine Qaa (f:=44) rfl ?_); refine gl (some 10) Tryz.func44 #[.slice A0 l0.length c0] (h := ?_); (with_reducible refine (tree_May.calls _ _ l0 true _ ?side1 ?side2 A4.out).mono ?_); (case side1 => repeat (first | exact HR0.out | (with_reducible refine Kd.C_alloc ?_ _) | (with_reducible refine Kd.C_drewN ?_ _) | (with_reducible refine Kd.C_drew ?_))); (case side2 => exact HC0.out); rintro e w15 ⟨rfl,hb⟩; refine ⟨_,rfl, ?_⟩; replace HB:=bs HB hb; clear hb) | ((with_reducible refine Qaa (f:=125) rfl ?_); refine gl (some 15) Tryz.func125 #[.slice A0 l0.length c0, .int .i64 a1, .int .i64 a2] (h := ?_); (with_reducible refine (tree_Find.calls _ _ l0 a1 a2 t307 _ ?side1 ?side2 A6.out).mono ?_); (case side1 => exact cb HR0 HB); (case side2 => exact HC0.out); rintro e w16 ⟨rfl,hb⟩; refine ⟨_,rfl, ?_⟩; replace HB:=bs HB hb; clear hb; have p308 : 0 <= (t307 : Int):=od; have q308 : t307 < (l0.length : Int):=od; obtain ⟨ad308,A308_7,c308_7,e308,hx308_0,hx308_1,hx308_2,hx308_3,hx308_4,hx308_5,hx308_6,hx308_7,hx308_8,hx308_9,hx308_10,hl308_7,hi308_7⟩:=at_Op HR0.out t307 p308 q308; cases e308; replace hx308_0:=cl HB hx308_0; replace hx308_1:=cl HB hx308_1; replace hx308_2:=cl HB hx308_2; replace hx308_3:=cl HB hx308_3; replace hx308_4:=cl HB hx308_4; replace hx308_5:=cl HB hx308_5; replace hx308_6:=cl HB hx308_6; replace hx308_7:=cl HB hx308_7; replace hx308_8:=cl HB hx308_8; replace hx308_9:=cl HB hx308_9; replace hx308_10:=cl HB hx308_10; have HR308_7:=Zz.k hi308_7; have HC308_7:=Zz.k hl308_7; clear hi308_7 hl308_7; replace p308:=eq_true p308; replace q308:=eq_true q308))
 go_ret2
 exact ⟨re,bw HB⟩
def doc_Count.f (k : Nat) (l0 : List (SOp)) (a1 : Int) (a2 : Int) : Option (Int × Int):=(doc_Edit.f l0 a1 a2).bind fun bt309 => (if bt309.2 = 0 then ((doc_Counts.f k l0).bind fun t311 => (if 0 <= bt309.1 then (if bt309.1 < (t311.length : Int) then (some (rd t311 bt309.1,0)) else (none)) else (none))) else (some (0,bt309.2)))
theorem doc_Count.calls (k : Nat) (A0 : Option Addr) (c0 : Nat) (l0 : List (SOp)) (a1 : Int) (a2 : Int) (r1 : Int) (r2 : Int) (w : World) (hr0 : Kd.C kOp w A0 l0.length l0) (hc0 : l0.length <= c0) (h : doc_Count.f k l0 a1 a2 = some (r1,r2)) :
  Calls Tryz.prog 59 #[.slice A0 l0.length c0, .int .i64 a1, .int .i64 a2] w fun e w' => e = .returned (.tuple #[.int .i64 r1, .int .i64 r2]) /\ Below w.heap.size w w':=by
 have HR0:=Zz.k hr0
 have HC0:=Zz.k hc0
 clear hr0 hc0
 have HB:=Zz.k (Below.refl w.heap.size w)
 unfold doc_Count.f at h; have H:=h
 clear h
 obtain ⟨⟨t309,t310⟩,A4,H⟩:=bE H
 try dsimp only at H
 by_cases c5 : t310 = 0; rotate_left
 ·rw [if_neg c5] at H
  obtain ⟨c5b0,c5b1⟩:=bF c5
  simp only [Option.some.injEq,Prod.mk.injEq] at H
  obtain ⟨rfl,rfl⟩:=H
  go_enter Tryz.func59,Tryz.ntmps59
  go_wp2_with (first | ((with_reducible refine Qaa (f:=91) rfl ?_); refine gl (some 14) Tryz.func91 #[.slice A0 l0.length c0, .int .i64 a1, .int .i64 a2] (h := ?_); (with_reducible refine (doc_Edit.calls _ _ l0 a1 a2 t309 t310 _ ?side1 ?side2 A4.out).mono ?_); (case side1 => repeat (first | exact HR0.out | (with_reducible refine Kd.C_alloc ?_ _) | (with_reducible refine Kd.C_drewN ?_ _) | (with_reducible refine Kd.C_drew ?_))); (case side2 => exact HC0.out); rintro e w12 ⟨rfl,hb⟩; refine ⟨_,rfl, ?_⟩; replace HB:=bs HB hb; clear hb))
  go_ret2
  exact ⟨re,bw HB⟩
 rw [if_pos c5] at H
 obtain ⟨c5b0,c5b1⟩:=bT c5
 clear c5
 obtain ⟨t311,A6,H⟩:=bE H
 by_cases c7 : 0 <= t309; rotate_left
 ·rw [if_neg c7] at H
  exact absurd H (by simp)
 rw [if_pos c7] at H
 have c7b0:=Zd c7
 clear c7
 by_cases c8 : t309 < (t311.length : Int); rotate_left
 ·rw [if_neg c8] at H
  exact absurd H (by simp)
 rw [if_pos c8] at H
 have c8b0:=Zd c8
 clear c8
 simp only [Option.some.injEq,Prod.mk.injEq] at H
 obtain ⟨rfl,rfl⟩:=H
 go_enter Tryz.func59,Tryz.ntmps59
 go_wp2_with (first | ((with_reducible refine Qaa (f:=91) rfl ?_); refine gl (some 14) Tryz.func91 #[.slice A0 l0.length c0, .int .i64 a1, .int .i64 a2] (h := ?_); (with_reducible refine (doc_Edit.calls _ _ l0 a1 a2 t309 t310 _ ?side1 ?side2 A4.out).mono ?_); (case side1 => repeat (first | exact HR0.out | (with_reducible refine Kd.C_alloc ?_ _) | (with_reducible refine Kd.C_drewN ?_ _) | (with_reducible refine Kd.C_drew ?_))); (case side2 => exact HC0.out); rintro e w9 ⟨rfl,hb⟩; refine ⟨_,rfl, ?_⟩; replace HB:=bs HB hb; clear hb) | ((with_reducible refine Qaa (f:=92) rfl ?_); refine gl (some 21) Tryz.func92 #[.slice A0 l0.length c0] (h := ?_); (with_reducible refine (doc_Counts.calls k _ _ l0 t311 _ ?side1 ?side2 A6.out).mono ?_); (case side1 => exact cb HR0 HB); (case side2 => exact HC0.out); rintro e w10 ⟨v312,rfl,ho0,hb⟩; refine ⟨_,rfl, ?_⟩; have HO313:=Zz.k (Kd.R_lower ho0 (Qag (bw HB))); replace HB:=bs HB hb; clear hb; clear ho0; obtain ⟨Ao11,co11,eo11⟩:=Kd.R_slice HO313.out; subst eo11; have p314 : 0 <= (t309 : Int):=od; have q314 : t309 < (t311.length : Int):=od; obtain ⟨ad314,e314,hx314_0⟩:=Kd.at_int (Kd.R_reads' HO313.out).2.2 t309 p314 q314; cases e314; replace p314:=eq_true p314; replace q314:=eq_true q314))
 go_ret2
 exact ⟨re,bw HB⟩
end
section
theorem Tog_bad (A0 : Option Addr) (c0 : Nat) (l0 : List SOp) (s a n : Int) (w : World) (hr0 : Kd.C kOp w A0 l0.length l0) (hc0 : l0.length <= c0) (hsm : smalls l0 = true) (hbad : (!mayB l0 || !Qde s) = true) :
  Calls Tryz.prog 22 #[.slice A0 l0.length c0, .int .i64 s, .int .i64 a, .int .i64 n] w fun e w' => e = .returned (.tuple #[.agg #[.int .i64 0, .int .i64 0, .int .i64 0, .int .i64 0, .int .i64 0, .int .i64 0, .string (⟨#[]⟩ : ByteArray), .slice none 0 0, .int .i64 0, .int .i64 0, .int .i64 0], .int .i64 1]) /\ Below w.heap.size w w':=by
 have hu:=Tryz.underlying34
 have HB:=Zz.k (Below.refl w.heap.size w)
 have HR0:=Zz.k hr0
 have HC0:=Zz.k hc0
 have HMay:=Zz.k (fun W (hb : Below w.heap.size w W) => tree_May.calls A0 c0 l0 (mayB l0) W (Kd.C_below hr0 hb) hc0 (Qcc hsm))
 have HSite:=Zz.k (fun W (_ : Below w.heap.size w W) => Site_calls s W)
 clear hr0 hc0 hsm
 cases hm : mayB l0
 ·rw [hm] at HMay
  clear hm hbad
  go_enter Tryz.func22,Tryz.ntmps22
  go_wp2_with (first | ((with_reducible refine Qad (N:=8) rfl ?_); refine bx 8 #[.int .i64 0, .int .i64 0, .int .i64 0, .int .i64 0, .int .i64 0, .int .i64 0, .string (⟨#[]⟩ : ByteArray), .slice none 0 0, .int .i64 0, .int .i64 0, .int .i64 0] 34 (h := ?_); intro gb1 hg w1 hbox hb; have BK1:=Zz.k hbox; have GE1:=Zz.k ((by rw [hg]; exact (Qag (bw HB)) : w.heap.size <= gb1)); replace HB:=bs HB hb; clear hb hbox hg) | ((with_reducible refine Qaa (f:=44) rfl ?_); (try (refine Qah (by rfl) ?_; dsimp only)); refine gl (some 13) Tryz.func44 #[.slice A0 l0.length c0] (h := ?_); (refine (HMay.out _ (bw HB)).mono ?_); rintro e w2 ⟨rfl,hb⟩; refine ⟨_,rfl, ?_⟩; replace BK1:=bl BK1 hb; replace HB:=bs HB hb; clear hb; obtain ⟨_,_,_,_,_,_,_,_,_,_,_,_,_,_,_,_,_,_,_,_,_,_⟩:=kc11 BK1))
  refine bodyPost_ret (Qba rfl _ _ gb1 34 #[.int .i64 0, .int .i64 0, .int .i64 0, .int .i64 0, .int .i64 0, .int .i64 0, .string (⟨#[]⟩ : ByteArray), .slice none 0 0, .int .i64 0, .int .i64 0, .int .i64 0] (0,0) _ rfl (bp11 (kk BK1)) hu rfl (by kernel_rfl)) rfl ?_
  exact ⟨rfl,bw HB⟩
 ·rw [hm,Bool.not_true,Bool.false_or,Bool.not_eq_true'] at hbad
  rw [hm] at HMay
  rw [hbad] at HSite
  clear hm hbad
  go_enter Tryz.func22,Tryz.ntmps22
  go_wp2_with (first | ((with_reducible refine Qad (N:=8) rfl ?_); refine bx 8 #[.int .i64 0, .int .i64 0, .int .i64 0, .int .i64 0, .int .i64 0, .int .i64 0, .string (⟨#[]⟩ : ByteArray), .slice none 0 0, .int .i64 0, .int .i64 0, .int .i64 0] 34 (h := ?_); intro gb1 hg w1 hbox hb; have BK1:=Zz.k hbox; have GE1:=Zz.k ((by rw [hg]; exact (Qag (bw HB)) : w.heap.size <= gb1)); replace HB:=bs HB hb; clear hb hbox hg) | ((with_reducible refine Qaa (f:=44) rfl ?_); (try (refine Qah (by rfl) ?_; dsimp only)); refine gl (some 13) Tryz.func44 #[.slice A0 l0.length c0] (h := ?_); (refine (HMay.out _ (bw HB)).mono ?_); rintro e w2 ⟨rfl,hb⟩; refine ⟨_,rfl, ?_⟩; replace BK1:=bl BK1 hb; replace HB:=bs HB hb; clear hb) | ((with_reducible refine Qaa (f:=45) rfl ?_); (try (refine Qah (by rfl) ?_; dsimp only)); refine gl (some 17) Tryz.func45 #[.int .i64 s] (h := ?_); (refine (HSite.out _ (bw HB)).mono ?_); rintro e w2 ⟨rfl,hb⟩; refine ⟨_,rfl, ?_⟩; replace BK1:=bl BK1 hb; replace HB:=bs HB hb; clear hb; obtain ⟨_,_,_,_,_,_,_,_,_,_,_,_,_,_,_,_,_,_,_,_,_,_⟩:=kc11 BK1))
  refine bodyPost_ret (Qba rfl _ _ gb1 34 #[.int .i64 0, .int .i64 0, .int .i64 0, .int .i64 0, .int .i64 0, .int .i64 0, .string (⟨#[]⟩ : ByteArray), .slice none 0 0, .int .i64 0, .int .i64 0, .int .i64 0] (0,0) _ rfl (bp11 (kk BK1)) hu rfl (by kernel_rfl)) rfl ?_
  exact ⟨rfl,bw HB⟩
theorem Tog_none (A0 : Option Addr) (c0 : Nat) (l0 : List SOp) (s a n : Int) (w : World) (hr0 : Kd.C kOp w A0 l0.length l0) (hc0 : l0.length <= c0) (hsm : smalls l0 = true) (hm : mayB l0 = true) (hs : Qde s = true) (k : Nat) (er : Int) (hk : doc_Count.f k l0 a n = some (0,er)) (he : er ≠ 0) :
  Calls Tryz.prog 22 #[.slice A0 l0.length c0, .int .i64 s, .int .i64 a, .int .i64 n] w fun e w' => e = .returned (.tuple #[.agg #[.int .i64 0, .int .i64 0, .int .i64 0, .int .i64 0, .int .i64 0, .int .i64 0, .string (⟨#[]⟩ : ByteArray), .slice none 0 0, .int .i64 0, .int .i64 0, .int .i64 0], .int .i64 er]) /\ Below w.heap.size w w':=by
 have hu:=Tryz.underlying34
 have HB:=Zz.k (Below.refl w.heap.size w)
 have HR0:=Zz.k hr0
 have HC0:=Zz.k hc0
 have HMay:=Zz.k (fun W (hb : Below w.heap.size w W) => tree_May.calls A0 c0 l0 (mayB l0) W (Kd.C_below hr0 hb) hc0 (Qcc hsm))
 have HSite:=Zz.k (fun W (_ : Below w.heap.size w W) => Site_calls s W)
 have HCnt:=Zz.k (fun W (hb : Below w.heap.size w W) => doc_Count.calls k A0 c0 l0 a n 0 er W (Kd.C_below hr0 hb) hc0 hk)
 rw [hm] at HMay
 rw [hs] at HSite
 clear hr0 hc0 hsm hm hs hk
 go_enter Tryz.func22,Tryz.ntmps22
 go_wp2_with (first | ((with_reducible refine Qad (N:=8) rfl ?_); refine bx 8 #[.int .i64 0, .int .i64 0, .int .i64 0, .int .i64 0, .int .i64 0, .int .i64 0, .string (⟨#[]⟩ : ByteArray), .slice none 0 0, .int .i64 0, .int .i64 0, .int .i64 0] 34 (h := ?_); intro gb1 hg w1 hbox hb; have BK1:=Zz.k hbox; have GE1:=Zz.k ((by rw [hg]; exact (Qag (bw HB)) : w.heap.size <= gb1)); replace HB:=bs HB hb; clear hb hbox hg) | ((with_reducible refine Qaa (f:=44) rfl ?_); (try (refine Qah (by rfl) ?_; dsimp only)); refine gl (some 13) Tryz.func44 #[.slice A0 l0.length c0] (h := ?_); (refine (HMay.out _ (bw HB)).mono ?_); rintro e w2 ⟨rfl,hb⟩; refine ⟨_,rfl, ?_⟩; replace BK1:=bl BK1 hb; replace HB:=bs HB hb; clear hb) | ((with_reducible refine Qaa (f:=45) rfl ?_); (try (refine Qah (by rfl) ?_; dsimp only)); refine gl (some 17) Tryz.func45 #[.int .i64 s] (h := ?_); (refine (HSite.out _ (bw HB)).mono ?_); rintro e w2 ⟨rfl,hb⟩; refine ⟨_,rfl, ?_⟩; replace BK1:=bl BK1 hb; replace HB:=bs HB hb; clear hb) | ((with_reducible refine Qaa (f:=59) rfl ?_); (try (refine Qah (by rfl) ?_; dsimp only)); refine gl (some 25) Tryz.func59 #[.slice A0 l0.length c0, .int .i64 a, .int .i64 n] (h := ?_); (refine (HCnt.out _ (bw HB)).mono ?_); rintro e w2 ⟨rfl,hb⟩; refine ⟨_,rfl, ?_⟩; replace BK1:=bl BK1 hb; replace HB:=bs HB hb; clear hb; obtain ⟨_,_,_,_,_,_,_,_,_,_,_,_,_,_,_,_,_,_,_,_,_,_⟩:=kc11 BK1))
 refine bodyPost_ret (Qba rfl _ _ gb1 34 #[.int .i64 0, .int .i64 0, .int .i64 0, .int .i64 0, .int .i64 0, .int .i64 0, .string (⟨#[]⟩ : ByteArray), .slice none 0 0, .int .i64 0, .int .i64 0, .int .i64 0] (0,0) _ rfl (bp11 (kk BK1)) hu rfl (by kernel_rfl)) rfl ?_
 exact ⟨rfl,bw HB⟩
theorem Tog_ok (A0 : Option Addr) (c0 : Nat) (l0 : List SOp) (s a n : Int) (w : World) (hr0 : Kd.C kOp w A0 l0.length l0) (hc0 : l0.length <= c0) (hsm : smalls l0 = true) (hm : mayB l0 = true) (hs : Qde s = true) (k : Nat) (g : Int) (hk : doc_Count.f k l0 a n = some (g,0)) (c1 : Int) (hc1 : c1 = ((Qbl l0 s + 1 : Nat) : Int)) (b : Bool) (hbb : mayB (l0 ++ [⟨s,c1,2,⟨0,0,0⟩,⟨#[]⟩,[],a,n,g⟩]) = b) :
  Calls Tryz.prog 22 #[.slice A0 l0.length c0, .int .i64 s, .int .i64 a, .int .i64 n] w fun e w' => (if b = true then e = .returned (.tuple #[.agg #[.int .i64 s, .int .i64 c1, .int .i64 2, .int .i64 0, .int .i64 0, .int .i64 0, .string (⟨#[]⟩ : ByteArray), .slice none 0 0, .int .i64 a, .int .i64 n, .int .i64 g], .int .i64 0]) else e = .returned (.tuple #[.agg #[.int .i64 0, .int .i64 0, .int .i64 0, .int .i64 0, .int .i64 0, .int .i64 0, .string (⟨#[]⟩ : ByteArray), .slice none 0 0, .int .i64 0, .int .i64 0, .int .i64 0], .int .i64 6])) /\ Below w.heap.size w w':=by
 have hl40:=((Qbh l0).1 hm).sums.1
 have HL:=Zz.k (show l0.length <= 1000000 by omega)
 have HNext:=Zz.k (fun W (hb : Below w.heap.size w W) => show Calls Tryz.prog 49 #[.slice A0 l0.length c0, .int .i64 s] W fun e w' => e = .returned (.int .i64 c1) /\ Below W.heap.size W w' by rw [hc1]; exact Next_at A0 c0 l0 s W (Kd.C_below hr0 hb) hc0 (by omega))
 have HSN:=Zz.k (smalls_snoc (o:=⟨s,c1,2,⟨0,0,0⟩,⟨#[]⟩,[],a,n,g⟩) hsm (by omega) (Nat.zero_le _) (Nat.zero_le _))
 have hu:=Tryz.underlying34
 have HB:=Zz.k (Below.refl w.heap.size w)
 have HR0:=Zz.k hr0
 have HC0:=Zz.k hc0
 have HMay:=Zz.k (fun W (hb : Below w.heap.size w W) => tree_May.calls A0 c0 l0 (mayB l0) W (Kd.C_below hr0 hb) hc0 (Qcc hsm))
 have HSite:=Zz.k (fun W (_ : Below w.heap.size w W) => Site_calls s W)
 have HCnt:=Zz.k (fun W (hb : Below w.heap.size w W) => doc_Count.calls k A0 c0 l0 a n g 0 W (Kd.C_below hr0 hb) hc0 hk)
 have HM:=Zz.k hbb
 rw [hm] at HMay
 rw [hs] at HSite
 clear hr0 hc0 hsm hm hs hk hbb hc1 hl40
 cases b
 ·simp only [Bool.false_eq_true,if_false]
  go_enter Tryz.func22,Tryz.ntmps22
  go_wp2_with (first | ((with_reducible refine Qad (N:=8) rfl ?_); refine bx 8 #[.int .i64 0, .int .i64 0, .int .i64 0, .int .i64 0, .int .i64 0, .int .i64 0, .string (⟨#[]⟩ : ByteArray), .slice none 0 0, .int .i64 0, .int .i64 0, .int .i64 0] 34 (h := ?_); intro gb1 hg w1 hbox hb; have BK1:=Zz.k hbox; have GE1:=Zz.k ((by rw [hg]; exact (Qag (bw HB)) : w.heap.size <= gb1)); replace HB:=bs HB hb; clear hb hbox hg) | ((with_reducible refine Qaa (f:=44) rfl ?_); (try (refine Qah (by rfl) ?_; dsimp only)); refine gl (some 13) Tryz.func44 #[.slice A0 l0.length c0] (h := ?_); (refine (HMay.out _ (bw HB)).mono ?_); rintro e w2 ⟨rfl,hb⟩; refine ⟨_,rfl, ?_⟩; replace BK1:=bl BK1 hb; replace HB:=bs HB hb; clear hb) | ((with_reducible refine Qaa (f:=45) rfl ?_); (try (refine Qah (by rfl) ?_; dsimp only)); refine gl (some 17) Tryz.func45 #[.int .i64 s] (h := ?_); (refine (HSite.out _ (bw HB)).mono ?_); rintro e w2 ⟨rfl,hb⟩; refine ⟨_,rfl, ?_⟩; replace BK1:=bl BK1 hb; replace HB:=bs HB hb; clear hb) | ((with_reducible refine Qaa (f:=59) rfl ?_); (try (refine Qah (by rfl) ?_; dsimp only)); refine gl (some 25) Tryz.func59 #[.slice A0 l0.length c0, .int .i64 a, .int .i64 n] (h := ?_); (refine (HCnt.out _ (bw HB)).mono ?_); rintro e w2 ⟨rfl,hb⟩; refine ⟨_,rfl, ?_⟩; replace BK1:=bl BK1 hb; replace HB:=bs HB hb; clear hb) | ((with_reducible refine Qaa (f:=49) rfl ?_); (try (refine Qah (by rfl) ?_; dsimp only)); refine gl (some 36) Tryz.func49 #[.slice A0 l0.length c0, .int .i64 s] (h := ?_); (refine (HNext.out _ (bw HB)).mono ?_); rintro e w2 ⟨rfl,hb⟩; refine ⟨_,rfl, ?_⟩; replace BK1:=bl BK1 hb; replace HB:=bs HB hb; clear hb) | ((with_reducible refine Qaa (f:=53) rfl ?_); refine gl (some 41) Tryz.func53 #[.slice A0 l0.length c0, .agg #[.int .i64 s, .int .i64 c1, .int .i64 2, .int .i64 0, .int .i64 0, .int .i64 0, .string (⟨#[]⟩ : ByteArray), .slice none 0 0, .int .i64 a, .int .i64 n, .int .i64 g]] (h := ?_); (refine (full_calls A0 c0 l0 s c1 2 0 0 0 (⟨#[]⟩ : ByteArray) [] a n g none 0 false _ (Kd.C_below HR0.out (bw HB)) HC0.out (Kd.C_nil _ _) (Nat.le_refl _) HL.out HSN.out HM.out).mono ?_); rintro e w2 ⟨hres,hb⟩; rw [if_neg nft] at hres; obtain rfl:=hres; refine ⟨_,rfl, ?_⟩; replace BK1:=bl BK1 hb; replace HB:=bs HB hb; clear hb; obtain ⟨_,_,_,_,_,_,_,_,_,_,_,_,_,_,_,_,_,_,_,_,_,_⟩:=kc11 BK1))
  refine bodyPost_ret (Qba rfl _ _ gb1 34 #[.int .i64 0, .int .i64 0, .int .i64 0, .int .i64 0, .int .i64 0, .int .i64 0, .string (⟨#[]⟩ : ByteArray), .slice none 0 0, .int .i64 0, .int .i64 0, .int .i64 0] (0,0) _ rfl (bp11 (kk BK1)) hu rfl (by kernel_rfl)) rfl ?_
  exact ⟨rfl,bw HB⟩
 ·simp only [if_true]
  go_enter Tryz.func22,Tryz.ntmps22
  go_wp2_with (first | ((with_reducible refine Qad (N:=8) rfl ?_); refine bx 8 #[.int .i64 0, .int .i64 0, .int .i64 0, .int .i64 0, .int .i64 0, .int .i64 0, .string (⟨#[]⟩ : ByteArray), .slice none 0 0, .int .i64 0, .int .i64 0, .int .i64 0] 34 (h := ?_); intro gb1 hg w1 hbox hb; have BK1:=Zz.k hbox; have GE1:=Zz.k ((by rw [hg]; exact (Qag (bw HB)) : w.heap.size <= gb1)); replace HB:=bs HB hb; clear hb hbox hg) | ((with_reducible refine Qaa (f:=44) rfl ?_); (try (refine Qah (by rfl) ?_; dsimp only)); refine gl (some 13) Tryz.func44 #[.slice A0 l0.length c0] (h := ?_); (refine (HMay.out _ (bw HB)).mono ?_); rintro e w2 ⟨rfl,hb⟩; refine ⟨_,rfl, ?_⟩; replace BK1:=bl BK1 hb; replace HB:=bs HB hb; clear hb) | ((with_reducible refine Qaa (f:=45) rfl ?_); (try (refine Qah (by rfl) ?_; dsimp only)); refine gl (some 17) Tryz.func45 #[.int .i64 s] (h := ?_); (refine (HSite.out _ (bw HB)).mono ?_); rintro e w2 ⟨rfl,hb⟩; refine ⟨_,rfl, ?_⟩; replace BK1:=bl BK1 hb; replace HB:=bs HB hb; clear hb) | ((with_reducible refine Qaa (f:=59) rfl ?_); (try (refine Qah (by rfl) ?_; dsimp only)); refine gl (some 25) Tryz.func59 #[.slice A0 l0.length c0, .int .i64 a, .int .i64 n] (h := ?_); (refine (HCnt.out _ (bw HB)).mono ?_); rintro e w2 ⟨rfl,hb⟩; refine ⟨_,rfl, ?_⟩; replace BK1:=bl BK1 hb; replace HB:=bs HB hb; clear hb) | ((with_reducible refine Qaa (f:=49) rfl ?_); (try (refine Qah (by rfl) ?_; dsimp only)); refine gl (some 36) Tryz.func49 #[.slice A0 l0.length c0, .int .i64 s] (h := ?_); (refine (HNext.out _ (bw HB)).mono ?_); rintro e w2 ⟨rfl,hb⟩; refine ⟨_,rfl, ?_⟩; replace BK1:=bl BK1 hb; replace HB:=bs HB hb; clear hb) | ((with_reducible refine Qaa (f:=53) rfl ?_); refine gl (some 41) Tryz.func53 #[.slice A0 l0.length c0, .agg #[.int .i64 s, .int .i64 c1, .int .i64 2, .int .i64 0, .int .i64 0, .int .i64 0, .string (⟨#[]⟩ : ByteArray), .slice none 0 0, .int .i64 a, .int .i64 n, .int .i64 g]] (h := ?_); (refine (full_calls A0 c0 l0 s c1 2 0 0 0 (⟨#[]⟩ : ByteArray) [] a n g none 0 true _ (Kd.C_below HR0.out (bw HB)) HC0.out (Kd.C_nil _ _) (Nat.le_refl _) HL.out HSN.out HM.out).mono ?_); rintro e w2 ⟨hres,hb⟩; rw [if_pos rfl] at hres; obtain rfl:=hres; refine ⟨_,rfl, ?_⟩; replace BK1:=bl BK1 hb; replace HB:=bs HB hb; clear hb; obtain ⟨_,_,_,_,_,_,_,_,_,_,_,_,_,_,_,_,_,_,_,_,_,_⟩:=kc11 BK1))
  refine bodyPost_ret (Qba rfl _ _ gb1 34 #[.int .i64 s, .int .i64 c1, .int .i64 2, .int .i64 0, .int .i64 0, .int .i64 0, .string (⟨#[]⟩ : ByteArray), .slice none 0 0, .int .i64 a, .int .i64 n, .int .i64 g] (0,0) _ rfl (bp11 (kk BK1)) hu rfl (by kernel_rfl)) rfl ?_
  exact ⟨rfl,bw HB⟩
end
section
theorem runesBytes_from (ns : List Int) : ∀ s : ByteArray,ns.foldl (fun r n => r ++ Utf8.encode n) s = s ++ runesBytes ns:=by
 induction ns with
 | nil => intro s; show s = s ++ ByteArray.empty; exact ByteArray.append_empty.symm
 | cons n ns ih =>
  intro s
  unfold runesBytes
  rw [List.foldl_cons,List.foldl_cons,ih,ih,ByteArray.empty_append,ByteArray.append_assoc]
theorem Qcz (a b : List Int) : runesBytes (a ++ b) = runesBytes a ++ runesBytes b:=by
 rw [<- runesBytes_from b (runesBytes a)]; unfold runesBytes; rw [List.foldl_append]
theorem runesBytes_one (r : Int) : runesBytes [r] = Utf8.encode r:=by
 unfold runesBytes; rw [List.foldl_cons,List.foldl_nil,ByteArray.empty_append]
end
section
theorem doc_Plain_f {L : List SOp} (hs : smalls L = true) (h : RowOk L) : doc_Plain.f L = some (Qbk L):=by unfold doc_Plain.f; exact if_pos ⟨hs,(Qbh L).2 h⟩
theorem doc_Text_ok {L : List SOp} (hs : smalls L = true) (h : RowOk L) : doc_Text.f L = some (Qbk L,0):=by
 unfold doc_Text.f
 rw [Qcc hs,(Qbh L).2 h,Option.bind_some,if_pos rfl,doc_Plain_f hs h]; rfl
theorem doc_Text_no {L : List SOp} (hs : smalls L = true) (hm : mayB L = false) : doc_Text.f L = some ((⟨#[]⟩ : ByteArray),1):=by
 unfold doc_Text.f
 rw [Qcc hs,hm]; rfl
end
section
theorem tog_plain {l ts : List SOp} (ho : ordL (l ++ ts) = ordL l) (h2 : ∀ t ∈ ts,t.f2 = 2) (hw : ∀ o ∈ l,Qcb (l ++ ts) o = Qcb l o) (ha : ∀ e ∈ ordL l,atR (l ++ ts) e = atR l e) : Qbk (l ++ ts) = Qbk l:=by
 unfold Qbk
 rw [tog_seen ho h2 hw]
 congr 1
 exact List.map_congr_left fun e he => ha e (seen_mem.1 he).1
theorem tog_at {l : List SOp} {t : SOp} (h : RowOk l) (hn : NextOk l t) {e : SElem} (he : e ∈ ordL l) : atR (l ++ [t]) e = atR l e:=by
 obtain ⟨p,hp,e0,e1,_,_⟩:=(Qcp h e).1 he
 obtain ⟨i,hi,ef,_⟩:=Qdc h hp
 rw [e0,e1] at ef
 have hf:=hn.fresh h p hp
 unfold atR
 rw [findOp_app_other l t e.f0 e.f1 (by rw [<- e0,<- e1]; exact fun hh => hf ⟨hh.1.symm,hh.2.symm⟩),ef,rd_Op_app _ _ _ hi]
end
section
theorem chain_new {L : List SOp} {o : SOp} (h : RowOk L) (hn : NextOk L o) {e : SElem} (he : e ∈ Qaq o) : e ∉ ordL L:=by
 intro hm
 obtain ⟨p,hp,e0,e1,_⟩:=(Qcp h e).1 hm
 have hc:=(mem_chain o e).1 he
 exact hn.fresh h p hp ⟨by omega,by omega⟩
theorem wr_ord {L : List SOp} (h : RowOk L) {e : SElem} (hw : wr L e) (hb : Qap e = false) : e ∈ ordL L:=by
 rcases hw with h1 | ⟨h0,p,hp,k0,k1,k2⟩
 ·rw [hb] at h1; cases h1
 ·exact (Qcp h _).2 ⟨p,hp,k0,k1,h0,k2⟩
theorem gone_old {L : List SOp} {o : SOp} (h : RowOk L) (hn : NextOk L o) {e : SElem} (he : e ∈ o.f5) : e ∈ ordL L:=wr_ord h (hn.gone e he) (opOk_goneMem hn.ok e he).1
theorem goneE_old {L : List SOp} (h : RowOk L) {e : SElem} (hg : goneE L e = true) : e ∈ ordL L:=by
 unfold goneE at hg
 rw [List.any_eq_true] at hg
 obtain ⟨p,hp,hq⟩:=hg
 rw [Bool.and_eq_true,decide_eq_true_iff] at hq
 obtain ⟨i,hi,rfl⟩:=List.getElem_of_mem hp
 obtain ⟨hn,hr⟩:=Qdg h i hi
 have hm:=gone_old hr hn hq.2
 obtain ⟨q,hq,k⟩:=(Qcp hr e).1 hm
 exact (Qcp h e).2 ⟨q,List.mem_of_mem_take hq,k⟩
theorem ord_snoc {L : List SOp} {o : SOp} (h : RowOk L) (hn : NextOk L o) (e : SElem) : e ∈ ordL (L ++ [o]) ↔ e ∈ ordL L \/ e ∈ Qaq o:=by
 rw [Qcp (.snoc h hn),Qcp h,mem_chain]
 constructor
 ·rintro ⟨p,hp,k⟩
  rcases List.mem_append.1 hp with hp | hp
  ·exact .inl ⟨p,hp,k⟩
  ·rw [List.mem_singleton] at hp; subst hp; exact .inr k
 ·rintro (⟨p,hp,k⟩ | k)
  ·exact ⟨p,List.mem_append_left _ hp,k⟩
  ·exact ⟨o,List.mem_append_right _ (List.mem_singleton.2 rfl),k⟩
theorem new_works {L : List SOp} {o : SOp} (h : RowOk L) (hn : NextOk L o) (h1 : o.f2 = 1) : Qcb (L ++ [o]) o = true:=by
 unfold Qcb
 rw [cnt_other (by omega),cnt_fresh h (hn.fresh h),h1]; rfl
theorem ins_seen {L : List SOp} {o : SOp} (h : RowOk L) (hn : NextOk L o) (h1 : o.f2 = 1) : Qan (L ++ [o]) = (ordL (L ++ [o])).filter fun e => decide (e ∈ Qaq o) || (decide (e ∈ Qan L) && !decide (e ∈ o.f5)):=by
 have hw : ∀ p,Qcb (L ++ [o]) p = Qcb L p:=fun p => workE_cnt (cnt_other (by omega) _ _)
 have hwo:=new_works h hn h1
 show (ordL (L ++ [o])).filter _ = _
 refine List.filter_congr fun e he => ?_
 have hgo : goneE (L ++ [o]) e = (goneE L e || decide (e ∈ o.f5)):=by
  unfold goneE
  rw [List.any_append,any_same L _ (fun p => Qcb L p && decide (e ∈ p.f5)) (fun p _ => by rw [hw])]
  congr 1
  rw [List.any_cons,List.any_nil,Bool.or_false,hwo,Bool.true_and]
 have hth : Qcw (L ++ [o]) e = (Qcw L e || decide (e ∈ Qaq o)):=by
  unfold Qcw
  rw [List.any_append,any_same L _ (fun p => Qcb L p && decide (e ∈ Qaq p)) (fun p _ => by rw [hw])]
  congr 1
  rw [List.any_cons,List.any_nil,Bool.or_false,hwo,Bool.true_and]
 rw [hgo,hth]
 by_cases hc : e ∈ Qaq o
 ·have hno:=chain_new h hn hc
  have g1 : goneE L e = false:=by
   cases hg : goneE L e
   ·rfl
   ·exact absurd (goneE_old h hg) hno
  have g2 : e ∉ o.f5:=fun hx => hno (gone_old h hn hx)
  rw [g1,Ze g2,Zd hc]
  cases Qcw L e <;> rfl
 ·have ho : e ∈ ordL L:=by
   rcases (ord_snoc h hn e).1 he with h2 | h2
   ·exact h2
   ·exact absurd h2 hc
  have hs : decide (e ∈ Qan L) = !(goneE L e || !Qcw L e):=by
   rw [Bool.eq_iff_iff,decide_eq_true_iff,seen_mem]
   cases goneE L e <;> cases Qcw L e <;> simp [ho]
  rw [hs,Ze hc]
  cases goneE L e <;> cases Qcw L e <;> cases decide (e ∈ o.f5) <;> rfl
theorem cut_here (v : List SElem) (hv : v.Nodup) (a n : Nat) : (v.take a).filter (fun e => !decide (e ∈ (v.drop a).take n)) = v.take a /\ (v.drop a).filter (fun e => !decide (e ∈ (v.drop a).take n)) = v.drop (a + n):=by
 have hs : v = v.take a ++ v.drop a:=(List.take_append_drop _ _).symm
 have hnd:=hv
 rw [hs] at hnd
 obtain ⟨_,n2,n3⟩:=List.nodup_append.1 hnd
 constructor
 ·rw [List.filter_eq_self]
  intro e he
  rw [Bool.not_eq_true',decide_eq_false_iff_not]
  exact fun hx => n3 e he e (List.mem_of_mem_take hx) rfl
 ·have hd : v.drop a = (v.drop a).take n ++ (v.drop a).drop n:=(List.take_append_drop _ _).symm
  have n4:=n2
  rw [hd] at n4
  obtain ⟨_,_,n5⟩:=List.nodup_append.1 n4
  have e1 : ((v.drop a).take n).filter (fun e => !decide (e ∈ (v.drop a).take n)) = []:=by
   rw [List.filter_eq_nil_iff]
   intro e he
   rw [Zd he]; decide
  have e2 : ((v.drop a).drop n).filter (fun e => !decide (e ∈ (v.drop a).take n)) = (v.drop a).drop n:=by
   rw [List.filter_eq_self]
   intro e he
   rw [Bool.not_eq_true',decide_eq_false_iff_not]
   exact fun hx => n5 e hx e he rfl
  have e3 : (v.drop a).filter (fun e => !decide (e ∈ (v.drop a).take n)) = ((v.drop a).take n).filter (fun e => !decide (e ∈ (v.drop a).take n)) ++ ((v.drop a).drop n).filter (fun e => !decide (e ∈ (v.drop a).take n)):=by
   rw [<- List.filter_append,<- hd]
  rw [e3,e1,e2,List.nil_append,List.drop_drop]
theorem seen_sub (L : List SOp) : (ordL L).filter (fun e => decide (e ∈ Qan L)) = Qan L:=by
 show _ = (ordL L).filter _
 refine List.filter_congr fun e he => ?_
 rw [Bool.eq_iff_iff,decide_eq_true_iff,seen_mem]
 cases goneE L e <;> cases Qcw L e <;> simp [he]
theorem filter_two (X : List SElem) (L : List SOp) (o : SOp) (hx : ∀ e ∈ X,e ∉ Qaq o) : X.filter (fun e => decide (e ∈ Qaq o) || (decide (e ∈ Qan L) && !decide (e ∈ o.f5))) = (X.filter fun e => decide (e ∈ Qan L)).filter fun e => !decide (e ∈ o.f5):=by
 rw [List.filter_filter]
 refine List.filter_congr fun e he => ?_
 rw [Ze (hx e he),Bool.false_or,Bool.and_comm]
theorem ins_at {L : List SOp} {o : SOp} (h : RowOk L) (hn : NextOk L o) (h1 : o.f2 = 1) {a n : Nat} (ha : a <= (Qan L).length)
  (hg : ∀ e,e ∈ o.f5 ↔ e ∈ ((Qan L).drop a).take n) (hf : (Qap o.f3 = true /\ (a = 0 \/ Qaq o = [])) \/ (Qap o.f3 = false /\ ∃ h0 : a - 1 < (Qan L).length,0 < a /\ o.f3 = (Qan L)[a - 1])) :
  Qan (L ++ [o]) = (Qan L).take a ++ Qaq o ++ (Qan L).drop (a + n):=by
 have hv:=seen_nodup h
 obtain ⟨c1,c2⟩:=cut_here (Qan L) hv a n
 have hq : ∀ X : List SElem,X.filter (fun e => !decide (e ∈ o.f5)) = X.filter (fun e => !decide (e ∈ ((Qan L).drop a).take n)):=fun X => List.filter_congr fun e _ => by rw [decide_eq_decide.2 (hg e)]
 have hco : (Qaq o).filter (fun e => decide (e ∈ Qaq o) || (decide (e ∈ Qan L) && !decide (e ∈ o.f5))) = Qaq o:=by
  rw [List.filter_eq_self]
  intro e he
  rw [Zd he]; rfl
 have hno : ∀ e ∈ ordL L,e ∉ Qaq o:=fun e he hc => chain_new h hn hc he
 have hall : (Qan L).filter (fun e => !decide (e ∈ o.f5)) = (Qan L).take a ++ (Qan L).drop (a + n):=by
  have : (Qan L).filter (fun e => !decide (e ∈ o.f5)) = ((Qan L).take a).filter (fun e => !decide (e ∈ o.f5)) ++ ((Qan L).drop a).filter (fun e => !decide (e ∈ o.f5)):=by rw [<- List.filter_append,List.take_append_drop]
  rw [this,hq,hq,c1,c2]
 rw [ins_seen h hn h1]
 rcases insO_form h hn (Qcu h).1 with ⟨hb,e⟩ | ⟨hb,A,B,e1,hA,hB,e⟩
 ·rw [e,List.filter_append,hco,filter_two _ L o hno,seen_sub,hall]
  rcases hf with ⟨_,h0 | h0⟩ | ⟨hb',_⟩
  ·subst h0; simp
  ·rw [h0]; simp
  ·rw [hb] at hb'; cases hb'
 ·rcases hf with ⟨hb',_⟩ | ⟨_,h0,hpos,hx⟩
  ·rw [hb] at hb'; cases hb'
  ·have hms : o.f3 ∈ Qan L:=by rw [hx]; exact List.getElem_mem h0
   have hs : Qan L = A.filter (fun e => decide (e ∈ Qan L)) ++ o.f3 :: B.filter (fun e => decide (e ∈ Qan L)):=by
    have:=seen_sub L
    rw [e1,List.filter_append,List.filter_cons,if_pos (by rw [Zd hms])] at this
    exact this.symm
   have hlen : (A.filter (fun e => decide (e ∈ Qan L))).length = a - 1:=by
    have h3 : (A.filter (fun e => decide (e ∈ Qan L))).length < (Qan L).length:=by
     have:=congrArg List.length hs
     rw [List.length_append,List.length_cons] at this; omega
    have h4 : (Qan L)[(A.filter (fun e => decide (e ∈ Qan L))).length] = o.f3:=by
     have : (Qan L)[(A.filter (fun e => decide (e ∈ Qan L))).length]? = some o.f3:=by
      conv => lhs; arg 1; rw [hs]
      rw [List.getElem?_append_right (Nat.le_refl _),Nat.sub_self]; rfl
     rw [List.getElem?_eq_getElem h3] at this
     exact Zo this
    exact (List.getElem_inj hv).1 (h4.trans hx)
   have hta : (Qan L).take a = A.filter (fun e => decide (e ∈ Qan L)) ++ [o.f3]:=by
    conv => lhs; rw [hs]
    rw [List.take_append,hlen,List.take_of_length_le (by omega),show a - (a - 1) = 1 by omega]
    rfl
   have hda : (Qan L).drop a = B.filter (fun e => decide (e ∈ Qan L)):=by
    conv => lhs; rw [hs]
    rw [List.drop_append,hlen,List.drop_of_length_le (by omega),show a - (a - 1) = 1 by omega]
    rfl
   have n1 : o.f3 ∉ o.f5:=by
    intro hm
    have:=(hg o.f3).1 hm
    have h6:=List.filter_eq_self.1 c1 o.f3 (by rw [hta]; simp)
    rw [Zd this] at h6; cases h6
   have sA : ∀ e ∈ A,e ∉ Qaq o:=fun e he => hno e (by rw [e1]; simp [he])
   have sB : ∀ e ∈ B,e ∉ Qaq o:=fun e he => hno e (by rw [e1]; simp [he])
   have hF : (decide (o.f3 ∈ Qaq o) || (decide (o.f3 ∈ Qan L) && !decide (o.f3 ∈ o.f5))) = true:=by rw [Zd hms,Ze n1]; cases decide (o.f3 ∈ Qaq o) <;> rfl
   rw [e,List.filter_append,List.filter_cons,if_pos hF,List.filter_append,hco,filter_two A L o sA,filter_two B L o sB,<- hda,hq ((Qan L).drop a),c2]
   have hA2 : (A.filter fun e => decide (e ∈ Qan L)).filter (fun e => !decide (e ∈ o.f5)) = A.filter fun e => decide (e ∈ Qan L):=by
    rw [hq,List.filter_eq_self]
    intro e he
    exact List.filter_eq_self.1 c1 e (by rw [hta]; exact List.mem_append_left _ he)
   rw [hA2,hta]
   simp
theorem chain_runes {L : List SOp} {o : SOp} (h : RowOk L) (hn : NextOk L o) : (Qaq o).map (atR (L ++ [o])) = Qat o.f4:=by
 have hr:=RowOk.snoc h hn
 have hi : L.length < (L ++ [o]).length:=by simp
 have hf:=findOp_at hr hi
 have ho : (L ++ [o])[L.length] = o:=by simp
 rw [ho] at hf
 refine List.ext_getElem (by rw [List.length_map,Qcj]; rfl) fun k h1 h2 => ?_
 rw [List.getElem_map]
 have hk : k < Qal o:=h2
 have hc : (Qaq o)[k]'(by rw [Qcj]; exact hk) = ⟨o.f0,o.f1,(k : Int)⟩:=by
  have:=chain_at k hk
  rw [List.getElem?_eq_getElem (by rw [Qcj]; exact hk)] at this
  exact Zo this
 rw [hc]
 unfold atR
 rw [hf,rd_Op_last]
 show (Qat o.f4).getD k 0 = _
 rw [List.getD_eq_getElem?_getD,List.getElem?_eq_getElem h2]; rfl
theorem ins_runes {L : List SOp} {o : SOp} (h : RowOk L) (hn : NextOk L o) {a n : Nat} (hs : Qan (L ++ [o]) = (Qan L).take a ++ Qaq o ++ (Qan L).drop (a + n)) :
  (Qan (L ++ [o])).map (atR (L ++ [o])) = ((Qan L).map (atR L)).take a ++ Qat o.f4 ++ ((Qan L).map (atR L)).drop (a + n):=by
 have hm : ∀ X : List SElem,(∀ e ∈ X,e ∈ ordL L) -> X.map (atR (L ++ [o])) = X.map (atR L):=fun X hX => List.map_congr_left fun e he => tog_at h hn (hX e he)
 rw [hs,List.map_append,List.map_append,chain_runes h hn,hm _ (fun e he => (seen_mem.1 (List.mem_of_mem_take he)).1),hm _ (fun e he => (seen_mem.1 (List.mem_of_mem_drop he)).1),List.map_take,List.map_drop]
theorem ins_text {L : List SOp} {o : SOp} (h : RowOk L) (hn : NextOk L o) {a n : Nat} (hs : Qan (L ++ [o]) = (Qan L).take a ++ Qaq o ++ (Qan L).drop (a + n)) :
  Qbk (L ++ [o]) = runesBytes (((Qan L).map (atR L)).take a) ++ runesBytes (Qat o.f4) ++ runesBytes (((Qan L).map (atR L)).drop (a + n)):=by
 unfold Qbk
 rw [ins_runes h hn hs,Qcz,Qcz]
end
section
theorem doc_Edit_at {L : List SOp} (hs : smalls L = true) (h : RowOk L) {i : Nat} (hi : i < L.length) {a b : Int} (hf : Qaz L a b = (i : Int)) : doc_Edit.f L a b = some (if L[i].f2 = 1 then ((i : Int),0) else (0,3)):=by
 have h40:=h.sums.1
 unfold doc_Edit.f
 rw [Qcc hs,(Qbh L).2 h,Option.bind_some,if_pos rfl,tree_Find_f (by omega),Option.bind_some,hf,if_neg (by omega),if_pos (by omega),if_pos (by omega),Qas _ _ hi]
 split <;> rfl
theorem Count_ev {L : List SOp} (hs : smalls L = true) (h : RowOk L) {i : Nat} (hi : i < L.length) {a b : Int} (hf : Qaz L a b = (i : Int)) : Ev (fun k => doc_Count.f k L a b) (if L[i].f2 = 1 then (cntR L L[i].f0 L[i].f1,0) else (0,3)):=by
 by_cases h1 : L[i].f2 = 1
 ·rw [if_pos h1]
  refine Ev.congr (f:=fun k => (doc_Counts.f k L).bind fun t => if 0 <= (i : Int) then (if (i : Int) < (t.length : Int) then some (rd t (i : Int),(0 : Int)) else none) else none) (fun k => ?_) (Ev.bind (f:=fun _ t => if 0 <= (i : Int) then (if (i : Int) < (t.length : Int) then some (rd t (i : Int),(0 : Int)) else none) else none) (Counts_ev h) ?_)
  ·unfold doc_Count.f
   rw [doc_Edit_at hs h hi hf,if_pos h1]; rfl
  ·refine Ev.congr (fun k => ?_) (Ev.now _)
   rw [if_pos (by omega),if_pos (by rw [counts_length]; omega)]
   unfold rd
   rw [Int.toNat_natCast,counts_at h hi]
 ·rw [if_neg h1]
  refine Ev.congr (fun k => ?_) (Ev.now _)
  unfold doc_Count.f
  rw [doc_Edit_at hs h hi hf,if_neg h1]; rfl
theorem findOp_name {L : List SOp} {a b : Int} {i : Nat} (hi : i < L.length) (hf : Qaz L a b = (i : Int)) : L[i].f0 = a /\ L[i].f1 = b:=by
 unfold Qaz at hf
 rcases firstAt_cases (fun i => nameIs a b (Qaf L i)) L.length with ⟨j,hj,hp,_,e⟩ | ⟨_,e⟩
 ·rw [e] at hf
  obtain rfl : j = i:=by omega
  rw [Qas _ _ hi] at hp
  unfold nameIs at hp
  simpa using hp
 ·rw [e] at hf; omega
theorem doc_Edit_none {L : List SOp} (hs : smalls L = true) (h : RowOk L) {a b : Int} (hf : Qaz L a b < 0) : doc_Edit.f L a b = some (0,3):=by
 have h40:=h.sums.1
 unfold doc_Edit.f
 rw [Qcc hs,(Qbh L).2 h,Option.bind_some,if_pos rfl,tree_Find_f (by omega),Option.bind_some,if_pos hf]
def edAt (L : List SOp) (a b : Int) : Bool:=decide (0 <= Qaz L a b) && decide ((Qaf L (Qaz L a b)).f2 = 1)
theorem Count_all {L : List SOp} (hs : smalls L = true) (h : RowOk L) (a b : Int) : Ev (fun k => doc_Count.f k L a b) (if edAt L a b = true then (cntR L a b,0) else (0,3)):=by
 unfold edAt
 by_cases h0 : 0 <= Qaz L a b
 ·have hr:=findOp_range L a b h0
  obtain ⟨i,hf⟩ : ∃ i : Nat,Qaz L a b = (i : Int):=⟨(Qaz L a b).toNat,by omega⟩
  have hi : i < L.length:=by omega
  obtain ⟨e0,e1⟩:=findOp_name hi hf
  have hc:=Count_ev hs h hi hf
  rw [hf,Qas _ _ hi,Zd (show (0 : Int) <= (i : Int) by omega),Bool.true_and]
  rw [e0,e1] at hc
  simpa only [decide_eq_true_eq] using hc
 ·rw [Ze h0,Bool.false_and,if_neg (by decide)]
  refine Ev.congr (fun k => ?_) (Ev.now _)
  unfold doc_Count.f
  rw [doc_Edit_none hs h (by omega)]; rfl
end
section
def togO (l0 : List SOp) (s a n : Int) : SOp:=⟨s,((Qbl l0 s + 1 : Nat) : Int),2,⟨0,0,0⟩,⟨#[]⟩,[],a,n,cntR l0 a n⟩
def togV (l0 : List SOp) (s a n : Int) : SOp × Int :=
 if (!mayB l0 || !Qde s) = true then (⟨0,0,0,⟨0,0,0⟩,⟨#[]⟩,[],0,0,0⟩,1)
 else if edAt l0 a n = true then (if mayB (l0 ++ [togO l0 s a n]) = true then (togO l0 s a n,0) else (⟨0,0,0,⟨0,0,0⟩,⟨#[]⟩,[],0,0,0⟩,6))
 else (⟨0,0,0,⟨0,0,0⟩,⟨#[]⟩,[],0,0,0⟩,3)
def edit_Toggle.f (l0 : List (SOp)) (a1 : Int) (a2 : Int) (a3 : Int) : Option (Int × Int × Int × Int × Int × Int × ByteArray × (List (SElem)) × Int × Int × Int × Int) :=
 if smalls l0 = true then some ((togV l0 a1 a2 a3).1.f0,(togV l0 a1 a2 a3).1.f1,(togV l0 a1 a2 a3).1.f2,(togV l0 a1 a2 a3).1.f3.f0,(togV l0 a1 a2 a3).1.f3.f1,(togV l0 a1 a2 a3).1.f3.f2,(togV l0 a1 a2 a3).1.f4,(togV l0 a1 a2 a3).1.f5,(togV l0 a1 a2 a3).1.f6,(togV l0 a1 a2 a3).1.f7,(togV l0 a1 a2 a3).1.f8,(togV l0 a1 a2 a3).2) else none
theorem Toggle_calls (A0 : Option Addr) (c0 : Nat) (l0 : List SOp) (s a n : Int) (w : World) (hr0 : Kd.C kOp w A0 l0.length l0) (hc0 : l0.length <= c0) (hsm : smalls l0 = true) (o : SOp) (err : Int) (hv : togV l0 s a n = (o,err)) :
  Calls Tryz.prog 22 #[.slice A0 l0.length c0, .int .i64 s, .int .i64 a, .int .i64 n] w fun e w' => (e = .returned (.tuple #[.agg #[.int .i64 o.f0, .int .i64 o.f1, .int .i64 o.f2, .int .i64 o.f3.f0, .int .i64 o.f3.f1, .int .i64 o.f3.f2, .string o.f4, .slice none 0 0, .int .i64 o.f6, .int .i64 o.f7, .int .i64 o.f8], .int .i64 err]) /\ Below w.heap.size w w') /\ o.f5 = []:=by
 unfold togV at hv
 by_cases h1 : (!mayB l0 || !Qde s) = true
 ·rw [if_pos h1] at hv
  obtain ⟨rfl,rfl⟩:=Prod.mk.inj hv
  exact (Tog_bad A0 c0 l0 s a n w hr0 hc0 hsm h1).mono fun e w' h => ⟨h,rfl⟩
 ·rw [if_neg h1] at hv
  have hm : mayB l0 = true:=by cases h : mayB l0; rw [h] at h1; exact absurd rfl h1; rfl
  have hs : Qde s = true:=by cases h : Qde s; rw [h] at h1; exact absurd (by simp) h1; rfl
  obtain ⟨k,hk⟩:=(Count_all hsm ((Qbh l0).1 hm) a n).rounds
  by_cases h2 : edAt l0 a n = true
  ·rw [if_pos h2] at hv hk
   have hq:=Tog_ok A0 c0 l0 s a n w hr0 hc0 hsm hm hs k _ hk _ rfl _ rfl
   refine hq.mono fun e w' h => ?_
   by_cases h5 : mayB (l0 ++ [togO l0 s a n]) = true
   ·rw [if_pos h5] at hv
    obtain ⟨rfl,rfl⟩:=Prod.mk.inj hv
    unfold togO at h5
    rw [if_pos h5] at h
    exact ⟨h,rfl⟩
   ·rw [if_neg h5] at hv
    obtain ⟨rfl,rfl⟩:=Prod.mk.inj hv
    unfold togO at h5
    rw [if_neg h5] at h
    exact ⟨h,rfl⟩
  ·rw [if_neg h2] at hv hk
   obtain ⟨rfl,rfl⟩:=Prod.mk.inj hv
   exact (Tog_none A0 c0 l0 s a n w hr0 hc0 hsm hm hs k 3 hk (by decide)).mono fun e w' h => ⟨h,rfl⟩
theorem edit_Toggle.calls (A0 : Option Addr) (c0 : Nat) (l0 : List (SOp)) (a1 : Int) (a2 : Int) (a3 : Int) (r1 : Int) (r2 : Int) (r3 : Int) (r4 : Int) (r5 : Int) (r6 : Int) (r7 : ByteArray) (r8 : List (SElem)) (r9 : Int) (r10 : Int) (r11 : Int) (r12 : Int) (w : World) (hr0 : Kd.C kOp w A0 l0.length l0) (hc0 : l0.length <= c0) (h : edit_Toggle.f l0 a1 a2 a3 = some (r1,r2,r3,r4,r5,r6,r7,r8,r9,r10,r11,r12)) :
  Calls Tryz.prog 22 #[.slice A0 l0.length c0, .int .i64 a1, .int .i64 a2, .int .i64 a3] w fun e w' => ∃ v7_ : Value,e = .returned (.tuple #[.agg #[.int .i64 r1, .int .i64 r2, .int .i64 r3, .int .i64 r4, .int .i64 r5, .int .i64 r6, .string r7,v7_, .int .i64 r9, .int .i64 r10, .int .i64 r11], .int .i64 r12]) /\ Kd.R Qav 32 w' w.heap.size (fun _ => True) v7_ r8 /\ Below w.heap.size w w':=by
 unfold edit_Toggle.f at h
 split at h
 case isFalse => cases h
 rename_i hq
 have h:=Zo h
 obtain ⟨o,err,hv⟩ : ∃ o err,togV l0 a1 a2 a3 = (o,err):=⟨_,_,rfl⟩
 rw [hv] at h
 simp only [Prod.mk.injEq] at h
 obtain ⟨rfl,rfl,rfl,rfl,rfl,rfl,rfl,rfl,rfl,rfl,rfl,rfl⟩:=h
 refine (Toggle_calls A0 c0 l0 a1 a2 a3 w hr0 hc0 hq o err hv).mono ?_
 rintro e w' ⟨⟨he,hb⟩,h5⟩
 rw [h5]
 exact ⟨_,he,Kd.R_nil _ _ _ _ _,hb⟩
end
section
attribute [local go_sem] Qbu Qbs Qcg Qcf Qbe Qbd Qbt Qbr
def w0_Within.f (a0 : Int) (a1 : Int) : Option (Int):=if (IntKind.u64.wrap (a1)) = 0 then (none) else (some (wrap64 (Int.tmod (IntKind.u64.wrap (a0)) (IntKind.u64.wrap (a1)))))
theorem w0_Within.calls (a0 : Int) (a1 : Int) (r : Int) (w : World) (h : w0_Within.f a0 a1 = some r) :
  Calls Tryz.prog 19 #[.int .i64 a0, .int .i64 a1] w fun e w' => e = .returned (.int .i64 r) /\ Drawn0 w w':=by
 unfold w0_Within.f at h; have H:=h
 clear h
 by_cases c3 : (IntKind.u64.wrap (a1)) = 0
 ·rw [if_pos c3] at H
  exact absurd H (by simp)
 rw [if_neg c3] at H
 obtain ⟨c3b0,c3b1⟩:=bF c3
 obtain rfl:=Zo H
 go_enter Tryz.func19,Tryz.ntmps19
 go_wp2
 go_ret
 exact ⟨rf,by repeat (first | exact Drawn0.refl _ | apply Drawn0.step)⟩
def r1_Make.l0 : Nat -> List Int -> ByteArray -> Int -> Option (ByteArray)
 | 0,_,_,_ => none
 | k + 1,x0,x3,x4 => if x4 < (x0.length : Int) then (if 0 <= x4 then (if x3.size + (Utf8.encode (rd x0 x4)).size <= 9223372036854775807 then (r1_Make.l0 k x0 (x3 ++ (Utf8.encode (rd x0 x4))) (wrap64 (x4 + 1))) else (none)) else (none)) else (some x3)
def r1_Make.f (k : Nat) (l0 : List Int) : Option (ByteArray):=r1_Make.l0 k l0 (⟨#[]⟩ : ByteArray) 0
theorem r1_Make.calls (k : Nat) (A0 : Option Addr) (c0 : Nat) (l0 : List Int) (r : ByteArray) (w : World) (hr0 : Kd.C (Kd.int .i32) w A0 l0.length l0) (hc0 : l0.length <= c0) (h : r1_Make.f k l0 = some r) :
  Calls Tryz.prog 21 #[.slice A0 l0.length c0] w fun e w' => e = .returned (.string r) /\ Drawn0 w w':=by
 have HR0:=Zz.k hr0
 have HC0:=Zz.k hc0
 clear hr0 hc0
 unfold r1_Make.f at h; have H:=h
 clear h
 have H':=Zz.k H
 clear H
 go_enter Tryz.func21,Tryz.ntmps21
 go_wp2
 go_loopg [3,4] k (fun kq v3 v4 w' => ∃ (x3_1 : ByteArray) (x4_1 : Int),v3 = .string x3_1 /\ v4 = .int .i64 x4_1 /\ Zz (r1_Make.l0 kq l0 x3_1 x4_1 = some r) /\ Zz (kq <= k) /\ Drawn0 w w')
 case atStart => exact ⟨((⟨#[]⟩ : ByteArray)),(0),rf,rf,H',⟨Nat.le_refl _⟩,by repeat (first | exact Drawn0.refl _ | apply Drawn0.step)⟩
 case round =>
  clear H'
  obtain ⟨x3_1,x4_1,rfl,rfl,HA,HK1,⟨m1,rfl⟩⟩:=hrel
  cases gk with
  | zero => exact absurd HA.out (by simp [r1_Make.l0])
  | succ k1 =>
   have H:=HA.out
   clear HA
   simp only [r1_Make.l0] at H
   by_cases c2 : x4_1 < (l0.length : Int); rotate_left
   ·rw [if_neg c2] at H
    have c2b0:=Ze c2
    clear c2
    obtain rfl:=Zo H
    go_wp2
    go_ret
    exact ⟨rf,by repeat (first | exact Drawn0.refl _ | apply Drawn0.step)⟩
   rw [if_pos c2] at H
   have c2b0:=Zd c2
   clear c2
   by_cases c3 : 0 <= x4_1; rotate_left
   ·rw [if_neg c3] at H
    exact absurd H (by simp)
   rw [if_pos c3] at H
   have c3b0:=Zd c3
   clear c3
   by_cases c4 : x3_1.size + (Utf8.encode (rd l0 x4_1)).size <= 9223372036854775807; rotate_left
   ·rw [if_neg c4] at H
    exact absurd H (by simp)
   rw [if_pos c4] at H
   have c4b0:=eq_true c4
   have c4b1:=Zd c4
   try have c4b2 : (9223372036854775807 < x3_1.size + (Utf8.encode (rd l0 x4_1)).size) = False:=eq_false (Nat.not_lt.2 c4)
   have H':=Zz.k H
   clear H
   have p479 : 0 <= (x4_1 : Int):=od
   have q479 : x4_1 < (l0.length : Int):=od
   obtain ⟨ad479,e479,hx479_0⟩:=Kd.at_int HR0.out x4_1 p479 q479
   cases e479
   replace p479:=eq_true p479
   replace q479:=eq_true q479
   go_wp2
   go_roundg k1
   case measure => have:=HK1.out; omega
   case rel => exact ⟨(x3_1 ++ (Utf8.encode (rd l0 x4_1))),(wrap64 (x4_1 + 1)),rf,rf,H',⟨by have:=HK1.out; omega⟩,by repeat (first | exact Drawn0.refl _ | apply Drawn0.step)⟩
end
end Go.Proofs.YtlllghajjamdpaaGreatDoor.L
end
