/- Part 11 of the proof that for every argument the laws CaretDeletes and CaretUndoes answer true: what goes ahead of a caret moves it by so much, where its own element goes it stands where that was; behind a toggle, and another one of the same edit, a caret is where it was. -/
import Derived.Test.YtonoaflfobajcaaDoorZCA10
import Derived.Lib.RuneCountTail
section
namespace Go.Proofs.YtonoaflfobajcaaDoor.L
open Go.RowKit Go.Proofs.YtonoaflfobajcaaDoorW.PrintWords Go.Proofs.YtonoaflfobajcaaDoorW.PrintLast Go.Proofs.YtonoaflfobajcaaDoorW.PrintMore
set_option linter.unusedVariables false
set_option linter.unusedSimpArgs false
set_option maxHeartbeats 40000000
set_option maxRecDepth 1000000
section
attribute [local go_sem] Qbp Qbn Qby Qbx Qbc Qbb Qbo Qbm
mutual
def w11_CaretDeletes.l0 : Nat → Int → List (List (SOp)) → List (SElem) → List (SOp) → List Int → Option (Bool)
 | 0,_,_,_,_,_ => none
 | k + 1,x3,x420000,x420001,x420002,x420003 => if x3 < (x420000.length : Int) then (w11_CaretDeletes.j1 k x3 (decide (x3 < 4)) x420000 x420001 x420002 x420003) else (w11_CaretDeletes.j1 k x3 false x420000 x420001 x420002 x420003)
def w11_CaretDeletes.j1 : Nat → Int → Bool → List (List (SOp)) → List (SElem) → List (SOp) → List Int → Option (Bool)
 | 0,_,_,_,_,_,_ => none
 | k + 1,x3,x25,x420000,x420001,x420002,x420003 => if x25 = true then (if 0 ≤ x3 then (if x3 < (x420000.length : Int) then ((r4_Row.f k (Qak x420000 x3)).bind fun t423 => (if t423 = true then ((r4_Visible.f k (Qak x420000 x3)).bind fun t424 => (w11_CaretDeletes.l1 k x3 (Qak x420000 x3) t424 0 x420000 x420001 x420002 x420003)) else (w11_CaretDeletes.l0 k (wrap64 (x3 + 1)) x420000 x420001 x420002 x420003))) else (none)) else (none)) else ((w11_wakes.f k).bind fun t421 => (some t421))
def w11_CaretDeletes.l1 : Nat → Int → List (SOp) → List (SElem) → Int → List (List (SOp)) → List (SElem) → List (SOp) → List Int → Option (Bool)
 | 0,_,_,_,_,_,_,_,_ => none
 | k + 1,x3,x4,x5,x6,x420000,x420001,x420002,x420003 => if x6 ≤ (x5.length : Int) then (w11_CaretDeletes.j3 k x3 x4 x5 x6 (decide (x6 < 16)) x420000 x420001 x420002 x420003) else (w11_CaretDeletes.j3 k x3 x4 x5 x6 false x420000 x420001 x420002 x420003)
def w11_CaretDeletes.j3 : Nat → Int → List (SOp) → List (SElem) → Int → Bool → List (List (SOp)) → List (SElem) → List (SOp) → List Int → Option (Bool)
 | 0,_,_,_,_,_,_,_,_,_ => none
 | k + 1,x3,x4,x5,x6,x45,x420000,x420001,x420002,x420003 => if x45 = true then ((caret_Set.f k x4 x6).bind fun bt427 => ((w11_num.f bt427.2.2.2).bind fun t432 => (if t432 = 0 then (w11_CaretDeletes.l2 k x3 x4 x5 x6 0 x420000 x420001 x420002 x420003 bt427.1 bt427.2.1 bt427.2.2.1) else (some false)))) else (w11_CaretDeletes.l0 k (wrap64 (x3 + 1)) x420000 x420001 x420002 x420003)
def w11_CaretDeletes.l2 : Nat → Int → List (SOp) → List (SElem) → Int → Int → List (List (SOp)) → List (SElem) → List (SOp) → List Int → Int → Int → Int → Option (Bool)
 | 0,_,_,_,_,_,_,_,_,_,_,_,_ => none
 | k + 1,x3,x4,x5,x6,x9,x420000,x420001,x420002,x420003,x432000,x432001,x432002 => if x9 < (x5.length : Int) then (w11_CaretDeletes.j5 k x3 x4 x5 x6 x9 (decide (x9 < 16)) x420000 x420001 x420002 x420003 x432000 x432001 x432002) else (w11_CaretDeletes.j5 k x3 x4 x5 x6 x9 false x420000 x420001 x420002 x420003 x432000 x432001 x432002)
def w11_CaretDeletes.j5 : Nat → Int → List (SOp) → List (SElem) → Int → Int → Bool → List (List (SOp)) → List (SElem) → List (SOp) → List Int → Int → Int → Int → Option (Bool)
 | 0,_,_,_,_,_,_,_,_,_,_,_,_,_ => none
 | k + 1,x3,x4,x5,x6,x9,x64,x420000,x420001,x420002,x420003,x432000,x432001,x432002 => if x64 = true then ((r4_Replace.f k x4 (wrap64 (1 + (Int.tmod x9 3))) x9 1 (⟨#[]⟩ : ByteArray)).bind fun bt433 => (if bt433.2.2.2.2.2.2.2.2.2.2.2 = 0 then ((r4_Behind.f k x4 bt433.1 bt433.2.1 bt433.2.2.1 bt433.2.2.2.1 bt433.2.2.2.2.1 bt433.2.2.2.2.2.1 bt433.2.2.2.2.2.2.1 bt433.2.2.2.2.2.2.2.1 bt433.2.2.2.2.2.2.2.2.1 bt433.2.2.2.2.2.2.2.2.2.1 bt433.2.2.2.2.2.2.2.2.2.2.1).bind fun t448 => ((caret_Place.f t448 x432000 x432001 x432002).bind fun bt451 => (if x9 < x6 then (w11_CaretDeletes.j6 k x3 x4 x5 x6 x9 bt451.1 bt451.2 (wrap64 (x6 - 1)) x420000 x420001 x420002 x420003 x432000 x432001 x432002) else (w11_CaretDeletes.j6 k x3 x4 x5 x6 x9 bt451.1 bt451.2 x6 x420000 x420001 x420002 x420003 x432000 x432001 x432002)))) else (w11_CaretDeletes.l2 k x3 x4 x5 x6 (wrap64 (x9 + 1)) x420000 x420001 x420002 x420003 x432000 x432001 x432002))) else (w11_CaretDeletes.l1 k x3 x4 x5 (wrap64 (x6 + 1)) x420000 x420001 x420002 x420003)
def w11_CaretDeletes.j6 : Nat → Int → List (SOp) → List (SElem) → Int → Int → Int → Int → Int → List (List (SOp)) → List (SElem) → List (SOp) → List Int → Int → Int → Int → Option (Bool)
 | 0,_,_,_,_,_,_,_,_,_,_,_,_,_,_,_ => none
 | k + 1,x3,x4,x5,x6,x9,x12,x13,x14,x420000,x420001,x420002,x420003,x432000,x432001,x432002 => (w11_num.f x13).bind fun t453 => (if t453 = 0 then (if x12 = x14 then (w11_CaretDeletes.l2 k x3 x4 x5 x6 (wrap64 (x9 + 1)) x420000 x420001 x420002 x420003 x432000 x432001 x432002) else (some false)) else (some false))
end
def w11_CaretDeletes.f (k : Nat) (l0_0 : List (List (SOp))) (l0_1 : List (SElem)) (l0_2 : List (SOp)) (l0_3 : List Int) : Option (Bool):=(w5_Heavy.f k l0_0 l0_1 l0_2 l0_3).bind fun t420 => (if t420 = true then (some true) else (w11_CaretDeletes.l0 k 0 l0_0 l0_1 l0_2 l0_3))
def w11_CaretDeletes.T20 : Bool × List (List Nat × List Nat):=(true,[([],[]),([],[]),([0,1],[0,1]),([],[]),([2,3,2],[2,3]),([4],[4]),([5],[5]),([5],[5]),([6,4,0,1,2,3,4,5,6],[6]),([7,8,0,1,2,3,4,5,6,7,8],[7])])
def w11_CaretDeletes.B20 : List Nat:=[0,0,3,0,15,31,63,63,127,511]
theorem w11_CaretDeletes.tab20 : rtab .any (Qcu Tryd.f8 20) = w11_CaretDeletes.T20:=by kernel_rfl
theorem w11_CaretDeletes.bits20 : Qax w11_CaretDeletes.T20.2 w11_CaretDeletes.B20 = true:=by kernel_rfl
theorem w11_CaretDeletes.calls (k : Nat) (A0_0 : Option Addr) (c0_0 : Nat) (l0_0 : List (List (SOp))) (A0_1 : Option Addr) (c0_1 : Nat) (l0_1 : List (SElem)) (A0_2 : Option Addr) (c0_2 : Nat) (l0_2 : List (SOp)) (A0_3 : Option Addr) (c0_3 : Nat) (l0_3 : List Int) (r : Bool) (w : World) (hr0_0 : Kd.C (Kd.slice 55 kOp) w A0_0 l0_0.length l0_0) (hc0_0 : l0_0.length ≤ c0_0) (hr0_1 : Kd.C Qaq w A0_1 l0_1.length l0_1) (hc0_1 : l0_1.length ≤ c0_1) (hr0_2 : Kd.C kOp w A0_2 l0_2.length l0_2) (hc0_2 : l0_2.length ≤ c0_2) (hr0_3 : Kd.C (Kd.int .i64) w A0_3 l0_3.length l0_3) (hc0_3 : l0_3.length ≤ c0_3) (hT : GT w) (h : w11_CaretDeletes.f k l0_0 l0_1 l0_2 l0_3 = some r) :
  Calls Tryd.prog 8 #[.agg #[.slice A0_0 l0_0.length c0_0, .slice A0_1 l0_1.length c0_1, .slice A0_2 l0_2.length c0_2, .slice A0_3 l0_3.length c0_3]] w fun e w' => e = .returned (.bool r) ∧ Below w.heap.size w w':=by
 have hu27:=Tryd.underlying27
 have hu43:=Tryd.underlying43
 have hu55:=Tryd.underlying55
 have HR0_0:=Aside0.mk hr0_0
 have HC0_0:=Aside0.mk hc0_0
 clear hr0_0 hc0_0
 have HR0_1:=Aside0.mk hr0_1
 have HC0_1:=Aside0.mk hc0_1
 clear hr0_1 hc0_1
 have HR0_2:=Aside0.mk hr0_2
 have HC0_2:=Aside0.mk hc0_2
 clear hr0_2 hc0_2
 have HR0_3:=Aside0.mk hr0_3
 have HC0_3:=Aside0.mk hc0_3
 clear hr0_3 hc0_3
 have HB:=Aside0.mk (Below.refl w.heap.size w)
 unfold w11_CaretDeletes.f at h; have H:=h
 clear h
 obtain ⟨t420,A2,H⟩:=bE H
 by_cases c3 : t420 = true
 ·subst c3
  rw [if_pos rfl] at H
  obtain rfl:=Option.some.inj H
  go_enter Tryd.func8,Tryd.ntmps8
  go_wp2_with (first | ((with_reducible refine Qae (N:=1) rfl ?_); refine bx 1 #[.slice A0_0 l0_0.length c0_0, .slice A0_1 l0_1.length c0_1, .slice A0_2 l0_2.length c0_2, .slice A0_3 l0_3.length c0_3] 27 (h := ?_); intro gb419 hg w4 hbox hb; have BK419:=Aside0.mk (hbox); have GW419:=bz HB hg; have GE419:=bz HB hg; replace HB:=bs HB hb; clear hb hbox hg; obtain ⟨_,_,_,_,_,_,_,_⟩:=kc4 BK419) | ((with_reducible refine Qab (f:=12) rfl ?_); refine gl (some 16) Tryd.func12 #[.agg #[.slice A0_0 l0_0.length c0_0, .slice A0_1 l0_1.length c0_1, .slice A0_2 l0_2.length c0_2, .slice A0_3 l0_3.length c0_3]] (h := ?_); (with_reducible refine (w5_Heavy.calls k _ _ l0_0 _ _ l0_1 _ _ l0_2 _ _ l0_3 true _ ?side1 ?side2 ?side3 ?side4 ?side5 ?side6 ?side7 ?side8 A2.out).mono ?_); (case side1 => exact cb HR0_0 HB); (case side2 => exact HC0_0.out); (case side3 => exact cb HR0_1 HB); (case side4 => exact HC0_1.out); (case side5 => exact cb HR0_2 HB); (case side6 => exact HC0_2.out); (case side7 => exact cb HR0_3 HB); (case side8 => exact HC0_3.out); rintro e w6 ⟨rfl,hb⟩; refine ⟨_,rfl, ?_⟩; replace BK419:=bl BK419 hb; replace HB:=bs HB hb; clear hb))
  go_ret
  exact ⟨re,bw HB⟩
 replace c3:=Bool.eq_false_iff.mpr c3
 subst c3
 rw [if_neg nft] at H
 have H':=Aside0.mk H
 clear H
 go_enter Tryd.func8,Tryd.ntmps8
 go_wp2_with (first | ((with_reducible refine Qae (N:=1) rfl ?_); refine bx 1 #[.slice A0_0 l0_0.length c0_0, .slice A0_1 l0_1.length c0_1, .slice A0_2 l0_2.length c0_2, .slice A0_3 l0_3.length c0_3] 27 (h := ?_); intro gb419 hg w7 hbox hb; have BK419:=Aside0.mk (hbox); have GW419:=bz HB hg; have GE419:=bz HB hg; replace HB:=bs HB hb; clear hb hbox hg; obtain ⟨_,_,_,_,_,_,_,_⟩:=kc4 BK419) | ((with_reducible refine Qab (f:=12) rfl ?_); refine gl (some 16) Tryd.func12 #[.agg #[.slice A0_0 l0_0.length c0_0, .slice A0_1 l0_1.length c0_1, .slice A0_2 l0_2.length c0_2, .slice A0_3 l0_3.length c0_3]] (h := ?_); (with_reducible refine (w5_Heavy.calls k _ _ l0_0 _ _ l0_1 _ _ l0_2 _ _ l0_3 false _ ?side1 ?side2 ?side3 ?side4 ?side5 ?side6 ?side7 ?side8 A2.out).mono ?_); (case side1 => exact cb HR0_0 HB); (case side2 => exact HC0_0.out); (case side3 => exact cb HR0_1 HB); (case side4 => exact HC0_1.out); (case side5 => exact cb HR0_2 HB); (case side6 => exact HC0_2.out); (case side7 => exact cb HR0_3 HB); (case side8 => exact HC0_3.out); rintro e w9 ⟨rfl,hb⟩; refine ⟨_,rfl, ?_⟩; replace BK419:=bl BK419 hb; replace HB:=bs HB hb; clear hb))
 go_loopg [3] k (fun kq v3 w' => ∃ (x3_1 : Int),v3 = .int .i64 x3_1 ∧ Aside0 (w11_CaretDeletes.l0 kq x3_1 l0_0 l0_1 l0_2 l0_3 = some r) ∧ Aside0 (kq ≤ k) ∧ Aside0 (w'.heap[gb419]? = some (.cells #[(.slice A0_0 l0_0.length c0_0),(.slice A0_1 l0_1.length c0_1),(.slice A0_2 l0_2.length c0_2),(.slice A0_3 l0_3.length c0_3)] 27 (0,0))) ∧ Aside0 (Below w.heap.size w w'))
 case atStart => exact ⟨(0),rf,H',⟨Nat.le_refl _⟩,⟨kk BK419⟩,⟨bw HB⟩⟩
 case round =>
  clear H'
  try clear c3
  obtain ⟨x3_1,rfl,HA,HK1,BK419,HB⟩:=hrel
  cases gk with
  | zero => exact absurd HA.out (by simp [w11_CaretDeletes.l0])
  | succ k1 =>
   have H:=HA.out
   clear HA
   simp only [w11_CaretDeletes.l0] at H
   have HC10:=Aside0.mk H
   clear H
   go_upto_region 4 with (fail)
   go_cut [25] (fun v25 wc => ∃ (kq : Nat) (x25_9 : Bool),v25 = .bool x25_9 ∧ Aside0 (w11_CaretDeletes.j1 kq x3_1 x25_9 l0_0 l0_1 l0_2 l0_3 = some r) ∧ Aside0 (kq ≤ k1) ∧ Aside0 (wc.heap[gb419]? = some (.cells #[(.slice A0_0 l0_0.length c0_0),(.slice A0_1 l0_1.length c0_1),(.slice A0_2 l0_2.length c0_2),(.slice A0_3 l0_3.length c0_3)] 27 (0,0))) ∧ Aside0 (Below w.heap.size w wc))
   case first =>
    have H:=HC10.out
    clear HC10
    by_cases c11 : x3_1 < (l0_0.length : Int)
    ·rw [if_pos c11] at H
     have c11b0:=decide_eq_true c11
     clear c11
     (first | rw [c11b0] | (simp only [Qaw,Qay]; rw [c11b0]) | skip)
     have H':=Aside0.mk H
     clear H
     obtain ⟨_,_,_,_,_,_,_,_⟩:=kc4 BK419
     go_wp2
     go_meet
     case rel => exact ⟨_,(decide (x3_1 < 4)),rf,H',⟨by have:=HK1.out; first | omega | exact Nat.le_refl _⟩,⟨kk BK419⟩,⟨bw HB⟩⟩
    rw [if_neg c11] at H
    have c11b0:=decide_eq_false c11
    clear c11
    (first | rw [c11b0] | (simp only [Qaw,Qay]; rw [c11b0]) | skip)
    have H':=Aside0.mk H
    clear H
    obtain ⟨_,_,_,_,_,_,_,_⟩:=kc4 BK419
    go_wp2
    go_meet
    case rel => exact ⟨_,(false),rf,H',⟨by have:=HK1.out; first | omega | exact Nat.le_refl _⟩,⟨kk BK419⟩,⟨bw HB⟩⟩
   case rest =>
    clear HC10
    obtain ⟨kq,x25_9,rfl,HA,HJ9,BK419,HB⟩:=hcut
    cases kq with
    | zero => exact absurd HA.out (by simp [w11_CaretDeletes.j1])
    | succ kj9 =>
     have H:=HA.out
     clear HA
     simp only [w11_CaretDeletes.j1] at H
     by_cases c14 : x25_9 = true; rotate_left
     ·replace c14:=Bool.eq_false_iff.mpr c14
      subst c14
      rw [if_neg nft] at H
      obtain ⟨t421,A72,H⟩:=bE H
      obtain rfl:=Option.some.inj H
      go_wp2_with (first | ((with_reducible refine Qab (f:=37) rfl ?_); refine gl (some 100) Tryd.func37 #[] (h := ?_); (with_reducible refine (w11_wakes.calls kj9  t421 _ A72.out).mono ?_); rintro e w73 ⟨rfl,hb⟩; refine ⟨_,rfl, ?_⟩; replace BK419:=bl BK419 hb; replace HB:=bs HB hb; clear hb))
      go_ret
      exact ⟨re,bw HB⟩
     subst c14
     rw [if_pos rfl] at H
     by_cases c15 : 0 ≤ x3_1; rotate_left
     ·rw [if_neg c15] at H
      exact absurd H (by simp)
     rw [if_pos c15] at H
     have c15b0:=decide_eq_true c15
     clear c15
     by_cases c16 : x3_1 < (l0_0.length : Int); rotate_left
     ·rw [if_neg c16] at H
      exact absurd H (by simp)
     rw [if_pos c16] at H
     have c16b0:=decide_eq_true c16
     clear c16
     obtain ⟨t423,A17,H⟩:=bE H
     by_cases c18 : t423 = true; rotate_left
     ·replace c18:=Bool.eq_false_iff.mpr c18
      subst c18
      rw [if_neg nft] at H
      have H':=Aside0.mk H
      clear H
      obtain ⟨_,_,_,_,_,_,_,_⟩:=kc4 BK419
      have p422 : 0 ≤ (x3_1 : Int):=od
      have q422 : x3_1 < (l0_0.length : Int):=od
      obtain ⟨ad422,A422_0,c422_0,e422,hx422_0,hl422_0,hi422_0⟩:=at_LOp HR0_0.out x3_1 p422 q422
      cases e422
      replace hx422_0:=cl HB hx422_0
      have HR422_0:=Aside0.mk hi422_0
      have HC422_0:=Aside0.mk hl422_0
      clear hi422_0 hl422_0
      replace p422:=eq_true p422
      replace q422:=eq_true q422
      go_wp2_with (first | ((with_reducible refine Qab (f:=15) rfl ?_); refine gl (some 34) Tryd.func15 #[.slice A422_0 (Qak l0_0 x3_1).length c422_0] (h := ?_); (with_reducible refine (r4_Row.calls kj9 _ _ (Qak l0_0 x3_1) false _ ?side1 ?side2 ?side3 A17.out).mono ?_); (case side1 => exact cb HR422_0 HB); (case side2 => exact HC422_0.out); (case side3 => exact (hT.below (bw HB))); rintro e w71 ⟨rfl,hb⟩; refine ⟨_,rfl, ?_⟩; replace BK419:=bl BK419 hb; replace HB:=bs HB hb; clear hb))
      go_roundg kj9
      case measure => have:=HK1.out; have:=HJ9.out; omega
      case rel => exact ⟨(wrap64 (x3_1 + 1)),rf,H',⟨by have:=HK1.out; have:=HJ9.out; omega⟩,⟨kk BK419⟩,⟨bw HB⟩⟩
     subst c18
     rw [if_pos rfl] at H
     obtain ⟨t424,A19,H⟩:=bE H
     have H':=Aside0.mk H
     clear H
     obtain ⟨_,_,_,_,_,_,_,_⟩:=kc4 BK419
     have p422 : 0 ≤ (x3_1 : Int):=od
     have q422 : x3_1 < (l0_0.length : Int):=od
     obtain ⟨ad422,A422_0,c422_0,e422,hx422_0,hl422_0,hi422_0⟩:=at_LOp HR0_0.out x3_1 p422 q422
     cases e422
     replace hx422_0:=cl HB hx422_0
     have HR422_0:=Aside0.mk hi422_0
     have HC422_0:=Aside0.mk hl422_0
     clear hi422_0 hl422_0
     replace p422:=eq_true p422
     replace q422:=eq_true q422
     go_wp2_with (first | ((with_reducible refine Qab (f:=15) rfl ?_); refine gl (some 34) Tryd.func15 #[.slice A422_0 (Qak l0_0 x3_1).length c422_0] (h := ?_); (with_reducible refine (r4_Row.calls kj9 _ _ (Qak l0_0 x3_1) true _ ?side1 ?side2 ?side3 A17.out).mono ?_); (case side1 => exact cb HR422_0 HB); (case side2 => exact HC422_0.out); (case side3 => exact (hT.below (bw HB))); rintro e w21 ⟨rfl,hb⟩; refine ⟨_,rfl, ?_⟩; replace BK419:=bl BK419 hb; replace HB:=bs HB hb; clear hb) | ((with_reducible refine Qab (f:=31) rfl ?_); refine gl (some 37) Tryd.func31 #[.slice A422_0 (Qak l0_0 x3_1).length c422_0] (h := ?_); (with_reducible refine (r4_Visible.calls kj9 _ _ (Qak l0_0 x3_1) t424 _ ?side1 ?side2 ?side3 A19.out).mono ?_); (case side1 => exact cb HR422_0 HB); (case side2 => exact HC422_0.out); (case side3 => exact (hT.below (bw HB))); rintro e w22 ⟨v425,rfl,ho0,hb⟩; refine ⟨_,rfl, ?_⟩; have HO426:=Aside0.mk (Kd.R_lower ho0 (Qai (bw HB))); replace BK419:=bl BK419 hb; replace HB:=bs HB hb; clear hb; clear ho0))
     go_loopg [6] kj9 (fun kq v6 w' => ∃ (x6_3 : Int),v6 = .int .i64 x6_3 ∧ Aside0 (w11_CaretDeletes.l1 kq x3_1 (Qak l0_0 x3_1) t424 x6_3 l0_0 l0_1 l0_2 l0_3 = some r) ∧ Aside0 (kq ≤ kj9) ∧ Aside0 (Kd.R Qaq 43 w' w.heap.size (fun _ => True) v425 t424) ∧ Aside0 (w'.heap[gb419]? = some (.cells #[(.slice (some ad422) l0_0.length c0_0),(.slice A0_1 l0_1.length c0_1),(.slice A0_2 l0_2.length c0_2),(.slice A0_3 l0_3.length c0_3)] 27 (0,0))) ∧ Aside0 (Below w.heap.size w w'))
     case atStart => exact ⟨(0),rf,H',⟨Nat.le_refl _⟩,⟨rk HO426⟩,⟨kk BK419⟩,⟨bw HB⟩⟩
     case round =>
      clear H'
      try clear c14; try clear c15b0; try clear c16b0; try clear c18; try clear hx422_0; try clear p422; try clear q422
      obtain ⟨x6_3,rfl,HA,HK3,HO_5,BK419,HB⟩:=hrel
      cases gk with
      | zero => exact absurd HA.out (by simp [w11_CaretDeletes.l1])
      | succ k3 =>
       have H:=HA.out
       clear HA
       simp only [w11_CaretDeletes.l1] at H
       have HC23:=Aside0.mk H
       clear H
       go_upto_region 10 with (fail)
       go_cut [45] (fun v45 wc => ∃ (kq : Nat) (x45_22 : Bool),v45 = .bool x45_22 ∧ Aside0 (w11_CaretDeletes.j3 kq x3_1 (Qak l0_0 x3_1) t424 x6_3 x45_22 l0_0 l0_1 l0_2 l0_3 = some r) ∧ Aside0 (kq ≤ k3) ∧ Aside0 (Kd.R Qaq 43 wc w.heap.size (fun _ => True) v425 t424) ∧ Aside0 (wc.heap[gb419]? = some (.cells #[(.slice (some ad422) l0_0.length c0_0),(.slice A0_1 l0_1.length c0_1),(.slice A0_2 l0_2.length c0_2),(.slice A0_3 l0_3.length c0_3)] 27 (0,0))) ∧ Aside0 (Below w.heap.size w wc))
       case first =>
        have H:=HC23.out
        clear HC23
        by_cases c24 : x6_3 ≤ (t424.length : Int)
        ·rw [if_pos c24] at H
         have c24b0:=decide_eq_true c24
         clear c24
         (first | rw [c24b0] | (simp only [Qaw,Qay]; rw [c24b0]) | skip)
         have H':=Aside0.mk H
         clear H
         obtain ⟨Ao25,co25,eo25⟩:=Kd.R_slice HO_5.out
         subst eo25
         go_wp2
         go_meet
         case rel => exact ⟨_,(decide (x6_3 < 16)),rf,H',⟨by have:=HK1.out; have:=HJ9.out; have:=HK3.out; first | omega | exact Nat.le_refl _⟩,⟨rk HO_5⟩,⟨kk BK419⟩,⟨bw HB⟩⟩
        rw [if_neg c24] at H
        have c24b0:=decide_eq_false c24
        clear c24
        (first | rw [c24b0] | (simp only [Qaw,Qay]; rw [c24b0]) | skip)
        have H':=Aside0.mk H
        clear H
        obtain ⟨Ao26,co26,eo26⟩:=Kd.R_slice HO_5.out
        subst eo26
        go_wp2
        go_meet
        case rel => exact ⟨_,(false),rf,H',⟨by have:=HK1.out; have:=HJ9.out; have:=HK3.out; first | omega | exact Nat.le_refl _⟩,⟨rk HO_5⟩,⟨kk BK419⟩,⟨bw HB⟩⟩
       case rest =>
        clear HC23
        obtain ⟨kq,x45_22,rfl,HA,HJ22,HO_5,BK419,HB⟩:=hcut
        cases kq with
        | zero => exact absurd HA.out (by simp [w11_CaretDeletes.j3])
        | succ kj22 =>
         have H:=HA.out
         clear HA
         simp only [w11_CaretDeletes.j3] at H
         by_cases c27 : x45_22 = true; rotate_left
         ·replace c27:=Bool.eq_false_iff.mpr c27
          subst c27
          rw [if_neg nft] at H
          have H':=Aside0.mk H
          clear H
          go_wp2
          go_roundg kj22
          case measure => have:=HK1.out; have:=HJ9.out; have:=HK3.out; have:=HJ22.out; omega
          case rel => exact ⟨(wrap64 (x3_1 + 1)),rf,H',⟨by have:=HK1.out; have:=HJ9.out; have:=HK3.out; have:=HJ22.out; omega⟩,⟨kk BK419⟩,⟨bw HB⟩⟩
         subst c27
         rw [if_pos rfl] at H
         obtain ⟨⟨t427,t428,t429,t430⟩,A28,H⟩:=bE H
         try dsimp only at H
         obtain ⟨t432,A29,H⟩:=bE H
         by_cases c30 : t432 = 0; rotate_left
         ·rw [if_neg c30] at H
          obtain ⟨c30b0,c30b1⟩:=bF c30
          obtain rfl:=Option.some.inj H
          go_wp2_with (first | ((with_reducible refine Qab (f:=32) rfl ?_); refine gl (some 51) Tryd.func32 #[.slice A422_0 (Qak l0_0 x3_1).length c422_0, .int .i64 x6_3] (h := ?_); (with_reducible refine (caret_Set.calls kj22 _ _ (Qak l0_0 x3_1) x6_3 t427 t428 t429 t430 _ ?side1 ?side2 A28.out).mono ?_); (case side1 => exact cb HR422_0 HB); (case side2 => exact HC422_0.out); rintro e w66 ⟨rfl,hb⟩; refine ⟨_,rfl, ?_⟩; replace HO_5:=rb HO_5 hb; replace BK419:=bl BK419 hb; replace HB:=bs HB hb; clear hb) | ((with_reducible refine Qae (N:=7) rfl ?_); refine bx 7 #[.int .i64 0, .int .i64 0, .int .i64 0] 43 (h := ?_); intro gb431 hg w67 hbox hb; have BK431:=Aside0.mk (hbox); have GW431:=bz HB hg; have GE431:=bz HB hg; have NB419_431:=bn BK419 hg; have NB431_419:=bm BK419 hg; replace HO_5:=Aside0.mk (Kd.R_below (Kd.R_elderB (rk HO_5) gb431 (Nat.le_of_eq hg.symm)) hb); replace BK419:=bl BK419 hb; replace HB:=bs HB hb; clear hb hbox hg; have hnb68:=NB431_419.out; have hnc68:=NB419_431.out; obtain ⟨_,_,_,_,_,_⟩:=kc3 BK431) | ((with_reducible refine Qab (f:=33) rfl ?_); refine gl (some 55) Tryd.func33 #[.int .i64 t430] (h := ?_); (with_reducible refine (w11_num.calls t430 t432 _ A29.out).mono ?_); rintro e w' ⟨rfl,⟨nd,rfl⟩⟩; refine ⟨_,rfl, ?_⟩))
          go_ret
          exact ⟨re,bw HB⟩
         rw [if_pos c30] at H
         obtain ⟨c30b0,c30b1⟩:=bT c30
         clear c30
         have H':=Aside0.mk H
         clear H
         go_wp2_with (first | ((with_reducible refine Qab (f:=32) rfl ?_); refine gl (some 51) Tryd.func32 #[.slice A422_0 (Qak l0_0 x3_1).length c422_0, .int .i64 x6_3] (h := ?_); (with_reducible refine (caret_Set.calls kj22 _ _ (Qak l0_0 x3_1) x6_3 t427 t428 t429 t430 _ ?side1 ?side2 A28.out).mono ?_); (case side1 => exact cb HR422_0 HB); (case side2 => exact HC422_0.out); rintro e w31 ⟨rfl,hb⟩; refine ⟨_,rfl, ?_⟩; replace HO_5:=rb HO_5 hb; replace BK419:=bl BK419 hb; replace HB:=bs HB hb; clear hb) | ((with_reducible refine Qae (N:=7) rfl ?_); refine bx 7 #[.int .i64 0, .int .i64 0, .int .i64 0] 43 (h := ?_); intro gb431 hg w32 hbox hb; have BK431:=Aside0.mk (hbox); have GW431:=bz HB hg; have GE431:=bz HB hg; have NB419_431:=bn BK419 hg; have NB431_419:=bm BK419 hg; replace HO_5:=Aside0.mk (Kd.R_below (Kd.R_elderB (rk HO_5) gb431 (Nat.le_of_eq hg.symm)) hb); replace BK419:=bl BK419 hb; replace HB:=bs HB hb; clear hb hbox hg; have hnb33:=NB431_419.out; have hnc33:=NB419_431.out; obtain ⟨_,_,_,_,_,_⟩:=kc3 BK431) | ((with_reducible refine Qab (f:=33) rfl ?_); refine gl (some 55) Tryd.func33 #[.int .i64 t430] (h := ?_); (with_reducible refine (w11_num.calls t430 t432 _ A29.out).mono ?_); rintro e w' ⟨rfl,⟨nd,rfl⟩⟩; refine ⟨_,rfl, ?_⟩))
         go_loopg [9] kj22 (fun kq v9 w' => ∃ (x9_5 : Int),v9 = .int .i64 x9_5 ∧ Aside0 (w11_CaretDeletes.l2 kq x3_1 (Qak l0_0 x3_1) t424 x6_3 x9_5 l0_0 l0_1 l0_2 l0_3 t427 t428 t429 = some r) ∧ Aside0 (kq ≤ kj22) ∧ Aside0 (Kd.R Qaq 43 w' w.heap.size (fun k_ => k_ ≠ gb431) v425 t424) ∧ Aside0 (w'.heap[gb419]? = some (.cells #[(.slice (some ad422) l0_0.length c0_0),(.slice A0_1 l0_1.length c0_1),(.slice A0_2 l0_2.length c0_2),(.slice A0_3 l0_3.length c0_3)] 27 (0,0))) ∧ Aside0 (w'.heap[gb431]? = some (.cells #[.int .i64 t427, .int .i64 t428, .int .i64 t429] 43 (0,0))) ∧ Aside0 (Below w.heap.size w w'))
         case atStart => exact ⟨(0),rf,H',⟨Nat.le_refl _⟩,⟨by (with_reducible repeat (first | apply Kd.R_alloc | apply Kd.R_drewN | apply Kd.R_drew)); exact Kd.R_mono (Kd.R_far (p:=⟨gb431,2,none⟩) (Kd.R_far (p:=⟨gb431,1,none⟩) (Kd.R_far (p:=⟨gb431,0,none⟩) (Kd.R_mono HO_5.out (fun k_ hk => (⟨hk,hk.2⟩ : _ ∧ k_ ≠ gb431))) (fun _ hk => hk.2) (.int .i64 t427)) (fun _ hk => hk.2) (.int .i64 t428)) (fun _ hk => hk.2) (.int .i64 t429)) (fun _ hk => hk.1.2)⟩,⟨kk BK419⟩,⟨bp (bp (bp (kk BK431) 0) 1) 2⟩,⟨bw HB⟩⟩
         case round =>
          clear H'
          try clear c27; try clear c30b0; try clear c30b1
          obtain ⟨x9_5,rfl,HA,HK5,HO_5,BK419,BK431,HB⟩:=hrel
          cases gk with
          | zero => exact absurd HA.out (by simp [w11_CaretDeletes.l2])
          | succ k5 =>
           have H:=HA.out
           clear HA
           simp only [w11_CaretDeletes.l2] at H
           have HC35:=Aside0.mk H
           clear H
           go_upto_region 16 with (fail)
           go_cut [64] (fun v64 wc => ∃ (kq : Nat) (x64_34 : Bool),v64 = .bool x64_34 ∧ Aside0 (w11_CaretDeletes.j5 kq x3_1 (Qak l0_0 x3_1) t424 x6_3 x9_5 x64_34 l0_0 l0_1 l0_2 l0_3 t427 t428 t429 = some r) ∧ Aside0 (kq ≤ k5) ∧ Aside0 (Kd.R Qaq 43 wc w.heap.size (fun k_ => k_ ≠ gb431) v425 t424) ∧ Aside0 (wc.heap[gb419]? = some (.cells #[(.slice (some ad422) l0_0.length c0_0),(.slice A0_1 l0_1.length c0_1),(.slice A0_2 l0_2.length c0_2),(.slice A0_3 l0_3.length c0_3)] 27 (0,0))) ∧ Aside0 (wc.heap[gb431]? = some (.cells #[.int .i64 t427, .int .i64 t428, .int .i64 t429] 43 (0,0))) ∧ Aside0 (Below w.heap.size w wc))
           case first =>
            have H:=HC35.out
            clear HC35
            by_cases c36 : x9_5 < (t424.length : Int)
            ·rw [if_pos c36] at H
             have c36b0:=decide_eq_true c36
             clear c36
             (first | rw [c36b0] | (simp only [Qaw,Qay]; rw [c36b0]) | skip)
             have H':=Aside0.mk H
             clear H
             obtain ⟨Ao37,co37,eo37⟩:=Kd.R_slice HO_5.out
             subst eo37
             go_wp2
             go_meet
             case rel => exact ⟨_,(decide (x9_5 < 16)),rf,H',⟨by have:=HK1.out; have:=HJ9.out; have:=HK3.out; have:=HJ22.out; have:=HK5.out; first | omega | exact Nat.le_refl _⟩,⟨rk HO_5⟩,⟨kk BK419⟩,⟨kk BK431⟩,⟨bw HB⟩⟩
            rw [if_neg c36] at H
            have c36b0:=decide_eq_false c36
            clear c36
            (first | rw [c36b0] | (simp only [Qaw,Qay]; rw [c36b0]) | skip)
            have H':=Aside0.mk H
            clear H
            obtain ⟨Ao38,co38,eo38⟩:=Kd.R_slice HO_5.out
            subst eo38
            go_wp2
            go_meet
            case rel => exact ⟨_,(false),rf,H',⟨by have:=HK1.out; have:=HJ9.out; have:=HK3.out; have:=HJ22.out; have:=HK5.out; first | omega | exact Nat.le_refl _⟩,⟨rk HO_5⟩,⟨kk BK419⟩,⟨kk BK431⟩,⟨bw HB⟩⟩
           case rest =>
            clear HC35
            obtain ⟨kq,x64_34,rfl,HA,HJ34,HO_5,BK419,BK431,HB⟩:=hcut
            cases kq with
            | zero => exact absurd HA.out (by simp [w11_CaretDeletes.j5])
            | succ kj34 =>
             have H:=HA.out
             clear HA
             simp only [w11_CaretDeletes.j5] at H
             by_cases c39 : x64_34 = true; rotate_left
             ·replace c39:=Bool.eq_false_iff.mpr c39
              subst c39
              rw [if_neg nft] at H
              have H':=Aside0.mk H
              clear H
              go_wp2
              go_roundg kj34
              case measure => have:=HK1.out; have:=HJ9.out; have:=HK3.out; have:=HJ22.out; have:=HK5.out; have:=HJ34.out; omega
              case rel => exact ⟨(wrap64 (x6_3 + 1)),rf,H',⟨by have:=HK1.out; have:=HJ9.out; have:=HK3.out; have:=HJ22.out; have:=HK5.out; have:=HJ34.out; omega⟩,⟨by (with_reducible repeat (first | apply Kd.R_alloc | apply Kd.R_drewN | apply Kd.R_drew)); exact Kd.R_mono HO_5.out (fun _ hk => trivial)⟩,⟨kk BK419⟩,⟨bw HB⟩⟩
             subst c39
             rw [if_pos rfl] at H
             obtain ⟨⟨t433,t434,t435,t436,t437,t438,t439,t440,t443,t444,t445,t446⟩,A40,H⟩:=bE H
             try dsimp only at H
             by_cases c41 : t446 = 0; rotate_left
             ·rw [if_neg c41] at H
              obtain ⟨c41b0,c41b1⟩:=bF c41
              have H':=Aside0.mk H
              clear H
              go_wp2_with (first | ((with_reducible refine Qab (f:=34) rfl ?_); refine gl (some 73) Tryd.func34 #[.slice A422_0 (Qak l0_0 x3_1).length c422_0, .int .i64 (wrap64 (1 + (Int.tmod x9_5 3))), .int .i64 x9_5, .int .i64 1, .string (⟨#[]⟩ : ByteArray)] (h := ?_); (with_reducible refine (r4_Replace.calls kj34 _ _ (Qak l0_0 x3_1) (wrap64 (1 + (Int.tmod x9_5 3))) x9_5 1 (⟨#[]⟩ : ByteArray) t433 t434 t435 t436 t437 t438 t439 t440 t443 t444 t445 t446 _ ?side1 ?side2 ?side3 A40.out).mono ?_); (case side1 => exact cb HR422_0 HB); (case side2 => exact HC422_0.out); (case side3 => exact (hT.below (bw HB))); rintro e w60 ⟨v441,rfl,ho0,hb⟩; refine ⟨_,rfl, ?_⟩; have HO442:=Aside0.mk (Kd.R_lower (Kd.R_newB (Kd.R_new' ho0 (Kd.R_lt (rk HO_5))) (kk BK431)) (Qai (bw HB))); replace HO_5:=Aside0.mk (Kd.R_elder' (rk HO_5) (Kd.R_base ho0) hb); replace BK419:=bl BK419 hb; replace BK431:=bl BK431 hb; replace HB:=bs HB hb; clear hb; clear ho0) | ((with_reducible refine Qae (N:=10) rfl ?_); refine bx 10 #[.int .i64 0, .int .i64 0, .int .i64 0, .int .i64 0, .int .i64 0, .int .i64 0, .string (⟨#[]⟩ : ByteArray), .slice none 0 0, .int .i64 0, .int .i64 0, .int .i64 0] 55 (h := ?_); intro gb447 hg w61 hbox hb; have BK447:=Aside0.mk (hbox); have GW447:=bz HB hg; have GE447:=bz HB hg; have NB419_447:=bn BK419 hg; have NB447_419:=bm BK419 hg; have NB431_447:=bn BK431 hg; have NB447_431:=bm BK431 hg; replace HO_5:=rb HO_5 hb; replace HO442:=rb HO442 hb; replace BK419:=bl BK419 hb; replace BK431:=bl BK431 hb; replace HB:=bs HB hb; clear hb hbox hg; have hnb62:=NB447_419.out; have hnc62:=NB419_447.out; have hnb63:=NB447_431.out; have hnc63:=NB431_447.out; obtain ⟨_,_,_,_,_,_,_,_,_,_,_,_,_,_,_,_,_,_,_,_,_,_⟩:=kc11 BK447; obtain ⟨Ao65,co65,eo65⟩:=Kd.R_slice HO442.out; subst eo65))
              go_roundg kj34
              case measure => have:=HK1.out; have:=HJ9.out; have:=HK3.out; have:=HJ22.out; have:=HK5.out; have:=HJ34.out; omega
              case rel => exact ⟨(wrap64 (x9_5 + 1)),rf,H',⟨by have:=HK1.out; have:=HJ9.out; have:=HK3.out; have:=HJ22.out; have:=HK5.out; have:=HJ34.out; omega⟩,⟨by (with_reducible repeat (first | apply Kd.R_alloc | apply Kd.R_drewN | apply Kd.R_drew)); exact Kd.R_mono (rf11 (Kd.R_types HO_5.out BK447.out (by decide))) (fun _ hk => hk.1.1)⟩,⟨kk BK419⟩,⟨kk BK431⟩,⟨bw HB⟩⟩
             rw [if_pos c41] at H
             obtain ⟨c41b0,c41b1⟩:=bT c41
             clear c41
             obtain ⟨t448,A42,H⟩:=bE H
             obtain ⟨⟨t451,t452⟩,A43,H⟩:=bE H
             try dsimp only at H
             have HC44:=Aside0.mk H
             clear H
             try go_wp2_with (first | ((with_reducible refine Qab (f:=34) rfl ?_); refine gl (some 73) Tryd.func34 #[.slice A422_0 (Qak l0_0 x3_1).length c422_0, .int .i64 (wrap64 (1 + (Int.tmod x9_5 3))), .int .i64 x9_5, .int .i64 1, .string (⟨#[]⟩ : ByteArray)] (h := ?_); (with_reducible refine (r4_Replace.calls kj34 _ _ (Qak l0_0 x3_1) (wrap64 (1 + (Int.tmod x9_5 3))) x9_5 1 (⟨#[]⟩ : ByteArray) t433 t434 t435 t436 t437 t438 t439 t440 t443 t444 t445 t446 _ ?side1 ?side2 ?side3 A40.out).mono ?_); (case side1 => exact cb HR422_0 HB); (case side2 => exact HC422_0.out); (case side3 => exact (hT.below (bw HB))); rintro e w45 ⟨v441,rfl,ho0,hb⟩; refine ⟨_,rfl, ?_⟩; have HO442:=Aside0.mk (Kd.R_lower (Kd.R_newB (Kd.R_new' ho0 (Kd.R_lt (rk HO_5))) (kk BK431)) (Qai (bw HB))); replace HO_5:=Aside0.mk (Kd.R_elder' (rk HO_5) (Kd.R_base ho0) hb); replace BK419:=bl BK419 hb; replace BK431:=bl BK431 hb; replace HB:=bs HB hb; clear hb; clear ho0) | ((with_reducible refine Qae (N:=10) rfl ?_); refine bx 10 #[.int .i64 0, .int .i64 0, .int .i64 0, .int .i64 0, .int .i64 0, .int .i64 0, .string (⟨#[]⟩ : ByteArray), .slice none 0 0, .int .i64 0, .int .i64 0, .int .i64 0] 55 (h := ?_); intro gb447 hg w46 hbox hb; have BK447:=Aside0.mk (hbox); have GW447:=bz HB hg; have GE447:=bz HB hg; have NB419_447:=bn BK419 hg; have NB447_419:=bm BK419 hg; have NB431_447:=bn BK431 hg; have NB447_431:=bm BK431 hg; replace HO_5:=rb HO_5 hb; replace HO442:=rb HO442 hb; replace BK419:=bl BK419 hb; replace BK431:=bl BK431 hb; replace HB:=bs HB hb; clear hb hbox hg; have hnb47:=NB447_419.out; have hnc47:=NB419_447.out; have hnb48:=NB447_431.out; have hnc48:=NB431_447.out; obtain ⟨_,_,_,_,_,_,_,_,_,_,_,_,_,_,_,_,_,_,_,_,_,_⟩:=kc11 BK447; obtain ⟨Ao50,co50,eo50⟩:=Kd.R_slice HO442.out; subst eo50))
             generalize hgz : (((((((((((w46.setCell ⟨gb447,0,none⟩ (.int .i64 t433)).setCell ⟨gb447,1,none⟩ (.int .i64 t434)).setCell ⟨gb447,2,none⟩ (.int .i64 t435)).setCell ⟨gb447,3,none⟩ (.int .i64 t436)).setCell ⟨gb447,4,none⟩ (.int .i64 t437)).setCell ⟨gb447,5,none⟩ (.int .i64 t438)).setCell ⟨gb447,6,none⟩ (.string t439)).setCell ⟨gb447,7,none⟩ (.slice Ao50 t440.length co50)).setCell ⟨gb447,8,none⟩ (.int .i64 t443)).setCell ⟨gb447,9,none⟩ (.int .i64 t444)).setCell ⟨gb447,10,none⟩ (.int .i64 t445)) = w51
             have n0_ : Aside0 (Kd.R Qaq 43 w51 w.heap.size (fun k_ => some k_ ≠ (.slice Ao50 t440.length co50 : Value).ownBlock ∧ k_ ≠ gb431) v425 t424):=by rw [← hgz]; exact ⟨by (with_reducible repeat (first | apply Kd.R_alloc | apply Kd.R_drewN | apply Kd.R_drew)); exact Kd.R_mono (rf11 (Kd.R_types HO_5.out BK447.out (by decide))) (fun _ hk => ⟨hk.1.2,hk.1.1⟩)⟩
             have n1_ : Aside0 (Kd.R Qaq 43 w51 w.heap.size (fun k_ => some k_ ≠ (v425 : Value).ownBlock ∧ k_ ≠ gb431) (.slice Ao50 t440.length co50) t440):=by rw [← hgz]; exact ⟨by (with_reducible repeat (first | apply Kd.R_alloc | apply Kd.R_drewN | apply Kd.R_drew)); exact Kd.R_mono (rf11 (Kd.R_types HO442.out BK447.out (by decide))) (fun _ hk => ⟨hk.1.1.2,hk.1.2⟩)⟩
             have n2_ : Aside0 (w51.heap[gb419]? = some (.cells #[.slice (some ad422) l0_0.length c0_0, .slice A0_1 l0_1.length c0_1, .slice A0_2 l0_2.length c0_2, .slice A0_3 l0_3.length c0_3] 27 (0,0))):=by rw [← hgz]; exact ⟨kk BK419⟩
             have n3_ : Aside0 (w51.heap[gb431]? = some (.cells #[.int .i64 t427, .int .i64 t428, .int .i64 t429] 43 (0,0))):=by rw [← hgz]; exact ⟨kk BK431⟩
             have n4_ : Aside0 (w51.heap[gb447]? = some (.cells #[.int .i64 t433, .int .i64 t434, .int .i64 t435, .int .i64 t436, .int .i64 t437, .int .i64 t438, .string t439, .slice Ao50 t440.length co50, .int .i64 t443, .int .i64 t444, .int .i64 t445] 55 (0,0))):=by rw [← hgz]; exact ⟨bp11 (kk BK447)⟩
             have n5_ : Aside0 (Below w.heap.size w w51):=by rw [← hgz]; exact ⟨bw HB⟩
             (try clear HO_5)
             (try clear HO442)
             (try clear BK419)
             (try clear BK431)
             (try clear BK447)
             (try clear HB)
             clear hgz
             have HO_5:=n0_
             have HO442:=n1_
             have BK419:=n2_
             have BK431:=n3_
             have BK447:=n4_
             have HB:=n5_
             clear n0_ n1_ n2_ n3_ n4_ n5_
             have n0_:=Aside0.mk (Kd.R_drew HO_5.out)
             have n1_:=Aside0.mk (Kd.R_drew HO442.out)
             have n2_:=Aside0.mk (Qan BK419.out)
             have n3_:=Aside0.mk (Qan BK431.out)
             have n4_:=Aside0.mk (Qan BK447.out)
             have n5_:=Aside0.mk (Qaf HB.out)
             clear HO_5
             clear HO442
             clear BK419
             clear BK431
             clear BK447
             clear HB
             have HO_5:=n0_
             have HO442:=n1_
             have BK419:=n2_
             have BK431:=n3_
             have BK447:=n4_
             have HB:=n5_
             clear n0_ n1_ n2_ n3_ n4_ n5_
             refine stP (fun w' => B11 w' gb447 (.int .i64 t433) (.int .i64 t434) (.int .i64 t435) (.int .i64 t436) (.int .i64 t437) (.int .i64 t438) (.string t439) (.slice Ao50 t440.length co50) (.int .i64 t443) (.int .i64 t444) (.int .i64 t445) (E3 w' gb431 (.int .i64 t427) (.int .i64 t428) (.int .i64 t429))) 10 (b11 BK447 (e3 BK431)) (h:=fun hHeld => ?_); refine Qas w11_CaretDeletes.tab20 w11_CaretDeletes.bits20 (fun HT_ HW_ => ?_)
             generalize w51.drew = w52 at HO_5 HO442 BK419 BK431 BK447 HB hHeld ⊢
             refine pu HT_ 0 79 1 (h := ?_)
             refine tk HT_ HW_ hHeld 1 80 3 (h := ?_)
             refine tk HT_ HW_ hHeld 3 82 11 (h := ?_)
             refine on HT_ 2 (some 81) 15 (h:=fun K hK => ?_)
             refine gS Tryd.func36 #[.slice A422_0 (Qak l0_0 x3_1).length c422_0, .agg #[.int .i64 t433, .int .i64 t434, .int .i64 t435, .int .i64 t436, .int .i64 t437, .int .i64 t438, .string t439, .slice Ao50 t440.length co50, .int .i64 t443, .int .i64 t444, .int .i64 t445]] (h := ?_)
             with_reducible refine (r4_Behind.calls kj34 _ _ (Qak l0_0 x3_1) t433 t434 t435 t436 t437 t438 t439 _ _ t440 t443 t444 t445 t448 _ ?side1 ?side2 ?side3 ?side4 A42.out).mono ?_
             (case side1 => exact cb HR422_0 HB)
             (case side2 => exact HC422_0.out)
             (case side3 => exact cr HO442)
             (case side4 => exact (Kd.R_reads' HO442.out).2.1)
             rintro e w53 ⟨v449,rfl,ho0,hb⟩
             refine ⟨_,rfl, ?_⟩
             have n0_:=rb HO_5 hb
             have n1_:=rb HO442 hb
             have n2_:=Aside0.mk (Kd.S_lower (Kd.S_newB (Kd.S_newB (Kd.S_new' (Kd.S_new' ho0 (Kd.R_lt (rk HO_5))) (Kd.R_lt (rk HO442))) (kk BK431)) (kk BK447)) (Qai (bw HB)))
             have n3_:=bl BK419 hb
             have n4_:=bl BK431 hb
             have n5_:=bl BK447 hb
             have n6_:=bs HB hb
             clear HO_5
             clear HO442
             clear BK419
             clear BK431
             clear BK447
             clear HB
             have HO_5:=n0_
             have HO442:=n1_
             have HO450:=n2_
             have BK419:=n3_
             have BK431:=n4_
             have BK447:=n5_
             have HB:=n6_
             clear n0_ n1_ n2_ n3_ n4_ n5_ n6_
             (try clear hb)
             (try clear hb2)
             (try clear hk)
             (try clear hi)
             (try clear ho0)
             obtain ⟨Ao54,co54,eo54⟩:=Kd.S_slice HO450.out
             (first | subst eo54 | (injection eo54 with f1_ f2_ f3_; have f4_:=f1_.symm; have f5_:=f3_.symm; clear f1_ f2_ f3_; subst f4_; subst f5_))
             refine hK.out _ _ (b11 BK447 (e3 BK431)) (fun hHeld => ?_)
             clear hK K
             refine nn 81 (h := ?_)
             refine on HT_ 4 (some 83) 31 (h:=fun K hK => ?_)
             refine gS Tryd.func35 #[.slice Ao54 t448.length co54, .agg #[.int .i64 t427, .int .i64 t428, .int .i64 t429]] (h := ?_)
             with_reducible refine (caret_Place.calls _ _ t448 t427 t428 t429 t451 t452 _ ?side1 ?side2 A43.out).mono ?_
             (case side1 => exact cs HO450)
             (case side2 => exact (Kd.S_reads' HO450.out).2.1)
             rintro e w55 ⟨rfl,hb⟩
             refine ⟨_,rfl, ?_⟩
             have n0_:=rb HO_5 hb
             have n1_:=rb HO442 hb
             have n2_:=sb HO450 hb
             have n3_:=bl BK419 hb
             have n4_:=bl BK431 hb
             have n5_:=bl BK447 hb
             have n6_:=bs HB hb
             clear HO_5
             clear HO442
             clear HO450
             clear BK419
             clear BK431
             clear BK447
             clear HB
             have HO_5:=n0_
             have HO442:=n1_
             have HO450:=n2_
             have BK419:=n3_
             have BK431:=n4_
             have BK447:=n5_
             have HB:=n6_
             clear n0_ n1_ n2_ n3_ n4_ n5_ n6_
             (try clear hb)
             (try clear hb2)
             (try clear hk)
             (try clear hi)
             refine hK.out _ _ (b11 BK447 (e3 BK431)) (fun hHeld => ?_)
             clear hK K
             refine nn 83 (h := ?_)
             refine pu HT_ 5 78 63 (h := ?_)
             refine pu HT_ 6 84 127 (h := ?_)
             refine pu HT_ 7 85 255 (h := ?_)
             refine pu HT_ 8 12 511 (h := ?_)
             refine pu HT_ 9 13 1023 (h := ?_)
             refine dn HT_ (h := ?_)
             go_upto_if 89 with (fail)
             go_cut [14] (fun v14 wc => ∃ (kq : Nat) (x14_43 : Int),v14 = .int .i64 x14_43 ∧ Aside0 (w11_CaretDeletes.j6 kq x3_1 (Qak l0_0 x3_1) t424 x6_3 x9_5 t451 t452 x14_43 l0_0 l0_1 l0_2 l0_3 t427 t428 t429 = some r) ∧ Aside0 (kq ≤ kj34) ∧ Aside0 (Kd.R Qaq 43 wc w.heap.size (fun k_ => some k_ ≠ ((.slice Ao50 t440.length co50) : Value).ownBlock ∧ k_ ≠ gb431) v425 t424) ∧ Aside0 (Kd.R Qaq 43 wc w.heap.size (fun k_ => some k_ ≠ (v425 : Value).ownBlock ∧ k_ ≠ gb431) (.slice Ao50 t440.length co50) t440) ∧ Aside0 (wc.heap[gb419]? = some (.cells #[(.slice (some ad422) l0_0.length c0_0),(.slice A0_1 l0_1.length c0_1),(.slice A0_2 l0_2.length c0_2),(.slice A0_3 l0_3.length c0_3)] 27 (0,0))) ∧ Aside0 (wc.heap[gb431]? = some (.cells #[.int .i64 t427, .int .i64 t428, .int .i64 t429] 43 (0,0))) ∧ Aside0 (wc.heap[gb447]? = some (.cells #[.int .i64 t433, .int .i64 t434, .int .i64 t435, .int .i64 t436, .int .i64 t437, .int .i64 t438, .string t439,(.slice Ao50 t440.length co50), .int .i64 t443, .int .i64 t444, .int .i64 t445] 55 (0,0))) ∧ Aside0 (Below w.heap.size w wc))
             case first =>
              have H:=HC44.out
              clear HC44
              by_cases c56 : x9_5 < x6_3
              ·rw [if_pos c56] at H
               have c56b0:=decide_eq_true c56
               clear c56
               (first | rw [c56b0] | (simp only [Qaw,Qay]; rw [c56b0]) | skip)
               have H':=Aside0.mk H
               clear H
               go_wp2
               go_meet
               case rel => exact ⟨_,(wrap64 (x6_3 - 1)),rf,H',⟨by have:=HK1.out; have:=HJ9.out; have:=HK3.out; have:=HJ22.out; have:=HK5.out; have:=HJ34.out; first | omega | exact Nat.le_refl _⟩,⟨rk HO_5⟩,⟨rk HO442⟩,⟨kk BK419⟩,⟨kk BK431⟩,⟨kk BK447⟩,⟨bw HB⟩⟩
              rw [if_neg c56] at H
              have c56b0:=decide_eq_false c56
              clear c56
              (first | rw [c56b0] | (simp only [Qaw,Qay]; rw [c56b0]) | skip)
              have H':=Aside0.mk H
              clear H
              go_wp2
              go_meet
              case rel => exact ⟨_,(x6_3),rf,H',⟨by have:=HK1.out; have:=HJ9.out; have:=HK3.out; have:=HJ22.out; have:=HK5.out; have:=HJ34.out; first | omega | exact Nat.le_refl _⟩,⟨rk HO_5⟩,⟨rk HO442⟩,⟨kk BK419⟩,⟨kk BK431⟩,⟨kk BK447⟩,⟨bw HB⟩⟩
             case rest =>
              clear HC44
              try clear c39; try clear c41b0; try clear c41b1
              obtain ⟨kq,x14_43,rfl,HA,HJ43,HO_5,HO_448007,BK419,BK431,BK447,HB⟩:=hcut
              cases kq with
              | zero => exact absurd HA.out (by simp [w11_CaretDeletes.j6])
              | succ kj43 =>
               have H:=HA.out
               clear HA
               simp only [w11_CaretDeletes.j6] at H
               obtain ⟨t453,A57,H⟩:=bE H
               by_cases c58 : t453 = 0; rotate_left
               ·rw [if_neg c58] at H
                obtain ⟨c58b0,c58b1⟩:=bF c58
                obtain rfl:=Option.some.inj H
                go_wp2_with (first | ((with_reducible refine Qab (f:=33) rfl ?_); refine gl (some 93) Tryd.func33 #[.int .i64 t452] (h := ?_); (with_reducible refine (w11_num.calls t452 t453 _ A57.out).mono ?_); rintro e w' ⟨rfl,⟨nd,rfl⟩⟩; refine ⟨_,rfl, ?_⟩))
                go_ret
                exact ⟨re,bw HB⟩
               rw [if_pos c58] at H
               obtain ⟨c58b0,c58b1⟩:=bT c58
               clear c58
               by_cases c59 : t451 = x14_43; rotate_left
               ·rw [if_neg c59] at H
                obtain ⟨c59b0,c59b1⟩:=bF c59
                obtain rfl:=Option.some.inj H
                go_wp2_with (first | ((with_reducible refine Qab (f:=33) rfl ?_); refine gl (some 93) Tryd.func33 #[.int .i64 t452] (h := ?_); (with_reducible refine (w11_num.calls t452 t453 _ A57.out).mono ?_); rintro e w' ⟨rfl,⟨nd,rfl⟩⟩; refine ⟨_,rfl, ?_⟩))
                go_ret
                exact ⟨re,bw HB⟩
               rw [if_pos c59] at H
               obtain ⟨c59b0,c59b1⟩:=bT c59
               clear c59
               have H':=Aside0.mk H
               clear H
               go_wp2_with (first | ((with_reducible refine Qab (f:=33) rfl ?_); refine gl (some 93) Tryd.func33 #[.int .i64 t452] (h := ?_); (with_reducible refine (w11_num.calls t452 t453 _ A57.out).mono ?_); rintro e w' ⟨rfl,⟨nd,rfl⟩⟩; refine ⟨_,rfl, ?_⟩))
               go_roundg kj43
               case measure => have:=HK1.out; have:=HJ9.out; have:=HK3.out; have:=HJ22.out; have:=HK5.out; have:=HJ34.out; have:=HJ43.out; omega
               case rel => exact ⟨(wrap64 (x9_5 + 1)),rf,H',⟨by have:=HK1.out; have:=HJ9.out; have:=HK3.out; have:=HJ22.out; have:=HK5.out; have:=HJ34.out; have:=HJ43.out; omega⟩,⟨by (with_reducible repeat (first | apply Kd.R_alloc | apply Kd.R_drewN | apply Kd.R_drew)); exact Kd.R_mono HO_5.out (fun _ hk => hk.2)⟩,⟨kk BK419⟩,⟨kk BK431⟩,⟨bw HB⟩⟩
end
section
theorem ref1_Rune_f (r : Int) : r1_Rune.f r = some (runeOk r):=by
 unfold r1_Rune.f runeOk
 by_cases h10 : r = 10
 ·simp [h10]
 ·have e10 : (r == 10) = false:=by simp [h10]
  rw [if_neg h10,e10,Bool.false_or]
  by_cases h1 : 32 ≤ r <;> by_cases h2 : r ≤ 1114111 <;> by_cases h3 : r = 127 <;> by_cases h4 : r = 65533 <;> by_cases h5 : r ≤ 55295 <;> by_cases h6 : 57344 ≤ r <;> (first | (exfalso; omega) | simp [h1,h2,h3,h4,h5,h6])
theorem decodeN_le (n b0 b1 b2 b3 : Nat) (h : 1 ≤ n) : (Lib.decodeN n b0 b1 b2 b3).2 ≤ n:=by
 unfold Lib.decodeN
 repeat' split
 all_goals (simp_all <;> omega)
theorem decode_le (s : ByteArray) (i : Nat) (h : i < s.size) : 1 ≤ (Utf8.decode s i).2 ∧ i + (Utf8.decode s i).2 ≤ s.size:=by
 refine ⟨Lib.decode_width_pos s i h, ?_⟩
 rw [Lib.decode_at]
 have:=decodeN_le (s.size - i) (s.get! i).toNat (s.get! (i + 1)).toNat (s.get! (i + 2)).toNat (s.get! (i + 3)).toNat (by omega)
 omega
theorem decFrom_more (s : ByteArray) : ∀ d pos f,s.size ≤ pos + d → d ≤ f → Qci s f pos = Qci s d pos
 | 0,pos,f,h,_ => by cases f <;> simp [Qci,Nat.not_lt.2 (show s.size ≤ pos by omega)]
 | d + 1,pos,0,h,hf => by omega
 | d + 1,pos,f + 1,h,hf => by
  unfold Qci
  by_cases hp : pos < s.size
  ·rw [if_pos hp,if_pos hp,decFrom_more s d _ f (by have:=(decode_le s pos hp).1; omega) (by omega)]
  ·rw [if_neg hp,if_neg hp]
theorem decFrom_step (s : ByteArray) (pos : Nat) (h : pos < s.size) : Qci s s.size pos = ((Utf8.decode s pos).1 : Int) :: Qci s s.size (pos + (Utf8.decode s pos).2):=by
 have hw:=decode_le s pos h
 rw [decFrom_more s (s.size - pos) pos s.size (by omega) (by omega),show s.size - pos = (s.size - pos - 1) + 1 by omega]
 conv => lhs; unfold Qci
 rw [if_pos h,← decFrom_more s (s.size - pos - 1) (pos + (Utf8.decode s pos).2) s.size (by omega) (by omega)]
theorem decFrom_end (s : ByteArray) (pos : Nat) (h : s.size ≤ pos) : Qci s s.size pos = []:=by
 rw [decFrom_more s 0 pos s.size (by omega) (by omega)]; rfl
theorem decFrom_len (s : ByteArray) : ∀ f pos,(Qci s f pos).length ≤ f
 | 0,_ => Nat.le_refl _
 | f + 1,pos => by
  unfold Qci
  split
  ·simp only [List.length_cons]; have:=decFrom_len s f (pos + (Utf8.decode s pos).2); omega
  ·simp
theorem decodeGo_at (s : ByteArray) (pos : Nat) (h : pos < s.size) : Lib.decodeGo (s.extract pos s.size) = Utf8.decode s pos:=by
 unfold Lib.decodeGo
 rw [if_neg (by rw [ByteArray.size_extract]; omega),Lib.tail_decode,Nat.add_zero]
def runesR (s : ByteArray) (acc : List Int) (pos : Nat) : List Int × Bool:=if (Qci s s.size pos).all runeOk = true then (acc ++ Qci s s.size pos,true) else ([],false)
theorem Runes_loop (s : ByteArray) (hs : s.size ≤ 35184372088000) : ∀ d pos (acc : List Int),s.size ≤ pos + d → pos ≤ s.size → acc.length ≤ pos → Ev (fun k => r1_Runes.l0 k s acc (pos : Int)) (runesR s acc pos)
 | 0,pos,acc,h,hp,_ => by
  unfold runesR
  rw [decFrom_end s pos (by omega),List.all_nil,if_pos rfl,List.append_nil]
  exact Ev.step (f:=fun _ => some (acc,true)) (fun k => by simp only [r1_Runes.l0]; rw [if_neg (by omega)]) (Ev.now _)
 | d + 1,pos,acc,h,hp,ha => by
  by_cases hlt : pos < s.size
  ·have hw:=decode_le s pos hlt
   have ih:=Runes_loop s hs d (pos + (Utf8.decode s pos).2) (acc ++ [((Utf8.decode s pos).1 : Int)]) (by omega) hw.2 (by simp; omega)
   have hf : utf8_DecodeRuneInString.f (s.extract (pos : Int).toNat s.size) = some (((Utf8.decode s pos).1 : Int),((Utf8.decode s pos).2 : Int)):=by
    unfold utf8_DecodeRuneInString.f
    rw [Int.toNat_natCast,decodeGo_at s pos hlt]
   unfold runesR at ih ⊢
   rw [decFrom_step s pos hlt,List.all_cons]
   cases hr : runeOk ((Utf8.decode s pos).1 : Int)
   ·simp only [Bool.false_and,Bool.false_eq_true,if_false]
    refine Ev.step (f:=fun _ => some ([],false)) (fun k => ?_) (Ev.now _)
    simp only [r1_Runes.l0]
    rw [if_pos (by omega),if_pos (by omega),if_pos (by omega),hf,Option.bind_some,ref1_Rune_f,Option.bind_some,hr]
    rfl
   ·simp only [Bool.true_and]
    rw [List.append_assoc,List.singleton_append] at ih
    refine Ev.step (fun k => ?_) ih
    simp only [r1_Runes.l0]
    rw [if_pos (by omega),if_pos (by omega),if_pos (by omega),hf,Option.bind_some,ref1_Rune_f,Option.bind_some,hr,if_pos rfl,if_pos (by omega),Qaj (by omega) (by omega)]
    simp only [Int.natCast_add]
  ·have hpe : pos = s.size:=by omega
   unfold runesR
   rw [decFrom_end s pos (by omega),List.all_nil,if_pos rfl,List.append_nil]
   exact Ev.step (f:=fun _ => some (acc,true)) (fun k => by simp only [r1_Runes.l0]; rw [if_neg (by omega)]) (Ev.now _)
theorem Runes_ev (s : ByteArray) (hs : s.size ≤ 35184372088000) : Ev (fun k => r1_Runes.f k s) (if textOk s = true then (runesOf s,true) else ([],false)) :=
 Runes_loop s hs s.size 0 [] (by omega) (Nat.zero_le _) (Nat.le_refl _)
theorem Qct (e : SElem) : r4_Begin.f e.f0 e.f1 e.f2 = some (Qam e):=rfl
theorem ref0_Between_f (a b c : Int) : r0_Between.f a b c = some (decide (b ≤ a) && decide (a ≤ c)):=by
 unfold r0_Between.f
 by_cases h : b ≤ a <;> simp [h]
theorem ref4_name_f (a b : Int) : r4_name.f a b = some (nameOk a b):=by
 unfold r4_name.f nameOk
 rw [ref0_Between_f,ref0_Between_f]
 simp only [Option.bind_some]
 cases decide (1 ≤ a) <;> cases decide (a ≤ 8) <;> simp
theorem ref0_Num_f (a b : Int) : r0_Num.f a b = some (decide (0 ≤ a) && decide (a ≤ b)):=by
 unfold r0_Num.f
 by_cases h : 0 ≤ a <;> simp [h]
theorem ref4_Elem_f (e : SElem) : r4_Elem.f e.f0 e.f1 e.f2 = some (Qcl e):=by
 unfold r4_Elem.f Qcl
 rw [Qct,ref4_name_f,ref0_Num_f]
 simp only [Option.bind_some]
 have : decide (e.f2 ≤ 11) = decide (e.f2 < 12):=decide_eq_decide.2 (by omega)
 rw [this]
 cases Qam e <;> cases nameOk e.f0 e.f1 <;> simp
theorem ref4_Less_f (a b : SElem) : r4_Less.f a.f0 a.f1 a.f2 b.f0 b.f1 b.f2 = some (elLess a b):=by
 unfold r4_Less.f elLess
 by_cases h0 : a.f0 = b.f0
 ·by_cases h1 : a.f1 = b.f1
  ·simp [h0,h1]
  ·have : ¬ b.f0 < b.f0:=by omega
   simp [h0,h1]
 ·simp [h0]
theorem ref4_own_f (o : SOp) (e : SElem) : r4_own.f o.f0 o.f1 o.f2 o.f3.f0 o.f3.f1 o.f3.f2 o.f4 o.f5 o.f6 o.f7 o.f8 e.f0 e.f1 e.f2 = some (ownEl o e):=by
 unfold r4_own.f ownEl
 by_cases h : e.f0 = o.f0 <;> simp [h]
def Sm2 (o : SOp) : Prop:=o.f4.size ≤ 35184372088000 ∧ o.f5.length ≤ 1000000000000000
theorem ref4_Op_l0 (o : SOp) (h : Sm2 o) : ∀ d i,i + d = o.f5.length →
  Ev (fun k => r4_Op.l0 k (i : Int) o.f0 o.f1 o.f2 o.f3.f0 o.f3.f1 o.f3.f2 o.f4 o.f5 o.f6 o.f7 o.f8) (Qbr o (if i = 0 then none else some (Qaa o.f5 ((i : Int) - 1))) (o.f5.drop i))
 | 0,i,hi => by
  rw [List.drop_eq_nil_of_le (by omega)]
  exact Ev.step (f:=fun _ => some true) (fun k => by simp only [r4_Op.l0]; rw [if_neg (by omega)]) (Ev.now _)
 | d + 1,i,hi => by
  have hlt : i < o.f5.length:=by omega
  have ih:=ref4_Op_l0 o h d (i + 1) (by omega)
  have hw : wrap64 ((i : Int) + 1) = ((i + 1 : Nat) : Int):=Qdh hlt (by have:=h.2; omega)
  have hw1 : wrap64 ((i : Int) - 1) = (i : Int) - 1:=Qaj (by omega) (by have:=h.2; omega)
  have hd : o.f5.drop i = Qaa o.f5 (i : Int) :: o.f5.drop (i + 1):=by rw [Qat _ _ hlt]; exact List.drop_eq_getElem_cons hlt
  rw [hd]
  generalize hx : Qaa o.f5 (i : Int) = x at ih ⊢
  have hp1 : Qaa o.f5 (((i + 1 : Nat) : Int) - 1) = x:=by rw [show (((i + 1 : Nat) : Int) - 1) = (i : Int) by omega]; exact hx
  rw [if_neg (show ¬ i + 1 = 0 by omega),hp1] at ih
  have unf : ∀ k,r4_Op.l0 (k + 1) (i : Int) o.f0 o.f1 o.f2 o.f3.f0 o.f3.f1 o.f3.f2 o.f4 o.f5 o.f6 o.f7 o.f8 =
    (if Qam x = true then some false else if Qcl x = true then (if ownEl o x = true then some false else if (i : Int) > 0 then
     (if elLess (Qaa o.f5 ((i : Int) - 1)) x = true then r4_Op.l0 k ((i + 1 : Nat) : Int) o.f0 o.f1 o.f2 o.f3.f0 o.f3.f1 o.f3.f2 o.f4 o.f5 o.f6 o.f7 o.f8 else some false)
     else r4_Op.l0 k ((i + 1 : Nat) : Int) o.f0 o.f1 o.f2 o.f3.f0 o.f3.f1 o.f3.f2 o.f4 o.f5 o.f6 o.f7 o.f8) else some false):=by
   intro k
   simp only [r4_Op.l0]
   rw [if_pos (by omega),if_pos (by omega),hx,Qct,ref4_Elem_f,ref4_own_f,hw,hw1]
   simp only [Option.bind_some]
   by_cases hi0 : (i : Int) > 0
   ·simp only [if_pos hi0]
    rw [if_pos (show (0 : Int) ≤ (i : Int) - 1 by omega),if_pos (show (i : Int) - 1 < (o.f5.length : Int) by omega),ref4_Less_f]
    rfl
   ·simp only [if_neg hi0]
  unfold Qbr
  have no : ∀ c : Bool,c = false → (∀ k,r4_Op.l0 (k + 1) (i : Int) o.f0 o.f1 o.f2 o.f3.f0 o.f3.f1 o.f3.f2 o.f4 o.f5 o.f6 o.f7 o.f8 = some false) → Ev (fun k => r4_Op.l0 k (i : Int) o.f0 o.f1 o.f2 o.f3.f0 o.f3.f1 o.f3.f2 o.f4 o.f5 o.f6 o.f7 o.f8) c:=by
   intro c hc hk; subst hc; exact Ev.step (f:=fun _ => some false) hk (Ev.now _)
  cases hb : Qam x
  ·cases he : Qcl x
   ·exact no _ (by simp) (fun k => by rw [unf,hb,he]; simp)
   ·cases ho : ownEl o x
    ·by_cases hi0 : i = 0
     ·subst hi0
      simp only [if_true,Bool.not_false,Bool.true_and]
      exact Ev.step (fun k => by rw [unf,hb,he,ho]; simp) ih
     ·simp only [if_neg hi0]
      cases hl : elLess (Qaa o.f5 ((i : Int) - 1)) x
      ·exact no _ (by simp [hl]) (fun k => by rw [unf,hb,he,ho,hl]; simp; omega)
      ·simp only [Bool.not_false,Bool.true_and]
       exact Ev.step (fun k => by rw [unf,hb,he,ho,hl]; simp) ih
    ·exact no _ (by simp) (fun k => by rw [unf,hb,he,ho]; simp)
  ·exact no _ (by simp) (fun k => by rw [unf,hb]; simp)
theorem Op_l0_start (o : SOp) (h : Sm2 o) : Ev (fun k => r4_Op.l0 k 0 o.f0 o.f1 o.f2 o.f3.f0 o.f3.f1 o.f3.f2 o.f4 o.f5 o.f6 o.f7 o.f8) (Qbr o none o.f5):=by
 have:=ref4_Op_l0 o h o.f5.length 0 (Nat.zero_add _)
 simpa using this
theorem Op_j1 (o : SOp) (h : Sm2 o) (b : Bool) : Ev (fun k => r4_Op.j1 k b o.f0 o.f1 o.f2 o.f3.f0 o.f3.f1 o.f3.f2 o.f4 o.f5 o.f6 o.f7 o.f8) (!b && Qbr o none o.f5):=by
 cases b
 ·simp only [Bool.not_false,Bool.true_and]
  exact Ev.step (fun k => by simp only [r4_Op.j1]; rw [if_neg (by decide)]) (Op_l0_start o h)
 ·simp only [Bool.not_true,Bool.false_and]
  exact Ev.step (f:=fun _ => some false) (fun k => by simp only [r4_Op.j1]; rw [if_pos True.intro]) (Ev.now _)
def restOk (o : SOp) : Bool:=textOk o.f4 && (decide (Qal o ≤ 12) && (Qcl o.f3 && (!(decide (Qal o = 0) && !Qam o.f3) && (!ownEl o o.f3 && Qbr o none o.f5))))
theorem Op_j0 (o : SOp) (h : Sm2 o) (b : Bool) : Ev (fun k => r4_Op.j0 k b o.f0 o.f1 o.f2 o.f3.f0 o.f3.f1 o.f3.f2 o.f4 o.f5 o.f6 o.f7 o.f8) (!b && restOk o):=by
 cases b
 ·simp only [Bool.not_false,Bool.true_and]
  have hR:=Runes_ev o.f4 h.1
  unfold restOk
  obtain ⟨F,hF⟩ : ∃ F : Nat → List Int × Bool → Option Bool,F = (fun k bt => (if bt.2 = true then (if (bt.1.length : Int) > 12 then (r4_Op.j1 k true o.f0 o.f1 o.f2 o.f3.f0 o.f3.f1 o.f3.f2 o.f4 o.f5 o.f6 o.f7 o.f8) else ((r4_Elem.f o.f3.f0 o.f3.f1 o.f3.f2).bind fun t176 => (if t176 = true then (if (bt.1.length : Int) = 0 then ((r4_Begin.f o.f3.f0 o.f3.f1 o.f3.f2).bind fun t177 => (if t177 = true then ((r4_own.f o.f0 o.f1 o.f2 o.f3.f0 o.f3.f1 o.f3.f2 o.f4 o.f5 o.f6 o.f7 o.f8 o.f3.f0 o.f3.f1 o.f3.f2).bind fun t178 => (r4_Op.j1 k t178 o.f0 o.f1 o.f2 o.f3.f0 o.f3.f1 o.f3.f2 o.f4 o.f5 o.f6 o.f7 o.f8)) else (r4_Op.j1 k true o.f0 o.f1 o.f2 o.f3.f0 o.f3.f1 o.f3.f2 o.f4 o.f5 o.f6 o.f7 o.f8))) else ((r4_own.f o.f0 o.f1 o.f2 o.f3.f0 o.f3.f1 o.f3.f2 o.f4 o.f5 o.f6 o.f7 o.f8 o.f3.f0 o.f3.f1 o.f3.f2).bind fun t179 => (r4_Op.j1 k t179 o.f0 o.f1 o.f2 o.f3.f0 o.f3.f1 o.f3.f2 o.f4 o.f5 o.f6 o.f7 o.f8))) else (r4_Op.j1 k true o.f0 o.f1 o.f2 o.f3.f0 o.f3.f1 o.f3.f2 o.f4 o.f5 o.f6 o.f7 o.f8)))) else (r4_Op.j1 k true o.f0 o.f1 o.f2 o.f3.f0 o.f3.f1 o.f3.f2 o.f4 o.f5 o.f6 o.f7 o.f8))):=⟨_,rfl⟩
  refine Ev.step (f:=fun k => (r1_Runes.f k o.f4).bind (F k)) (fun k => ?_) (Ev.bind hR ?_)
  ·simp only [r4_Op.j0]; rw [if_neg (by decide),hF]
  ·rw [hF]
   have hn : ∀ x : Bool,Ev (fun k => r4_Op.j1 k true o.f0 o.f1 o.f2 o.f3.f0 o.f3.f1 o.f3.f2 o.f4 o.f5 o.f6 o.f7 o.f8) (x && false):=fun x => by rw [Bool.and_false]; exact Op_j1 o h true
   simp only [ref4_Elem_f,ref4_own_f,Qct,Option.bind_some]
   cases ht : textOk o.f4
   ·simp only [Bool.false_eq_true,if_false,Bool.false_and]
    exact Op_j1 o h true
   ·simp only [if_true,Bool.true_and]
    have hl : (runesOf o.f4).length = Qal o:=rfl
    rw [hl]
    by_cases h12 : Qal o ≤ 12
    ·have e12 : decide (Qal o ≤ 12) = true:=decide_eq_true h12
     rw [e12,Bool.true_and]
     have n12 : ¬ ((Qal o : Int) > 12):=by omega
     simp only [if_neg n12]
     cases he : Qcl o.f3
     ·simp only [Bool.false_eq_true,if_false,Bool.false_and]
      exact Op_j1 o h true
     ·simp only [if_true,Bool.true_and]
      by_cases h0 : Qal o = 0
      ·have h0i : (Qal o : Int) = 0:=by omega
       simp only [if_pos h0i,h0,decide_true,Bool.true_and,Bool.not_not]
       cases hb : Qam o.f3
       ·simp only [Bool.false_eq_true,if_false,Bool.false_and]
        exact Op_j1 o h true
       ·simp only [if_true,Bool.true_and]
        exact Op_j1 o h _
      ·have h0i : ¬ (Qal o : Int) = 0:=by omega
       have e0 : decide (Qal o = 0) = false:=decide_eq_false h0
       simp only [if_neg h0i,e0,Bool.false_and,Bool.not_false,Bool.true_and]
       exact Op_j1 o h _
    ·have e12 : decide (Qal o ≤ 12) = false:=decide_eq_false h12
     rw [e12,Bool.false_and]
     have n12 : (Qal o : Int) > 12:=by omega
     simp only [if_pos n12]
     exact Op_j1 o h true
 ·simp only [Bool.not_true,Bool.false_and]
  exact Ev.step (f:=fun _ => some false) (fun k => by simp only [r4_Op.j0]; rw [if_pos True.intro]) (Ev.now _)
theorem editOk_rest (o : SOp) : editOk o = (o.f6 == 0 && (o.f7 == 0 && (o.f8 == 0 && (decide (o.f5.length ≤ 200) && (!(o.f4.toList.isEmpty && o.f5.isEmpty) && restOk o))))):=by
 unfold editOk restOk goneOk
 have : decide (Qal o = 0) = o.f4.toList.isEmpty:=by
  rw [Bool.eq_iff_iff,decide_eq_true_eq]; exact (runesOf_nil o.f4)
 rw [this]
 cases o.f6 == 0 <;> cases o.f7 == 0 <;> cases o.f8 == 0 <;> cases decide (o.f5.length ≤ 200) <;> cases o.f4.toList.isEmpty <;> cases o.f5.isEmpty <;> cases textOk o.f4 <;> cases decide (Qal o ≤ 12) <;> cases Qcl o.f3 <;> cases Qam o.f3 <;> cases ownEl o o.f3 <;> cases Qbr o none o.f5 <;> rfl
theorem Op_ev (o : SOp) (h : Sm2 o) : Ev (fun k => r4_Op.f k o.f0 o.f1 o.f2 o.f3.f0 o.f3.f1 o.f3.f2 o.f4 o.f5 o.f6 o.f7 o.f8) (opOk o):=by
 unfold r4_Op.f opOk
 simp only [ref4_name_f,Qct,ref0_Num_f,Option.bind_some]
 cases nameOk o.f0 o.f1
 ·simp only [Bool.false_eq_true,if_false,Bool.false_and]; exact Ev.now _
 ·simp only [if_true,Bool.true_and]
  by_cases h2 : o.f2 = 2
  ·have h1 : ¬ o.f2 = 1:=by omega
   rw [if_neg h1]
   simp only [h2,if_true,beq_self_eq_true,Bool.true_and]
   unfold Qce
   refine Ev.congr (fun k => ?_) (Ev.now _)
   have hl : ((o.f5.length : Int) == 0) = o.f5.isEmpty:=isEmpty_len _
   have ht : (o.f4.toList = ([] : List UInt8)) ↔ o.f4.toList.isEmpty = true:=toList_isEmpty _
   simp only [hl,ht]
   cases nameOk o.f6 o.f7
   ·simp
   ·by_cases e6 : o.f6 = o.f0 <;> by_cases e7 : o.f7 = o.f1 <;> by_cases e8 : 0 ≤ o.f8 <;> by_cases e9 : o.f8 ≤ 268435456 <;> cases Qam o.f3 <;> cases o.f4.toList.isEmpty <;> simp [e6,e7,e8,e9]
  ·have e2 : (o.f2 == 2) = false:=by simp [h2]
   simp only [if_neg h2]
   by_cases h1 : o.f2 = 1
   ·simp only [if_pos h1]
    rw [editOk_rest]
    by_cases e6 : o.f6 = 0
    ·simp only [if_pos e6]
     by_cases e7 : o.f7 = 0
     ·simp only [if_pos e7]
      by_cases e8 : o.f8 = 0
      ·simp only [if_pos e8]
       have b6 : (o.f6 == 0) = true:=by simp [e6]
       have b7 : (o.f7 == 0) = true:=by simp [e7]
       have b8 : (o.f8 == 0) = true:=by simp [e8]
       rw [b6,b7,b8,Bool.true_and,Bool.true_and,Bool.true_and]
       by_cases e5 : o.f5.length ≤ 200
       ·have n5 : ¬ (o.f5.length : Int) > 200:=by omega
        have d5 : decide (o.f5.length ≤ 200) = true:=decide_eq_true e5
        simp only [if_neg n5,d5,Bool.true_and,isEmpty_len]
        by_cases e4 : o.f4.toList = ([] : List UInt8)
        ·simp only [if_pos e4,List.isEmpty_iff.2 e4,Bool.true_and]; exact Op_j0 o h _
        ·have : o.f4.toList.isEmpty = false:=by cases hh : o.f4.toList.isEmpty; rfl; exact absurd (List.isEmpty_iff.1 hh) e4
         simp only [if_neg e4,this,Bool.false_and]; exact Op_j0 o h _
       ·have n5 : (o.f5.length : Int) > 200:=by omega
        have d5 : decide (o.f5.length ≤ 200) = false:=decide_eq_false e5
        simp only [if_pos n5,d5,Bool.false_and]; exact Op_j0 o h _
      ·have b8 : (o.f8 == 0) = false:=by simp [e8]
       simp only [if_neg e8,b8,Bool.false_and,Bool.and_false]; exact Op_j0 o h _
     ·have b7 : (o.f7 == 0) = false:=by simp [e7]
      simp only [if_neg e7,b7,Bool.false_and,Bool.and_false]; exact Op_j0 o h _
    ·have b6 : (o.f6 == 0) = false:=by simp [e6]
     simp only [if_neg e6,b6,Bool.false_and]; exact Op_j0 o h _
   ·simp only [if_neg h1,e2,Bool.false_and]; have hh:=Op_j0 o h true; simp only [Bool.not_true,Bool.false_and] at hh; exact hh
theorem Find_loop (l : List SOp) (hl : l.length ≤ 1000000000000) (a b : Int) : ∀ d i,i + d = l.length → Ev (fun k => r4_Find.l0 k l a b (i : Int)) (Qbf (fun i => nameIs a b (Qad l i)) l.length d i)
 | 0,i,h => Ev.step (f:=fun _ => some (-1)) (fun k => by simp only [r4_Find.l0]; rw [if_neg (by omega)]) (Ev.now _)
 | d + 1,i,h => by
  have ih:=Find_loop l hl a b d (i + 1) (by omega)
  unfold Qbf
  rw [if_pos (show i < l.length by omega)]
  by_cases h0 : (Qad l (i : Int)).f0 = a
  ·by_cases h1 : (Qad l (i : Int)).f1 = b
   ·rw [if_pos (by unfold nameIs; simp [h0,h1])]
    refine Ev.step (f:=fun _ => some (i : Int)) (fun k => ?_) (Ev.now _)
    simp only [r4_Find.l0]
    rw [if_pos (by omega),if_pos (by omega),if_pos h0,if_pos h1]
   ·rw [if_neg (by unfold nameIs; simp [h1])]
    refine Ev.step (fun k => ?_) ih
    simp only [r4_Find.l0]
    rw [if_pos (by omega),if_pos (by omega),if_pos h0,if_neg h1,Qdh (show i < l.length by omega) (by omega)]
  ·rw [if_neg (by unfold nameIs; simp [h0])]
   refine Ev.step (fun k => ?_) ih
   simp only [r4_Find.l0]
   rw [if_pos (by omega),if_pos (by omega),if_neg h0,Qdh (show i < l.length by omega) (by omega)]
theorem Find_ev (l : List SOp) (hl : l.length ≤ 1000000000000) (a b : Int) : Ev (fun k => r4_Find.f k l a b) (Qbi l a b):=Find_loop l hl a b l.length 0 (Nat.zero_add _)
def runesN (o : SOp) : Nat:=if textOk o.f4 = true then Qal o else 0
theorem RunesO_ev (o : SOp) (h : o.f4.size ≤ 35184372088000) : Ev (fun k => r4_Runes.f k o.f0 o.f1 o.f2 o.f3.f0 o.f3.f1 o.f3.f2 o.f4 o.f5 o.f6 o.f7 o.f8) (runesN o : Int):=by
 refine Ev.bind (f:=fun _ (bt : List Int × Bool) => some (bt.1.length : Int)) (Runes_ev o.f4 h) ?_
 unfold runesN
 cases textOk o.f4
 ·exact Ev.now _
 ·exact Ev.now _
theorem opOk_text {o : SOp} (h : opOk o = true) : runesN o = Qal o:=by
 unfold runesN
 rcases Qcp h with ⟨_,h2⟩ | ⟨h1,h2⟩
 ·unfold editOk at h2; simp only [Bool.and_eq_true] at h2
  rw [if_pos h2.1.1.1.1.1.2]
 ·have:=(Qco h).2 h1
  split <;> omega
def Qcq (l : List SOp) (e : SElem) : Bool:=Qam e || (decide (0 ≤ Qbi l e.f0 e.f1) && decide (0 ≤ e.f2) && decide (e.f2 < (runesN (Qad l (Qbi l e.f0 e.f1)) : Int)))
theorem written_ev (l : List SOp) (hl : l.length ≤ 1000000000000) (hs : ∀ o ∈ l,o.f4.size ≤ 35184372088000) (e : SElem) : Ev (fun k => r4_written.f k l e.f0 e.f1 e.f2) (Qcq l e):=by
 unfold r4_written.f Qcq
 simp only [Qct,Option.bind_some]
 cases Qam e
 ·simp only [Bool.false_eq_true,if_false,Bool.false_or]
  refine Ev.bind (Find_ev l hl e.f0 e.f1) ?_
  rcases Qbe l e.f0 e.f1 with ⟨i,hi,_,_,_,ef⟩ | ⟨_,ef⟩
  ·rw [ef]
   have h0 : (i : Int) ≥ 0:=by omega
   have d0 : decide ((0 : Int) ≤ (i : Int)) = true:=decide_eq_true (by omega)
   simp only [if_pos h0,d0,Bool.true_and]
   by_cases h2 : e.f2 ≥ 0
   ·have d2 : decide ((0 : Int) ≤ e.f2) = true:=decide_eq_true h2
    have h3 : (i : Int) < (l.length : Int):=by omega
    have h4 : (0 : Int) ≤ (i : Int):=by omega
    simp only [if_pos h2,d2,if_pos h3,if_pos h4,Bool.true_and]
    refine Ev.bind (f:=fun _ t => some (decide (e.f2 < t))) (RunesO_ev (Qad l (i : Int)) (by rw [Qar _ _ hi]; exact hs _ (List.getElem_mem hi))) (Ev.now _)
   ·have d2 : decide ((0 : Int) ≤ e.f2) = false:=decide_eq_false (by omega)
    simp only [if_neg h2,d2,Bool.false_and]; exact Ev.now _
  ·rw [ef]
   have h0 : ¬ (-1 : Int) ≥ 0:=by omega
   simp only [if_neg h0]; exact Ev.now _
 ·simp only [if_true,Bool.true_or]; exact Ev.now _
theorem countS_take (l : List SOp) (a : Int) (i : Nat) (h : i < l.length) : Qbj (l.take (i + 1)) a = Qbj (l.take i) a + if l[i].f0 = a then 1 else 0:=by
 rw [List.take_succ_eq_append_getElem h,countS_app]
theorem Many_loop (l : List SOp) (hl : l.length ≤ 1000000000000) (a : Int) : ∀ d i,i + d = l.length → Ev (fun k => r4_Many.l0 k l a (Qbj (l.take i) a : Int) (i : Int)) (Qbj l a : Int)
 | 0,i,h => by
  rw [List.take_of_length_le (by omega)]
  exact Ev.step (f:=fun _ => some (Qbj l a : Int)) (fun k => by simp only [r4_Many.l0]; rw [if_neg (by omega)]) (Ev.now _)
 | d + 1,i,h => by
  have ih:=Many_loop l hl a d (i + 1) (by omega)
  have hlt : i < l.length:=by omega
  have hc : Qbj (l.take i) a ≤ i:=Nat.le_trans (countS_le _ _) (by rw [List.length_take]; omega)
  rw [countS_take l a i hlt] at ih
  refine Ev.step (fun k => ?_) ih
  simp only [r4_Many.l0]
  rw [if_pos (by omega),if_pos (by omega),Qar _ _ hlt,Qdh hlt (by omega),Qaj (i:=(Qbj (l.take i) a : Int) + 1) (by omega) (by omega)]
  by_cases h0 : l[i].f0 = a
  ·rw [if_pos h0,if_pos h0]; rfl
  ·rw [if_neg h0,if_neg h0]; rfl
theorem Many_ev (l : List SOp) (hl : l.length ≤ 1000000000000) (a : Int) : Ev (fun k => r4_Many.f k l a) (Qbj l a : Int):=Many_loop l hl a l.length 0 (Nat.zero_add _)
def editN (l : List SOp) (a b : Int) : Bool:=decide (0 ≤ Qbi l a b) && ((Qad l (Qbi l a b)).f2 == 1)
theorem Edit_ev (l : List SOp) (hl : l.length ≤ 1000000000000) (a b : Int) : Ev (fun k => r4_Edit.f k l a b) (editN l a b):=by
 refine Ev.bind (f:=fun _ t => if t ≥ 0 then (if 0 ≤ t then (if t < (l.length : Int) then some ((Qad l t).f2 == 1) else none) else none) else some false) (Find_ev l hl a b) ?_
 unfold editN
 rcases Qbe l a b with ⟨i,hi,_,_,_,ef⟩ | ⟨_,ef⟩
 ·rw [ef]
  refine Ev.congr (fun k => ?_) (Ev.now _)
  rw [if_pos (by omega),if_pos (by omega),if_pos (by omega),decide_eq_true (show (0 : Int) ≤ (i : Int) by omega),Bool.true_and]
 ·rw [ef]; exact Ev.now _
structure SmL (l : List SOp) : Prop where
 len : l.length ≤ 1000000000000
 ops : ∀ o ∈ l,Sm2 o
theorem SmL.take {l : List SOp} (h : SmL l) (n : Nat) : SmL (l.take n):=⟨by have:=h.len; rw [List.length_take]; omega,fun o ho => h.ops o (List.mem_of_mem_take ho)⟩
def goesN (l : List SOp) (o : SOp) : Bool:=opOk o && (decide (o.f1 = (Qbj l o.f0 : Int) + 1) && (Qcq l o.f3 && (o.f5.all (Qcq l) && (o.f2 == 1 || editN l o.f6 o.f7))))
theorem Goes_l0 (l : List SOp) (hl : SmL l) (o : SOp) (h : Sm2 o) : ∀ d i,i + d = o.f5.length → Ev (fun k => r4_Goes.l0 k l (i : Int) o.f0 o.f1 o.f2 o.f3.f0 o.f3.f1 o.f3.f2 o.f4 o.f5 o.f6 o.f7 o.f8) ((o.f5.drop i).all (Qcq l) && (o.f2 == 1 || editN l o.f6 o.f7))
 | 0,i,hi => by
  rw [List.drop_eq_nil_of_le (by omega)]
  simp only [List.all_nil,Bool.true_and]
  by_cases h1 : o.f2 = 1
  ·have : (o.f2 == 1) = true:=by simp [h1]
   rw [this,Bool.true_or]
   exact Ev.step (f:=fun _ => some true) (fun k => by simp only [r4_Goes.l0]; rw [if_neg (by omega),if_pos h1]) (Ev.now _)
  ·have : (o.f2 == 1) = false:=by simp [h1]
   rw [this,Bool.false_or]
   refine Ev.step (f:=fun k => (r4_Edit.f k l o.f6 o.f7).bind fun t => some t) (fun k => by simp only [r4_Goes.l0]; rw [if_neg (by omega),if_neg h1]) (Ev.bind (f:=fun _ t => some t) (Edit_ev l hl.len o.f6 o.f7) (Ev.now _))
 | d + 1,i,hi => by
  have hlt : i < o.f5.length:=by omega
  have ih:=Goes_l0 l hl o h d (i + 1) (by omega)
  rw [List.drop_eq_getElem_cons hlt,List.all_cons]
  have hw:=written_ev l hl.len (fun o ho => (hl.ops o ho).1) o.f5[i]
  refine Ev.step (f:=fun k => (r4_written.f k l o.f5[i].f0 o.f5[i].f1 o.f5[i].f2).bind fun t => if t = true then r4_Goes.l0 k l ((i + 1 : Nat) : Int) o.f0 o.f1 o.f2 o.f3.f0 o.f3.f1 o.f3.f2 o.f4 o.f5 o.f6 o.f7 o.f8 else some false) (fun k => ?_) (Ev.bind (f:=fun k t => if t = true then r4_Goes.l0 k l ((i + 1 : Nat) : Int) o.f0 o.f1 o.f2 o.f3.f0 o.f3.f1 o.f3.f2 o.f4 o.f5 o.f6 o.f7 o.f8 else some false) hw ?_)
  ·simp only [r4_Goes.l0]
   rw [if_pos (by omega),if_pos (by omega),Qat _ _ hlt,Qdh hlt (by have:=h.2; omega)]
  ·cases Qcq l o.f5[i]
   ·simp only [Bool.false_and,Bool.false_eq_true,if_false]; exact Ev.now _
   ·simp only [Bool.true_and,if_true]; exact ih
theorem Goes_ev (l : List SOp) (hl : SmL l) (o : SOp) (h : Sm2 o) : Ev (fun k => r4_Goes.f k l o.f0 o.f1 o.f2 o.f3.f0 o.f3.f1 o.f3.f2 o.f4 o.f5 o.f6 o.f7 o.f8) (goesN l o):=by
 have hj : ∀ b : Bool,Ev (fun k => r4_Goes.j0 k l b o.f0 o.f1 o.f2 o.f3.f0 o.f3.f1 o.f3.f2 o.f4 o.f5 o.f6 o.f7 o.f8) (!b && (o.f5.all (Qcq l) && (o.f2 == 1 || editN l o.f6 o.f7))):=by
  intro b
  cases b
  ·simp only [Bool.not_false,Bool.true_and]
   exact Ev.step (fun k => by simp only [r4_Goes.j0]; rw [if_neg (by decide)]; rfl) (Goes_l0 l hl o h o.f5.length 0 (Nat.zero_add _))
  ·simp only [Bool.not_true,Bool.false_and]
   exact Ev.step (f:=fun _ => some false) (fun k => by simp only [r4_Goes.j0]; rw [if_pos True.intro]) (Ev.now _)
 have hjt:=hj true
 simp only [Bool.not_true,Bool.false_and] at hjt
 unfold r4_Goes.f goesN
 refine Ev.bind (Op_ev o h) ?_
 cases opOk o
 ·simp only [Bool.false_eq_true,if_false,Bool.false_and]; exact hjt
 ·simp only [if_true,Bool.true_and]
  refine Ev.bind (Many_ev l hl.len o.f0) ?_
  have hc:=countS_le l o.f0
  have hlen:=hl.len
  simp only [Qaj (show -9223372036854775808 ≤ (Qbj l o.f0 : Int) + 1 by omega) (show (Qbj l o.f0 : Int) + 1 ≤ 9223372036854775807 by omega)]
  by_cases hq : o.f1 = (Qbj l o.f0 : Int) + 1
  ·simp only [if_pos hq,decide_eq_true hq,Bool.true_and]
   refine Ev.bind (written_ev l hl.len (fun o ho => (hl.ops o ho).1) o.f3) ?_
   have:=hj (!Qcq l o.f3)
   rw [Bool.not_not] at this
   exact this
  ·simp only [if_neg hq,decide_eq_false hq,Bool.false_and]; exact hjt
def Qcz (l : List SOp) : Nat:=(l.map runesN).sum
theorem totalN_take (l : List SOp) (i : Nat) (h : i < l.length) : Qcz (l.take (i + 1)) = Qcz (l.take i) + runesN l[i]:=by
 unfold Qcz; rw [List.take_succ_eq_append_getElem h,List.map_append,List.sum_append]; simp
theorem sizeOf_le (o : SOp) : Qal o ≤ o.f4.size:=decFrom_len _ _ _
theorem Fits_loop (l : List SOp) (h40 : l.length ≤ 40) (hl : SmL l) : ∀ d i,i + d = l.length → Qcz (l.take i) ≤ i * 35184372088000 → Ev (fun k => r4_Fits.l0 k l (Qcz (l.take i) : Int) (i : Int)) (decide (Qcz l ≤ 200))
 | 0,i,h,_ => by
  rw [List.take_of_length_le (by omega)]
  have : decide ((Qcz l : Int) ≤ 200) = decide (Qcz l ≤ 200):=decide_eq_decide.2 (by omega)
  exact Ev.step (f:=fun _ => some (decide (Qcz l ≤ 200))) (fun k => by simp only [r4_Fits.l0]; rw [if_neg (by omega),if_pos (by omega),this]) (Ev.now _)
 | d + 1,i,h,ht => by
  have hlt : i < l.length:=by omega
  have hr : runesN l[i] ≤ 35184372088000:=by
   have:=(hl.ops _ (List.getElem_mem hlt)).1
   have:=sizeOf_le l[i]
   unfold runesN; split <;> omega
  have e:=totalN_take l i hlt
  have ih:=Fits_loop l h40 hl d (i + 1) (by omega) (by rw [e]; omega)
  rw [e] at ih
  have hR:=RunesO_ev l[i] (hl.ops _ (List.getElem_mem hlt)).1
  refine Ev.step (fun k => ?_) (Ev.bind (f:=fun k t => r4_Fits.l0 k l (wrap64 ((Qcz (l.take i) : Int) + t)) ((i + 1 : Nat) : Int)) hR ?_)
  ·simp only [r4_Fits.l0]
   rw [if_pos (by omega),if_pos (by omega),if_pos (by omega),Qar _ _ hlt,Qdh hlt (by omega)]
  ·rw [Qaj (by omega) (by omega)]
   exact ih
theorem Fits_ev (l : List SOp) (h40 : l.length ≤ 40) (hl : SmL l) : Ev (fun k => r4_Fits.f k l) (decide (Qcz l ≤ 200)):=by
 have h:=Fits_loop l h40 hl l.length 0 (Nat.zero_add _) (by rw [List.take_zero]; exact Nat.zero_le _)
 have e : Qcz (l.take 0) = 0:=by rw [List.take_zero]; rfl
 rw [e] at h
 exact h
def rowR (l : List SOp) (i : Nat) : Bool:=(List.range' i (l.length - i)).all (fun j => goesN (l.take j) (Qad l (j : Int))) && decide (Qcz l ≤ 200)
theorem Row_loop (l : List SOp) (h40 : l.length ≤ 40) (hl : SmL l) : ∀ d i,i + d = l.length → Ev (fun k => r4_Row.l0 k l (i : Int)) (rowR l i)
 | 0,i,h => by
  unfold rowR
  rw [show l.length - i = 0 by omega]
  simp only [List.range'_zero,List.all_nil,Bool.true_and]
  refine Ev.step (fun k => by simp only [r4_Row.l0]; rw [if_neg (by omega)]) (Ev.bind (f:=fun _ t => some t) (Fits_ev l h40 hl) (Ev.now _))
 | d + 1,i,h => by
  have hlt : i < l.length:=by omega
  have ih:=Row_loop l h40 hl d (i + 1) (by omega)
  have hG:=Goes_ev (l.take i) (hl.take i) l[i] (hl.ops _ (List.getElem_mem hlt))
  unfold rowR at ih ⊢
  rw [show l.length - i = (l.length - (i + 1)) + 1 by omega,List.range'_succ,List.all_cons,Qar _ _ hlt]
  refine Ev.step (fun k => ?_) (Ev.bind (f:=fun k t => if t = true then r4_Row.l0 k l ((i + 1 : Nat) : Int) else some false) hG ?_)
  ·simp only [r4_Row.l0]
   rw [if_pos (by omega),if_pos (by omega),if_pos (by omega),Qar _ _ hlt,Int.toNat_natCast,Qdh hlt (by omega)]
  ·cases goesN (l.take i) l[i]
   ·simp only [Bool.false_and,Bool.false_eq_true,if_false]; exact Ev.now _
   ·simp only [Bool.true_and,if_true]; exact ih
theorem writtenN_wr {l : List SOp} (hr : RowOk l) (e : SElem) : Qcq l e = true ↔ wr l e:=by
 unfold Qcq wr
 rw [Bool.or_eq_true]
 refine or_congr Iff.rfl ?_
 simp only [Bool.and_eq_true,decide_eq_true_eq]
 constructor
 ·rintro ⟨⟨h0,h1⟩,h2⟩
  rcases Qbe l e.f0 e.f1 with ⟨i,hi,e0,e1,_,ef⟩ | ⟨_,ef⟩
  ·rw [ef,Qar _ _ hi,opOk_text (hr.oks _ (List.getElem_mem hi))] at h2
   exact ⟨h1,l[i],List.getElem_mem hi,e0,e1,h2⟩
  ·omega
 ·rintro ⟨h1,p,hp,e0,e1,h2⟩
  obtain ⟨i,hi,ef,ei⟩:=Qde hr hp
  rw [← e0,← e1,ef,Qar _ _ hi,ei,opOk_text (hr.oks p hp)]
  exact ⟨⟨by omega,h1⟩,h2⟩
theorem editN_iff {l : List SOp} (hr : RowOk l) (a b : Int) : editN l a b = true ↔ ∃ p ∈ l,p.f2 = 1 ∧ p.f0 = a ∧ p.f1 = b:=by
 unfold editN
 simp only [Bool.and_eq_true,decide_eq_true_eq,beq_iff_eq]
 constructor
 ·rintro ⟨h0,h1⟩
  rcases Qbe l a b with ⟨i,hi,e0,e1,_,ef⟩ | ⟨_,ef⟩
  ·rw [ef,Qar _ _ hi] at h1; exact ⟨l[i],List.getElem_mem hi,h1,e0,e1⟩
  ·omega
 ·rintro ⟨p,hp,h2,rfl,rfl⟩
  obtain ⟨i,hi,ef,ei⟩:=Qde hr hp
  rw [ef,Qar _ _ hi,ei]
  exact ⟨by omega,h2⟩
theorem goesN_iff {l : List SOp} (hr : RowOk l) (o : SOp) : goesN l o = true ↔ GoesR l o:=by
 unfold goesN
 simp only [Bool.and_eq_true,decide_eq_true_eq,Bool.or_eq_true,beq_iff_eq,List.all_eq_true,writtenN_wr hr,editN_iff hr]
 constructor
 ·rintro ⟨h1,h2,h3,h4,h5⟩
  exact ⟨h1,h2,h3,h4,fun e => h5.elim (fun e1 => by omega) id⟩
 ·intro h
  refine ⟨h.ok,h.seq,h.after,h.gone, ?_⟩
  rcases Qcp h.ok with ⟨e,_⟩ | ⟨e,_⟩
  ·exact .inl e
  ·exact .inr (h.tog e)
theorem totalN_eq {l : List SOp} (h : ∀ o ∈ l,opOk o = true) : Qcz l = total l:=by
 unfold Qcz total
 rw [List.map_congr_left (fun o ho => opOk_text (h o ho))]
theorem rowR_iff (l : List SOp) (h40 : l.length ≤ 40) : rowR l 0 = true ↔ RowOk l:=by
 unfold rowR
 rw [Nat.sub_zero]
 simp only [Bool.and_eq_true,decide_eq_true_eq,List.all_eq_true,List.mem_range'_1]
 constructor
 ·rintro ⟨h1,h2⟩
  have key : ∀ n,n ≤ l.length → (∀ i (h : i < l.length),i < n → GoesR (l.take i) l[i]) ∧ (∀ o ∈ l.take n,opOk o = true) ∧ RowOk (l.take n):=by
   intro n
   induction n with
   | zero => intro _; exact ⟨fun i _ h => by omega,fun o ho => by simp at ho,by simpa using RowOk.nil⟩
   | succ n ih =>
    intro hn
    obtain ⟨a,b,c⟩:=ih (by omega)
    have hlt : n < l.length:=by omega
    have g:=h1 n ⟨Nat.zero_le _,by omega⟩
    rw [Qar _ _ hlt] at g
    have g':=(goesN_iff c l[n]).1 g
    have b' : ∀ o ∈ l.take (n + 1),opOk o = true:=by
     rw [List.take_succ_eq_append_getElem hlt]
     intro o ho
     rcases List.mem_append.1 ho with ho | ho
     ·exact b o ho
     ·simp at ho; subst ho; exact g'.ok
    refine ⟨fun i hi hin => ?_,b', ?_⟩
    ·by_cases e : i = n
     ·subst e; exact g'
     ·exact a i hi (by omega)
    ·rw [List.take_succ_eq_append_getElem hlt]
     refine .snoc c ⟨by rw [List.length_take]; omega,g'.ok,g'.seq,g'.after,g'.gone,g'.tog, ?_⟩
     have t1:=totalN_eq b'
     rw [List.take_succ_eq_append_getElem hlt,total_app] at t1
     have t2 : Qcz (l.take (n + 1)) ≤ Qcz l:=by
      have : Qcz (l.take (n + 1)) + Qcz (l.drop (n + 1)) = Qcz l:=by
       unfold Qcz; rw [← List.sum_append,← List.map_append,List.take_append_drop]
      omega
     rw [List.take_succ_eq_append_getElem hlt] at t2
     omega
  have:=(key l.length (Nat.le_refl _)).2.2
  rwa [List.take_length] at this
 ·intro h
  refine ⟨fun j hj => ?_,by rw [totalN_eq h.oks]; exact h.sums.2⟩
  rw [Qar _ _ (by omega)]
  exact (goesN_iff (h.take j) _).2 (((RowOk_iff l).1 h).2.2 j (by omega))
theorem Row_ev (l : List SOp) (hl : SmL l) : Ev (fun k => r4_Row.f k l) (mayB l):=by
 unfold r4_Row.f
 by_cases h40 : l.length ≤ 40
 ·have n40 : ¬ (l.length : Int) > 40:=by omega
  simp only [if_neg n40]
  have : mayB l = rowR l 0:=by rw [Bool.eq_iff_iff,Qdi,rowR_iff l h40]
  rw [this]
  exact Row_loop l h40 hl l.length 0 (Nat.zero_add _)
 ·have n40 : (l.length : Int) > 40:=by omega
  simp only [if_pos n40]
  have : mayB l = false:=by unfold mayB; simp [h40]
  rw [this]; exact Ev.now _
end
section
def hungC (l : List SOp) (e : SElem) (k : Nat) : Bool:=!(Qad l (k : Int)).f4.toList.isEmpty && decide (key3 (Qad l (k : Int)).f3 = key3 e)
def hungR (l : List SOp) (e : SElem) (i : Nat) : List SElem:=((List.range i).reverse.filter (hungC l e)).map (fun k : Nat => (⟨(Qad l (k : Int)).f0,(Qad l (k : Int)).f1,0⟩ : SElem))
def tailR (l : List SOp) (e : SElem) : List SElem:=if Qam e then [] else if Qcq l ⟨e.f0,e.f1,wrap64 (e.f2 + 1)⟩ then [⟨e.f0,e.f1,wrap64 (e.f2 + 1)⟩] else []
theorem hungR_succ (l : List SOp) (e : SElem) (i : Nat) : hungR l e (i + 1) = (if hungC l e i = true then [⟨(Qad l (i : Int)).f0,(Qad l (i : Int)).f1,0⟩] else []) ++ hungR l e i:=by
 unfold hungR
 rw [List.range_succ,List.reverse_append,List.reverse_cons,List.reverse_nil,List.nil_append,List.singleton_append,List.filter_cons]
 cases hungC l e i <;> rfl
theorem eqK_iff (x : SElem) (a b c : Int) : (x.f0 == a && (x.f1 == b && (x.f2 == c))) = decide (key3 x = key3 ⟨a,b,c⟩):=by
 rw [eqE_iff,decide_eq_decide]
 exact ⟨fun h => by rw [h],fun h => key3_inj h⟩
theorem Under_loop (l : List SOp) (hl : SmL l) (hn : l.length ≤ 1000000) (e : SElem) : ∀ i (x : List SElem),i ≤ l.length → x.length + i ≤ 1000000 → Ev (fun k => r4_Under.l0 k l x ((i : Int) - 1) e.f0 e.f1 e.f2) (x ++ (hungR l e i ++ tailR l e))
 | 0,x,hi,hx => by
  have e0 : hungR l e 0 = []:=rfl
  rw [e0,List.nil_append]
  unfold tailR
  refine Ev.step (f:=fun k => (some (Qam e)).bind fun t => if t = true then some x else (r4_written.f k l e.f0 e.f1 (wrap64 (e.f2 + 1))).bind fun t => if t = true then (if x.length < 5864062014805 then some (x ++ [(⟨e.f0,e.f1,wrap64 (e.f2 + 1)⟩ : SElem)]) else none) else some x) (fun k => ?_) ?_
  ·simp only [r4_Under.l0]
   rw [if_neg (by omega),Qct]
  ·simp only [Option.bind_some]
   cases Qam e
   ·simp only [Bool.false_eq_true,if_false]
    refine Ev.bind (written_ev l hl.len (fun o ho => (hl.ops o ho).1) ⟨e.f0,e.f1,wrap64 (e.f2 + 1)⟩) ?_
    cases Qcq l ⟨e.f0,e.f1,wrap64 (e.f2 + 1)⟩
    ·simp only [Bool.false_eq_true,if_false,List.append_nil]; exact Ev.now _
    ·have hx' : x.length < 5864062014805:=by omega
     simp only [if_true,if_pos hx']; exact Ev.now _
   ·simp only [if_true,List.append_nil]; exact Ev.now _
 | i + 1,x,hi,hx => by
  have hlt : i < l.length:=by omega
  have hw : wrap64 ((((i + 1 : Nat) : Int) - 1) - 1) = (i : Int) - 1:=by rw [Qaj (by omega) (by omega)]; omega
  have hr : Qad l (((i + 1 : Nat) : Int) - 1) = Qad l (i : Int):=by rw [show ((i + 1 : Nat) : Int) - 1 = (i : Int) by omega]
  rw [hungR_succ]
  have hk:=eqK_iff (Qad l (i : Int)).f3 e.f0 e.f1 e.f2
  have he : (⟨e.f0,e.f1,e.f2⟩ : SElem) = e:=rfl
  rw [he] at hk
  by_cases hz : (Qad l (i : Int)).f4.toList = []
  ·have hc : hungC l e i = false:=by unfold hungC; rw [hz]; rfl
   rw [hc]
   simp only [Bool.false_eq_true,if_false,List.nil_append]
   refine Ev.step (fun k => ?_) (Under_loop l hl hn e i x (by omega) (by omega))
   simp only [r4_Under.l0]
   rw [if_pos (by omega),if_pos (by omega),if_pos (by omega),hr,hw,if_pos hz]
  ·have hz' : (Qad l (i : Int)).f4.toList.isEmpty = false:=by
    cases hq : (Qad l (i : Int)).f4.toList with
    | nil => exact absurd hq hz
    | cons => rfl
   have hc : hungC l e i = decide (key3 (Qad l (i : Int)).f3 = key3 e):=by unfold hungC; rw [hz']; rfl
   rw [hc]
   by_cases hq : key3 (Qad l (i : Int)).f3 = key3 e
   ·have ih:=Under_loop l hl hn e i (x ++ [⟨(Qad l (i : Int)).f0,(Qad l (i : Int)).f1,0⟩]) (by omega) (by simp; omega)
    rw [if_pos (decide_eq_true hq)]
    rw [List.append_assoc] at ih ⊢
    refine Ev.step (fun k => ?_) ih
    simp only [r4_Under.l0]
    rw [if_pos (by omega),if_pos (by omega),if_pos (by omega),hr,hw,if_neg hz,hk,if_pos (decide_eq_true hq),if_pos (by omega)]
   ·rw [if_neg (by simp [hq]),List.nil_append]
    refine Ev.step (fun k => ?_) (Under_loop l hl hn e i x (by omega) (by omega))
    simp only [r4_Under.l0]
    rw [if_pos (by omega),if_pos (by omega),if_pos (by omega),hr,hw,if_neg hz,hk,if_neg (by simp [hq])]
theorem under_eq {l : List SOp} (h : RowOk l) {e : SElem} (he : e = bgE ∨ e ∈ ordL l) : hungR l e l.length ++ tailR l e = chl l e:=by
 rw [chl_under h he]
 unfold underR hungR tailR
 congr 1
 rcases he with rfl | he
 ·rfl
 ·have hp:=ordL_pos h he
  obtain ⟨p,hp',e0,e1,h2,h3⟩:=(mem_ordL h e).1 he
  have hsz:=(Qco (h.oks p hp')).1
  rw [Qaj (by omega) (by omega)]
  have hb : Qam (⟨e.f0,e.f1,e.f2 + 1⟩ : SElem) = false:=by
   unfold Qam
   have : (e.f0 == 0) = false:=by simp; omega
   rw [this]; rfl
  have : Qcq l ⟨e.f0,e.f1,e.f2 + 1⟩ = Qcc l ⟨e.f0,e.f1,e.f2 + 1⟩:=by
   unfold Qcq Qcc
   rw [hb,Bool.false_or]
   rcases Qbe l e.f0 e.f1 with ⟨i,hi,_,_,_,ef⟩ | ⟨_,ef⟩
   ·simp only [ef,Qar _ _ hi,opOk_text (h.oks _ (List.getElem_mem hi))]
   ·simp only [ef]; rfl
  rw [this]
theorem Under_ev {l : List SOp} (hl : SmL l) (h : RowOk l) {e : SElem} (he : e = bgE ∨ e ∈ ordL l) : Ev (fun k => r4_Under.f k l e.f0 e.f1 e.f2) (chl l e):=by
 have h40:=h.sums.1
 have:=Under_loop l hl (by omega) e l.length [] (Nat.le_refl _) (by simp; omega)
 rw [List.nil_append,under_eq h he] at this
 unfold r4_Under.f
 rw [Qaj (by omega) (by omega)]
 exact this
theorem Order_push (l : List SOp) (x u : List SElem) {r : List SElem} : ∀ i (t : List SElem),i ≤ u.length → t.length + i ≤ 1000000000 → Ev (fun k => r4_Order.l0 k l x (t ++ (u.take i).reverse)) r → Ev (fun k => r4_Order.l1 k l x t u ((i : Int) - 1)) r
 | 0,t,hi,ht,h => by
  rw [List.take_zero,List.reverse_nil,List.append_nil] at h
  refine Ev.step (fun k => ?_) h
  simp only [r4_Order.l1]
  rw [if_neg (by omega)]
 | i + 1,t,hi,ht,h => by
  have hlt : i < u.length:=by omega
  have hw : wrap64 ((((i + 1 : Nat) : Int) - 1) - 1) = (i : Int) - 1:=by rw [Qaj (by omega) (by omega)]; omega
  have hr : Qaa u (((i + 1 : Nat) : Int) - 1) = u[i]:=by rw [show ((i + 1 : Nat) : Int) - 1 = (i : Int) by omega,Qat _ _ hlt]
  have ih:=Order_push l x u (r:=r) i (t ++ [u[i]]) (by omega) (by simp; omega) (by
   rw [List.take_succ_eq_append_getElem hlt,List.reverse_append,List.reverse_singleton,List.singleton_append] at h
   rw [List.append_assoc,List.singleton_append]; exact h)
  refine Ev.step (fun k => ?_) ih
  simp only [r4_Order.l1]
  rw [if_pos (by omega),if_pos (by omega),if_pos (by omega),if_pos (by omega),hr,hw]
theorem Order_one {l : List SOp} (hl : SmL l) (h : RowOk l) {e : SElem} (he : e = bgE ∨ e ∈ ordL l) (x t : List SElem) {r : List SElem} (ht : t.length + (chl l e).length ≤ 1000000000) (hx : x.length ≤ 1000000000)
  (k : Ev (fun k => r4_Order.l0 k l (if Qam e = true then x else x ++ [e]) (t ++ (chl l e).reverse)) r) : Ev (fun k => r4_Order.l0 k l x (t ++ [e])) r:=by
 have hlen : (t ++ [e]).length = t.length + 1:=by simp
 have hr : Qaa (t ++ [e]) (t.length : Int) = e:=by rw [Qat _ _ (by simp)]; simp
 have hj : ∀ y : List SElem,Ev (fun k => r4_Order.l0 k l y (t ++ (chl l e).reverse)) r → Ev (fun k => r4_Order.j1 k l y t e.f0 e.f1 e.f2) r:=by
  intro y hy
  refine Ev.step (f:=fun k => (r4_Under.f k l e.f0 e.f1 e.f2).bind fun t366 => r4_Order.l1 k l y t t366 (wrap64 ((t366.length : Int) - 1))) (fun k => by simp only [r4_Order.j1]) (Ev.bind (f:=fun k t366 => r4_Order.l1 k l y t t366 (wrap64 ((t366.length : Int) - 1))) (Under_ev hl h he) ?_)
  rw [Qaj (by omega) (by omega)]
  refine Order_push l y (chl l e) (chl l e).length t (Nat.le_refl _) ht ?_
  rw [List.take_length]; exact hy
 have h1 : wrap64 (((t ++ [e]).length : Int) - 1) = (t.length : Int):=by rw [hlen,Qaj (by omega) (by omega)]; omega
 have hT : (t ++ [e]).take ((t.length : Int)).toNat = t:=by rw [Int.toNat_natCast]; simp
 refine Ev.step (f:=fun k => if Qam e = true then r4_Order.j1 k l x t e.f0 e.f1 e.f2 else r4_Order.j1 k l (x ++ [e]) t e.f0 e.f1 e.f2) (fun k => ?_) ?_
 ·simp only [r4_Order.l0]
  rw [h1,if_pos (by omega),if_pos (by omega),if_pos (by omega),if_pos (by omega),hT,Option.bind_some,hr,Qct,Option.bind_some,if_pos (show x.length < 5864062014805 by omega)]
 ·cases hb : Qam e
  ·rw [hb] at k
   simp only [Bool.false_eq_true,if_false] at k ⊢
   exact hj _ k
  ·rw [hb] at k
   simp only [if_true] at k ⊢
   exact hj _ k
theorem walk_len {ch : SElem → List SElem} {xs L : List SElem} (h : WalkL ch xs L) : xs.length ≤ L.length:=by
 induction h with
 | nil => exact Nat.le_refl _
 | cons h1 h2 ih1 ih2 => simp only [List.length_cons,List.length_append]; omega
theorem Order_walk {l : List SOp} (hl : SmL l) (h : RowOk l) {r : List SElem} {xs L : List SElem} (hw : WalkL (chl l) xs L) : ∀ (x t : List SElem),(∀ e ∈ L,e ∈ ordL l) → x.length + L.length ≤ 1000000 → t.length + L.length ≤ 1000000 →
  Ev (fun k => r4_Order.l0 k l (x ++ L) t) r → Ev (fun k => r4_Order.l0 k l x (t ++ xs.reverse)) r:=by
 induction hw with
 | nil => intro x t _ _ _ k; simpa using k
 | cons h1 h2 ih1 ih2 =>
  rename_i e xs L1 L2
  intro x t hm hx ht k
  simp only [List.length_cons,List.length_append] at hx ht
  have w1:=walk_len h1
  have w2:=walk_len h2
  have he : e ∈ ordL l:=hm e List.mem_cons_self
  have hb : Qam e = false:=by
   cases hb : Qam e
   ·rfl
   ·have:=(isBegin_iff e).1 hb
    have hp:=ordL_pos h he
    rw [this] at hp; simp [bgE] at hp
  rw [List.reverse_cons,← List.append_assoc]
  refine Order_one hl h (.inr he) x (t ++ xs.reverse) (by simp; omega) (by omega) ?_
  rw [hb]
  simp only [Bool.false_eq_true,if_false]
  refine ih1 (x ++ [e]) (t ++ xs.reverse) (fun y hy => hm y (by simp [hy])) (by simp; omega) (by simp; omega) ?_
  refine ih2 (x ++ [e] ++ L1) t (fun y hy => hm y (by simp [hy])) (by simp; omega) (by omega) ?_
  have : x ++ [e] ++ L1 ++ L2 = x ++ e :: (L1 ++ L2):=by simp
  rw [this]; exact k
theorem Order_ev {l : List SOp} (hl : SmL l) (h : RowOk l) : Ev (fun k => r4_Order.f k l) (ordL l):=by
 have hlen : (ordL l).length ≤ 200:=by rw [(Qdd h).2]; exact h.sums.2
 have hw:=ordL_walk h
 have w:=walk_len hw
 refine Order_one (e:=bgE) hl h (.inl rfl) [] [] (by simp; omega) (by simp) ?_
 have hb : Qam bgE = true:=rfl
 rw [if_pos hb]
 refine Order_walk hl h hw [] [] (fun e he => he) (by simp; omega) (by simp; omega) ?_
 rw [List.nil_append]
 refine Ev.step (f:=fun _ => some (ordL l)) (fun k => ?_) (Ev.now _)
 simp only [r4_Order.l0]
 rw [if_neg (by simp)]
end
section
theorem CopyElems_loop (l : List SElem) (hl : l.length ≤ 1000000000000) : ∀ d i,i + d = l.length → Ev (fun k => r0_CopyElems.l0 k l (l.take i) (i : Int)) l
 | 0,i,h => by
  rw [List.take_of_length_le (by omega)]
  refine Ev.step (f:=fun _ => some l) (fun k => ?_) (Ev.now _)
  simp only [r0_CopyElems.l0]
  rw [if_neg (by omega)]
 | d + 1,i,h => by
  have hlt : i < l.length:=by omega
  have ih:=CopyElems_loop l hl d (i + 1) (by omega)
  rw [List.take_succ_eq_append_getElem hlt] at ih
  refine Ev.step (fun k => ?_) ih
  simp only [r0_CopyElems.l0]
  rw [if_pos (by omega),if_pos (by omega),Qat _ _ hlt,if_pos (by rw [List.length_take]; omega),Qdh hlt (by omega)]
theorem CopyElems_ev (l : List SElem) (hl : l.length ≤ 1000000000000) : Ev (fun k => r0_CopyElems.f k l) l:=CopyElems_loop l hl l.length 0 (Nat.zero_add _)
theorem CopyOp_ev (o : SOp) (hl : o.f5.length ≤ 1000000000000) : Ev (fun k => r0_CopyOp.f k o.f0 o.f1 o.f2 o.f3.f0 o.f3.f1 o.f3.f2 o.f4 o.f5 o.f6 o.f7 o.f8) (o.f0,o.f1,o.f2,o.f3.f0,o.f3.f1,o.f3.f2,o.f4,o.f5,o.f6,o.f7,o.f8) :=
 Ev.bind (f:=fun _ t => some (o.f0,o.f1,o.f2,o.f3.f0,o.f3.f1,o.f3.f2,o.f4,t,o.f6,o.f7,o.f8)) (CopyElems_ev o.f5 hl) (Ev.now _)
theorem CopyOps_loop (l : List SOp) (hl : l.length ≤ 1000000) (hs : ∀ o ∈ l,o.f5.length ≤ 1000000000000) : ∀ d i,i + d = l.length → Ev (fun k => r0_CopyOps.l0 k l (l.take i) (i : Int)) l
 | 0,i,h => by
  rw [List.take_of_length_le (by omega)]
  refine Ev.step (f:=fun _ => some l) (fun k => ?_) (Ev.now _)
  simp only [r0_CopyOps.l0]
  rw [if_neg (by omega)]
 | d + 1,i,h => by
  have hlt : i < l.length:=by omega
  have ih:=CopyOps_loop l hl hs d (i + 1) (by omega)
  rw [List.take_succ_eq_append_getElem hlt] at ih
  have hlen : (l.take i).length < 1256584717458:=by rw [List.length_take]; omega
  refine Ev.step (fun k => by simp only [r0_CopyOps.l0]; rw [if_pos (by omega),if_pos (by omega),Qar _ _ hlt,Qdh hlt (by omega)]) (Ev.bind (CopyOp_ev l[i] (hs _ (List.getElem_mem hlt))) ?_)
  simp only [if_pos hlen]
  exact ih
theorem CopyOps_ev (l : List SOp) (hl : l.length ≤ 1000000) (hs : ∀ o ∈ l,o.f5.length ≤ 1000000000000) : Ev (fun k => r0_CopyOps.f k l) l:=CopyOps_loop l hl hs l.length 0 (Nat.zero_add _)
end
section
theorem Behind_ev (l : List SOp) (hl : l.length ≤ 1000000) (hs : ∀ o ∈ l,o.f5.length ≤ 1000000000000) (o : SOp) (ho : o.f5.length ≤ 1000000000000) : Ev (fun k => r4_Behind.f k l o.f0 o.f1 o.f2 o.f3.f0 o.f3.f1 o.f3.f2 o.f4 o.f5 o.f6 o.f7 o.f8) (l ++ [o]):=by
 have hlen : l.length < 1256584717458:=by omega
 refine Ev.bind (CopyOps_ev l hl hs) (Ev.bind (CopyOp_ev o ho) ?_)
 simp only [if_pos hlen]
 exact Ev.now _
theorem cnt_loop (l : List SOp) (hl : l.length ≤ 1000000) (s q : Int) : ∀ d i,i + d = l.length → ∀ n : Int,0 ≤ n → n ≤ (i : Int) → Ev (fun k => r4_Count.l0 k l s q n (i : Int)) ((l.drop i).foldl (cntStep s q) n)
  | 0,i,h,n,h0,h1 => by
    rw [List.drop_eq_nil_of_le (by omega)]
    refine Ev.step (f:=fun _ => some n) (fun k => ?_) (Ev.now _)
    simp only [r4_Count.l0]
    rw [if_neg (by omega)]
  | d + 1,i,h,n,h0,h1 => by
    have hlt : i < l.length:=by omega
    have ih0:=cnt_loop l hl s q d (i + 1) (by omega) n h0 (by omega)
    have ih1:=cnt_loop l hl s q d (i + 1) (by omega) (n + 1) (by omega) (by omega)
    have hw : wrap64 (n + 1) = n + 1:=Qaj (by omega) (by omega)
    rw [List.drop_eq_getElem_cons hlt,List.foldl_cons]
    unfold cntStep
    unfold cntStep at ih0 ih1
    by_cases h2 : l[i].f2 = 2 <;> by_cases h6 : l[i].f6 = s <;> by_cases h7 : l[i].f7 = q <;> by_cases h8 : l[i].f8 = n <;>
      first
      | (rw [if_pos ⟨h2,h6,h7,h8⟩]
         refine Ev.step (fun k => ?_) ih1
         simp only [r4_Count.l0]
         rw [if_pos (by omega),if_pos (by omega),Qar _ _ hlt,Qdh hlt (by omega),if_pos h2,if_pos h6,if_pos h7,if_pos h8,hw])
      | (rw [if_neg (by simp [h2,h6,h7,h8])]
         refine Ev.step (fun k => ?_) ih0
         simp only [r4_Count.l0]
         rw [if_pos (by omega),if_pos (by omega),Qar _ _ hlt,Qdh hlt (by omega)]
         simp only [h2,h6,h7,h8,if_true,if_false])
theorem CountR_ev (l : List SOp) (hl : l.length ≤ 1000000) (s q : Int) : Ev (fun k => r4_Count.f k l s q) (cntR l s q):=cnt_loop l hl s q l.length 0 (Nat.zero_add _) 0 (Int.le_refl _) (Int.le_refl _)
theorem cntR_pos (s q : Int) : ∀ (l : List SOp) (n : Int),0 ≤ n → 0 ≤ l.foldl (cntStep s q) n
 | [],n,h => h
 | o :: l,n,h => by
  rw [List.foldl_cons]
  refine cntR_pos s q l _ ?_
  unfold cntStep; split <;> omega
theorem EffectiveR_ev (l : List SOp) (hl : l.length ≤ 1000000) (s q : Int) : Ev (fun k => r4_Effective.f k l s q) (cntR l s q % 2 == 0):=by
 refine Ev.bind (f:=fun _ t => some ((Int.tmod t 2) == 0)) (CountR_ev l hl s q) ?_
 have hc : 0 ≤ cntR l s q:=cntR_pos s q l 0 (Int.le_refl _)
 rw [Int.tmod_eq_emod_of_nonneg hc]
 exact Ev.now _
theorem rd_works (l : List SOp) {i : Nat} (hi : i < l.length) : rdOf false (l.map (Qbk l)) (i : Int) = Qbk l l[i]:=by
 unfold rdOf
 rw [Int.toNat_natCast,List.getD_eq_getElem?_getD,List.getElem?_map,List.getElem?_eq_getElem hi]; rfl
def stays (l : List SOp) (e : SElem) (o : SOp) : Bool:=!Qbk l o || !decide (e ∈ o.f5)
theorem Vis_l2 {l : List SOp} (h : RowOk l) (acc all : List SElem) {i : Nat} (hi : i < all.length) (ha : all.length ≤ 1000000) (hacc : acc.length ≤ 1000000) {r : List SElem} : ∀ d j (b : Bool),j + d = l.length →
  Ev (fun k => r4_Visible.l1 k l (l.map (Qbk l)) (if (b && (l.drop j).all (stays l all[i])) = true then acc ++ [all[i]] else acc) all ((i + 1 : Nat) : Int)) r →
  Ev (fun k => r4_Visible.l2 k l (l.map (Qbk l)) acc all (i : Int) b (j : Int)) r
 | 0,j,b,hj,hn => by
  rw [List.drop_eq_nil_of_le (by omega),List.all_nil,Bool.and_true] at hn
  refine Ev.step (fun k => ?_) hn
  simp only [r4_Visible.l2]
  rw [if_neg (by omega)]
  cases b
  ·rw [if_neg (by decide),if_neg (by decide),Qdh hi (by omega)]
  ·rw [if_pos rfl,if_pos (by omega),if_pos (by omega),if_pos (by omega),Qat _ _ hi,if_pos rfl,Qdh hi (by omega)]
 | d + 1,j,b,hj,hn => by
  have hlt : j < l.length:=by omega
  have h40:=h.sums.1
  rw [List.drop_eq_getElem_cons hlt,List.all_cons] at hn
  cases b
  ·simp only [Bool.false_and] at hn
   refine Ev.step (fun k => ?_) hn
   simp only [r4_Visible.l2]
   rw [if_pos (by omega),if_neg (by decide),if_neg (by decide),Qdh hi (by omega)]
  ·simp only [Bool.true_and] at hn
   have hlen : ((l.map (Qbk l)).length : Int) = l.length:=by rw [List.length_map]
   cases hw : Qbk l l[j]
   ·have ih:=Vis_l2 h acc all hi ha hacc (r:=r) d (j + 1) true (by omega) (by
     have : stays l all[i] l[j] = true:=by unfold stays; rw [hw]; rfl
     rw [this,Bool.true_and] at hn
     rw [Bool.true_and]; exact hn)
    refine Ev.step (fun k => ?_) ih
    simp only [r4_Visible.l2]
    rw [if_pos (by omega),if_pos True.intro,if_pos (by omega),if_pos (by omega),rd_works l hlt,hw,if_neg (by decide),Qdh hlt (by omega)]
   ·have hg:=opOk_gone200 (h.oks _ (List.getElem_mem hlt))
    have hA:=At_ev l[j].f5 (by omega) all[i]
    have hs : stays l all[i] l[j] = decide (idxE l[j].f5 all[i] < 0):=by
     unfold stays
     rw [hw,Bool.not_true,Bool.false_or]
     by_cases hm : all[i] ∈ l[j].f5
     ·have:=(idxE_nonneg l[j].f5 all[i]).2 hm
      rw [decide_eq_true hm,decide_eq_false (by omega)]; rfl
     ·have : ¬ 0 ≤ idxE l[j].f5 all[i]:=fun hh => hm ((idxE_nonneg _ _).1 hh)
      rw [decide_eq_false hm,decide_eq_true (by omega)]; rfl
    rw [hs] at hn
    have ih:=Vis_l2 h acc all hi ha hacc (r:=r) d (j + 1) (decide (idxE l[j].f5 all[i] < 0)) (by omega) hn
    refine Ev.step (fun k => ?_) (Ev.bind (f:=fun k t => r4_Visible.l2 k l (l.map (Qbk l)) acc all (i : Int) (decide (t < 0)) ((j + 1 : Nat) : Int)) hA ih)
    simp only [r4_Visible.l2]
    rw [if_pos (by omega),if_pos True.intro,if_pos (by omega),if_pos (by omega),rd_works l hlt,hw,if_pos rfl,if_pos (by omega),if_pos (by omega),Qat _ _ hi,Qar _ _ hlt,Qdh hlt (by omega)]
theorem Vis_l1 {l : List SOp} (hl : SmL l) (h : RowOk l) (all : List SElem) (ha : all.length ≤ 200) (hm : ∀ e ∈ all,e ∈ ordL l) : ∀ d i (acc : List SElem),i + d = all.length → acc.length ≤ i →
  Ev (fun k => r4_Visible.l1 k l (l.map (Qbk l)) acc all (i : Int)) (acc ++ (all.drop i).filter fun e => Qbk l (Qad l (Qbi l e.f0 e.f1)) && l.all (stays l e))
 | 0,i,acc,hi,_ => by
  rw [List.drop_eq_nil_of_le (by omega),List.filter_nil,List.append_nil]
  refine Ev.step (f:=fun _ => some acc) (fun k => ?_) (Ev.now _)
  simp only [r4_Visible.l1]
  rw [if_neg (by omega)]
 | d + 1,i,acc,hi,hacc => by
  have hlt : i < all.length:=by omega
  have h40:=h.sums.1
  obtain ⟨q,hq,ef,_,_⟩:=elem_op h (hm _ (List.getElem_mem hlt))
  rw [List.drop_eq_getElem_cons hlt,List.filter_cons,ef,Qar _ _ hq]
  have ih:=fun a (h' : a.length ≤ i + 1) => Vis_l1 hl h all ha hm d (i + 1) a (by omega) h'
  have h2:=Vis_l2 h acc all hlt (by omega) (by omega) (r:=acc ++ (if (Qbk l l[q] && l.all (stays l all[i])) = true then all[i] :: (all.drop (i + 1)).filter (fun e => Qbk l (Qad l (Qbi l e.f0 e.f1)) && l.all (stays l e)) else (all.drop (i + 1)).filter (fun e => Qbk l (Qad l (Qbi l e.f0 e.f1)) && l.all (stays l e)))) l.length 0 (Qbk l l[q]) (Nat.zero_add _) (by
   rw [List.drop_zero]
   by_cases hc : (Qbk l l[q] && l.all (stays l all[i])) = true
   ·rw [if_pos hc,if_pos hc]
    have:=ih (acc ++ [all[i]]) (by simp; omega)
    rw [List.append_assoc] at this
    exact this
   ·rw [if_neg hc,if_neg hc]
    exact ih acc (by omega))
  have hlen : ((l.map (Qbk l)).length : Int) = l.length:=by rw [List.length_map]
  refine Ev.step (fun k => ?_) (Ev.bind (f:=fun k t => if 0 ≤ t then (if t < ((l.map (Qbk l)).length : Int) then r4_Visible.l2 k l (l.map (Qbk l)) acc all (i : Int) (rdOf false (l.map (Qbk l)) t) 0 else none) else none) (Find_ev l hl.len all[i].f0 all[i].f1) ?_)
  ·simp only [r4_Visible.l1]
   rw [if_pos (by omega),if_pos (by omega),Qat _ _ hlt]
  ·rw [ef,rd_works l hq]
   refine Ev.congr (fun k => ?_) h2
   rw [if_pos (by omega),if_pos (by omega)]
   rfl
theorem Vis_l0 {l : List SOp} (hl : SmL l) (h : RowOk l) : ∀ d i,i + d = l.length → Ev (fun k => r4_Visible.l0 k l ((l.take i).map (Qbk l) ++ List.replicate (l.length - i) false) (i : Int)) (visR l)
 | 0,i,hi => by
  rw [List.take_of_length_le (by omega),show l.length - i = 0 by omega]
  simp only [List.replicate_zero,List.append_nil]
  have hlen : (ordL l).length ≤ 200:=by rw [(Qdd h).2]; exact h.sums.2
  refine Ev.step (fun k => ?_) (Ev.bind (f:=fun k t => r4_Visible.l1 k l (l.map (Qbk l)) ([] : List SElem) t 0) (Order_ev hl h) (Vis_l1 hl h (ordL l) hlen (fun e he => he) _ 0 [] (Nat.zero_add _) (Nat.le_refl _)))
  simp only [r4_Visible.l0]
  rw [if_neg (by omega)]
 | d + 1,i,hi => by
  have hlt : i < l.length:=by omega
  have h40:=h.sums.1
  have ih:=Vis_l0 hl h d (i + 1) (by omega)
  have hset : ∀ b,b = Qbk l l[i] → ((l.take i).map (Qbk l) ++ List.replicate (l.length - i) false).set i b = (l.take (i + 1)).map (Qbk l) ++ List.replicate (l.length - (i + 1)) false:=by
   intro b hb
   have hl : ((l.take i).map (Qbk l)).length = i:=by rw [List.length_map,List.length_take]; omega
   rw [List.set_append,if_neg (by omega),hl,Nat.sub_self,show l.length - i = (l.length - (i + 1)) + 1 by omega,List.replicate_succ,List.set_cons_zero,List.take_succ_eq_append_getElem hlt,List.map_append,hb]
   simp
  have hlen : (((l.take i).map (Qbk l) ++ List.replicate (l.length - i) false).length : Int) = l.length:=by
   rw [List.length_append,List.length_map,List.length_take,List.length_replicate]; omega
  by_cases h1 : l[i].f2 = 1
  ·have hE:=EffectiveR_ev l (by omega) l[i].f0 l[i].f1
   have hw : (cntR l l[i].f0 l[i].f1 % 2 == 0) = Qbk l l[i]:=by unfold Qbk; rw [h1]; rfl
   rw [hw] at hE
   refine Ev.step (fun k => ?_) (Ev.bind (f:=fun k t => if (i : Int) < (((l.take i).map (Qbk l) ++ List.replicate (l.length - i) false).length : Int) then r4_Visible.l0 k l (((l.take i).map (Qbk l) ++ List.replicate (l.length - i) false).set i t) ((i + 1 : Nat) : Int) else none) hE (Ev.congr (fun k => ?_) ih))
   ·simp only [r4_Visible.l0]
    rw [if_pos (by omega),if_pos (by omega),Qar _ _ hlt,if_pos h1,Qdh hlt (by omega),Int.toNat_natCast]
   ·rw [if_pos (by rw [hlen]; omega),hset _ rfl]
  ·refine Ev.step (fun k => ?_) ih
   simp only [r4_Visible.l0]
   rw [if_pos (by omega),if_pos (by omega),Qar _ _ hlt,if_neg h1,if_pos (by rw [hlen]; omega),Qdh hlt (by omega),Int.toNat_natCast,hset _ (by unfold Qbk; simp [h1])]
theorem Visible_ev {l : List SOp} (hl : SmL l) (h : RowOk l) : Ev (fun k => r4_Visible.f k l) (Qbh l):=by
 have h40:=h.sums.1
 rw [seen_vis h]
 have:=Vis_l0 hl h l.length 0 (Nat.zero_add _)
 refine Ev.congr (fun k => ?_) this
 unfold r4_Visible.f
 rw [if_pos (by omega),if_pos (by omega),Int.toNat_natCast]
 simp
end
section
def tiny (o : SOp) : Prop:=o.f4.size ≤ 4000 ∧ o.f5.length ≤ 1000
def Tiny (l : List SOp) : Prop:=∀ o ∈ l,tiny o
theorem OpsWeight_small (l : List SOp) (hl : l.length ≤ 140737488351232) (hs : ∀ o ∈ l,o.f4.size ≤ 140737488351232 ∧ o.f5.length ≤ 140737488351232) : ∀ d i (t : Int),i + d = l.length → 0 ≤ t → t ≤ 200000000000000 →
  ∃ r,Ev (fun k => w0_OpsWeight.l0 k l t (i : Int)) r ∧ t ≤ r ∧ r ≤ 400000000000000 ∧ (r ≤ 900 → ∀ j (hj : j < l.length),i ≤ j → tiny l[j])
 | 0,i,t,h,h0,h1 => ⟨t,Ev.step (f:=fun _ => some t) (fun k => by simp only [w0_OpsWeight.l0]; rw [if_neg (by omega)]) (Ev.now _),Int.le_refl _,by omega,fun _ j hj hij => by omega⟩
 | d + 1,i,t,h,h0,h1 => by
  by_cases ht : t < 1048576
  ·have hlt : i < l.length:=by omega
   have hb:=hs _ (List.getElem_mem hlt)
   have hw : wrap64 (t + (wrap64 ((wrap64 (2 + (wrap64 ((l[i].f4.size : Int) / 4)))) + (l[i].f5.length : Int)))) = t + (2 + (l[i].f4.size : Int) / 4 + (l[i].f5.length : Int)):=by
    rw [Qaj (i:=(l[i].f4.size : Int) / 4) (by omega) (by omega),Qaj (i:=2 + (l[i].f4.size : Int) / 4) (by omega) (by omega),Qaj (i:=2 + (l[i].f4.size : Int) / 4 + (l[i].f5.length : Int)) (by omega) (by omega),Qaj (by omega) (by omega)]
   obtain ⟨r,hr,r1,r2,r3⟩:=OpsWeight_small l hl hs d (i + 1) (t + (2 + (l[i].f4.size : Int) / 4 + (l[i].f5.length : Int))) (by omega) (by omega) (by omega)
   rw [← hw] at hr
   refine ⟨r,Ev.step (fun k => ?_) hr,by omega,r2,fun h9 j hj hij => ?_⟩
   ·simp only [w0_OpsWeight.l0]
    rw [if_pos (by omega),if_pos ht,if_pos (by omega),Qdh hlt (by omega),Qar _ _ hlt]
    rfl
   ·rcases Nat.lt_or_ge i j with hj2 | hj2
    ·exact r3 h9 j hj hj2
    ·obtain rfl : j = i:=by omega
     exact ⟨by omega,by omega⟩
  ·exact ⟨t,Ev.step (f:=fun _ => some t) (fun k => by simp only [w0_OpsWeight.l0]; rw [if_pos (by omega),if_neg ht]) (Ev.now _),Int.le_refl _,by omega,fun h9 => by omega⟩
theorem rd_LOp_nat (l : List (List SOp)) (i : Nat) (h : i < l.length) : Qak l (i : Int) = l[i]:=by unfold Qak; simp [h]
theorem Heavy_lp {l0 : List (List SOp)} {l1 : List SElem} {l2 : List SOp} {l3 : List Int} (hg : GoodAsk l0 l1 l2 l3) : ∀ d i (t : Int),i + d = l0.length → 0 ≤ t → t ≤ 900000000000000 →
  ∃ b,Ev (fun k => w5_Heavy.l0 k t (i : Int) l0 l1 l2 l3) b ∧ (b = false → t ≤ 900 ∧ ∀ j (hj : j < l0.length),i ≤ j → l0[j].length ≤ 900 ∧ Tiny l0[j])
 | 0,i,t,h,h0,h1 => ⟨_,Ev.step (f:=fun _ => some (decide (t > 900))) (fun k => by simp only [w5_Heavy.l0]; rw [if_neg (by omega)]) (Ev.now _),fun hb => ⟨by have:=of_decide_eq_false hb; omega,fun j hj hij => by omega⟩⟩
 | d + 1,i,t,h,h0,h1 => by
  by_cases ht : t < 1048576
  ·have hlt : i < l0.length:=by omega
   have hn:=hg.n0
   have hm:=hg.r0 _ (List.getElem_mem hlt)
   obtain ⟨q,hq,q1,q2,q3⟩:=OpsWeight_small l0[i] hm.1 hm.2 _ 0 (l0[i].length : Int) (Nat.zero_add _) (by omega) (by omega)
   obtain ⟨b,hr,r1⟩:=Heavy_lp hg d (i + 1) (t + q) (by omega) (by omega) (by omega)
   have hw : wrap64 (t + q) = t + q:=Qaj (by omega) (by omega)
   refine ⟨b,Ev.step (fun k => ?_) (Ev.bind (f:=fun k q => w5_Heavy.l0 k (wrap64 (t + q)) ((i + 1 : Nat) : Int) l0 l1 l2 l3) hq (by rw [hw]; exact hr)),fun hb => ?_⟩
   ·simp only [w5_Heavy.l0]
    rw [if_pos (by omega),if_pos ht,if_pos (by omega),Qdh hlt (by omega),rd_LOp_nat _ _ hlt]
    rfl
   ·obtain ⟨k1,k2⟩:=r1 hb
    refine ⟨by omega,fun j hj hij => ?_⟩
    rcases Nat.lt_or_ge i j with hj2 | hj2
    ·exact k2 j hj hj2
    ·obtain rfl : j = i:=by omega
     refine ⟨by omega,fun o ho => ?_⟩
     obtain ⟨z,hz,rfl⟩:=List.getElem_of_mem ho
     exact q3 (by omega) z hz (Nat.zero_le _)
  ·exact ⟨_,Ev.step (f:=fun _ => some (decide (t > 900))) (fun k => by simp only [w5_Heavy.l0]; rw [if_pos (by omega),if_neg ht]) (Ev.now _),fun hb => by have:=of_decide_eq_false hb; omega⟩
theorem Heavy_small2 {l0 : List (List SOp)} {l1 : List SElem} {l2 : List SOp} {l3 : List Int} (hg : GoodAsk l0 l1 l2 l3) : ∃ b,Ev (fun k => w5_Heavy.f k l0 l1 l2 l3) b ∧ (b = false → (∀ x ∈ l0,x.length ≤ 900 ∧ Tiny x) ∧ l1.length ≤ 900 ∧ l3.length ≤ 900):=by
 have n1:=hg.n1
 have n2:=hg.n2
 have n3:=hg.n3
 obtain ⟨q,hq,q1,q2,_⟩:=OpsWeight_small l2 hg.n2 hg.r2 _ 0 (l2.length : Int) (Nat.zero_add _) (by omega) (by omega)
 have hw : wrap64 ((wrap64 ((l1.length : Int) + (l3.length : Int))) + q) = (l1.length : Int) + (l3.length : Int) + q:=by
  rw [Qaj (i:=(l1.length : Int) + (l3.length : Int)) (by omega) (by omega),Qaj (by omega) (by omega)]
 obtain ⟨b,hb,hr⟩:=Heavy_lp hg _ 0 ((l1.length : Int) + (l3.length : Int) + q) (Nat.zero_add _) (by omega) (by omega)
 refine ⟨b,Ev.bind (f:=fun k q => w5_Heavy.l0 k (wrap64 ((wrap64 ((l1.length : Int) + (l3.length : Int))) + q)) 0 l0 l1 l2 l3) hq (by rw [hw]; exact hb),fun h => ?_⟩
 obtain ⟨h1,h2⟩:=hr h
 refine ⟨fun x hx => ?_,by omega,by omega⟩
 obtain ⟨j,hj,rfl⟩:=List.getElem_of_mem hx
 exact h2 j hj (Nat.zero_le _)
theorem Heavy_small {l0 : List (List SOp)} {l1 : List SElem} {l2 : List SOp} {l3 : List Int} (hg : GoodAsk l0 l1 l2 l3) : ∃ b,Ev (fun k => w5_Heavy.f k l0 l1 l2 l3) b ∧ (b = false → ∀ x ∈ l0,x.length ≤ 900 ∧ Tiny x):=by
 obtain ⟨b,hb,h⟩:=Heavy_small2 hg
 exact ⟨b,hb,fun e => (h e).1⟩
end
section
theorem Tiny.smL {l : List SOp} (h : Tiny l) (hn : l.length ≤ 1000) : SmL l:=⟨by omega,fun o ho => by have:=h o ho; unfold tiny at this; unfold Sm2; exact ⟨by omega,by omega⟩⟩
theorem Tiny.smalls {l : List SOp} (h : Tiny l) (hn : l.length ≤ 1000) : smalls l = true:=good_smalls ⟨by omega,fun o ho => by have:=h o ho; unfold tiny at this; exact ⟨by omega,by omega⟩⟩
theorem Tiny.snoc {l : List SOp} (h : Tiny l) {o : SOp} (ho : tiny o) : Tiny (l ++ [o]):=by
 intro x hx
 rcases List.mem_append.1 hx with hx | hx
 ·exact h x hx
 ·rw [List.mem_singleton] at hx; subst hx; exact ho
theorem tmod_in {a : Int} {n : Nat} (h0 : 0 ≤ a) (hn : ¬ (n : Int) = 0) : 0 ≤ Int.tmod a (n : Int) ∧ Int.tmod a (n : Int) < (n : Int):=by
 rw [Int.tmod_eq_emod_of_nonneg h0]
 exact ⟨Int.emod_nonneg _ hn,Int.emod_lt_of_pos _ (by omega)⟩
end
section
theorem tree_Written_f {l : List SOp} (hs : smalls l = true) (a b c : Int) : tree_Written.f l a b c = some (Qcc l ⟨a,b,c⟩):=by
 have hlen : l.length ≤ 9223372036854775807:=by
  unfold smalls at hs; simp only [Bool.and_eq_true,decide_eq_true_eq] at hs; exact hs.1
 unfold tree_Written.f tree_Find.f Qcc
 rw [if_pos hlen,Option.bind_some]
 simp only
 rcases Qbe l a b with ⟨i,hi,_,_,_,e⟩ | ⟨_,e⟩
 ·rw [e,if_pos (by omega)]
  by_cases hc : c ≥ 0
  ·rw [if_pos hc,if_pos (by omega),if_pos (by omega),op_Size_f _ (smalls_at hs hi),Option.bind_some]
   have h1 : decide ((0 : Int) ≤ (i : Int)) = true:=decide_eq_true (by omega)
   have h2 : decide ((0 : Int) ≤ c) = true:=decide_eq_true hc
   rw [h1,h2]; simp
  ·rw [if_neg hc]
   have h2 : decide ((0 : Int) ≤ c) = false:=decide_eq_false (by omega)
   rw [h2]; simp
 ·rw [e,if_neg (by omega)]; simp
end
section
theorem Upto_ok {L : List SOp} (hs : smalls L = true) (h : RowOk L) (e : SElem) : caret_Upto.f L e.f0 e.f1 e.f2 = some (uptoR L e):=by
 unfold caret_Upto.f; exact if_pos ⟨hs,(Qdi L).2 h⟩
theorem asked_ok {L : List SOp} (hs : smalls L = true) (h : RowOk L) (e : SElem) : caret_asked.f L e.f0 e.f1 e.f2 = some (if (Qam e || Qcc L e) = true then 0 else 3):=by
 unfold caret_asked.f
 rw [tree_May_f hs,(Qdi L).2 h,Option.bind_some,if_pos rfl,not_begin]
 cases hb : Qam e
 ·rw [if_pos (by decide),tree_Written_f hs,Option.bind_some,Bool.false_or]
  cases Qcc L e <;> rfl
 ·rw [if_neg (by decide),Bool.true_or]; rfl
theorem Place_ok {L : List SOp} (hs : smalls L = true) (h : RowOk L) (e : SElem) : caret_Place.f L e.f0 e.f1 e.f2 = some (if (Qam e || Qcc L e) = true then (((uptoR L e).length : Int),0) else (0,3)):=by
 unfold caret_Place.f
 rw [asked_ok hs h,Option.bind_some]
 cases Qam e || Qcc L e
 ·rfl
 ·simp only [if_true]
  rw [Upto_ok hs h]; rfl
def Qcv (L : List SOp) (n : Nat) : SElem:=if n = 0 then ⟨0,0,0⟩ else Qaa (Qbh L) ((n - 1 : Nat) : Int)
theorem Set_ok {L : List SOp} (hs : smalls L = true) (h : RowOk L) {n : Nat} (hn : n ≤ (Qbh L).length) : Ev (fun k => caret_Set.f k L (n : Int)) ((Qcv L n).f0,(Qcv L n).f1,(Qcv L n).f2,0):=by
 have h200:=seen_len h
 refine Ev.congr (f:=fun k => caret_Set.j0 k (n : Int) (Qbh L) false) (fun k => ?_) (Ev.step (f:=fun _ => some ((Qcv L n).f0,(Qcv L n).f1,(Qcv L n).f2,0)) (fun k => ?_) (Ev.now _))
 ·unfold caret_Set.f
  rw [tree_May_f hs,(Qdi L).2 h,Option.bind_some,if_pos rfl,doc_Seen_f hs h,Option.bind_some,if_neg (by omega),decide_eq_false (by omega)]
 ·simp only [caret_Set.j0]
  rw [if_neg (by decide)]
  unfold Qcv
  by_cases h0 : n = 0
  ·subst h0; rfl
  ·have w1 : wrap64 ((n : Int) - 1) = ((n - 1 : Nat) : Int):=by rw [Qaj (by omega) (by omega)]; omega
   rw [if_neg (by omega),if_neg h0,w1,if_pos (by omega),if_pos (by omega)]
end
section
theorem wakes11_ev' : Ev (fun k => w11_wakes.f k) true:=Ev.of (w11_wakes.mono) (k:=9) (by decide +kernel)
theorem num11_f' (a : Int) : w11_num.f a = some a:=rfl
def delC (L : List SOp) (s : Int) (q : Nat) : SOp:=⟨s,((Qbj L s + 1 : Nat) : Int),1,⟨0,0,0⟩,(⟨#[]⟩ : ByteArray),[Qaa (Qbh L) (q : Int)],0,0,0⟩
theorem delC_tiny (L : List SOp) (s : Int) (q : Nat) : tiny (delC L s q):=⟨Nat.zero_le _,Nat.le_of_ble_eq_true rfl⟩
theorem noText : ((⟨#[]⟩ : ByteArray).toList != ([] : List UInt8)) = false:=by unfold ByteArray.toList; unfold ByteArray.toList.loop; rfl
theorem noRunes : runesOf (⟨#[]⟩ : ByteArray) = []:=by unfold runesOf; rfl
theorem Replace_ev {L : List SOp} (h : RowOk L) (ht : Tiny L) (s : Int) {q : Nat} (hq : q < (Qbh L).length) :
  (∃ c : Int,c ≠ 0 ∧ Ev (fun k => r4_Replace.f k L s (q : Int) 1 (⟨#[]⟩ : ByteArray)) (0,0,0,0,0,0,(⟨#[]⟩ : ByteArray),([] : List SElem),0,0,0,c)) ∨
  (Ev (fun k => r4_Replace.f k L s (q : Int) 1 (⟨#[]⟩ : ByteArray)) (s,((Qbj L s + 1 : Nat) : Int),1,0,0,0,(⟨#[]⟩ : ByteArray),[Qaa (Qbh L) (q : Int)],0,0,0,0) ∧ RowOk (L ++ [delC L s q])):=by
 have h40:=h.sums.1
 have h200:=seen_len h
 have hsm:=ht.smL (by omega)
 have hc:=countS_le L s
 have hV:=Visible_ev hsm h
 have hRu:=Runes_ev (⟨#[]⟩ : ByteArray) (Nat.zero_le _)
 have hM:=Many_ev L (by omega) s
 have hw : wrap64 ((Qbj L s : Int) + 1) = ((Qbj L s + 1 : Nat) : Int):=by rw [Qaj (by omega) (by omega)]; omega
 have hB:=Behind_ev L (by omega) (fun o ho => by have:=(ht o ho).2; omega) (delC L s q) (Nat.le_of_ble_eq_true rfl)
 have hR:=Row_ev (L ++ [delC L s q]) ((ht.snoc (delC_tiny _ _ _)).smL (by rw [List.length_append,List.length_singleton]; omega))
 have n1 : r0_Num.f (q : Int) ((Qbh L).length : Int) = some true:=by unfold r0_Num.f; rw [if_pos (by omega),decide_eq_true (by omega)]
 have w1 : wrap64 (((Qbh L).length : Int) - (q : Int)) = ((Qbh L).length : Int) - (q : Int):=Qaj (by omega) (by omega)
 have n2 : r0_Num.f 1 (wrap64 (((Qbh L).length : Int) - (q : Int))) = some true:=by unfold r0_Num.f; rw [w1,if_pos (by omega),decide_eq_true (by omega)]
 have w2 : wrap64 ((q : Int) + 1) = ((q + 1 : Nat) : Int):=by rw [Qaj (by omega) (by omega)]; omega
 have hbt : ∃ b,Ev (fun k => r1_Runes.f k (⟨#[]⟩ : ByteArray)) (([] : List Int),b):=by
  cases ht : textOk (⟨#[]⟩ : ByteArray)
  ·rw [ht,if_neg (by decide)] at hRu; exact ⟨_,hRu⟩
  ·rw [ht,if_pos rfl,noRunes] at hRu; exact ⟨_,hRu⟩
 obtain ⟨b,hbt⟩:=hbt
 have hl : ∀ {r},Ev (fun k => (r4_Row.f k (L ++ [delC L s q])).bind fun t394 => (if t394 = true then (some (s,((Qbj L s + 1 : Nat) : Int),(1 : Int),(0 : Int),(0 : Int),(0 : Int),(⟨#[]⟩ : ByteArray),[Qaa (Qbh L) (q : Int)],(0 : Int),(0 : Int),(0 : Int),(0 : Int))) else (some (0,0,0,0,0,0,(⟨#[]⟩ : ByteArray),([] : List (SElem)),0,0,0,6)))) r →
   Ev (fun k => r4_Replace.f k L s (q : Int) 1 (⟨#[]⟩ : ByteArray)) r:=by
  intro r hr
  refine Ev.bind hV (Ev.bind hbt ?_)
  simp only [n1,Option.bind_some,if_true,n2]
  refine Ev.step (fun k => by simp only [r4_Replace.j0]; rw [if_neg (by simp),if_neg (by decide)]) ?_
  refine Ev.step (fun k => by simp only [r4_Replace.j1]; rw [if_neg (by decide)]) (Ev.bind hM ?_)
  simp only [hw,noText,ite_self]
  refine Ev.step (fun k => by simp only [r4_Replace.j2]; rw [if_neg (by decide)]) ?_
  refine Ev.step (fun k => by simp only [r4_Replace.j3]; rfl) ?_
  refine Ev.step (f:=fun k => r4_Replace.l0 k L (q : Int) 1 (Qbh L) ((q + 1 : Nat) : Int) s ((Qbj L s + 1 : Nat) : Int) 1 0 0 0 (⟨#[]⟩ : ByteArray) [Qaa (Qbh L) (q : Int)] 0 0 0) (fun k => ?_) ?_
  ·simp only [r4_Replace.l0]
   rw [w2,if_pos (by omega),if_pos (by omega),if_pos (by omega)]
   rfl
  ·refine Ev.step (f:=fun k => (r4_Behind.f k L s ((Qbj L s + 1 : Nat) : Int) 1 0 0 0 (⟨#[]⟩ : ByteArray) [Qaa (Qbh L) (q : Int)] 0 0 0).bind fun t391 => (r4_Row.f k t391).bind fun t394 => (if t394 = true then (some (s,((Qbj L s + 1 : Nat) : Int),(1 : Int),(0 : Int),(0 : Int),(0 : Int),(⟨#[]⟩ : ByteArray),[Qaa (Qbh L) (q : Int)],(0 : Int),(0 : Int),(0 : Int),(0 : Int))) else (some (0,0,0,0,0,0,(⟨#[]⟩ : ByteArray),([] : List (SElem)),0,0,0,6)))) (fun k => ?_) (Ev.bind (f:=fun k t391 => (r4_Row.f k t391).bind fun t394 => (if t394 = true then (some (s,((Qbj L s + 1 : Nat) : Int),(1 : Int),(0 : Int),(0 : Int),(0 : Int),(⟨#[]⟩ : ByteArray),[Qaa (Qbh L) (q : Int)],(0 : Int),(0 : Int),(0 : Int),(0 : Int))) else (some (0,0,0,0,0,0,(⟨#[]⟩ : ByteArray),([] : List (SElem)),0,0,0,6)))) hB hr)
   simp only [r4_Replace.l0]
   rw [w2,if_neg (by omega)]
 cases hm : mayB (L ++ [delC L s q])
 ·refine .inl ⟨6,by decide,hl ?_⟩
  rw [hm] at hR
  exact Ev.bind hR (Ev.now _)
 ·refine .inr ⟨hl ?_,(Qdi _).1 hm⟩
  rw [hm] at hR
  exact Ev.bind hR (Ev.now _)
theorem del_place {L : List SOp} (h : RowOk L) {s : Int} {q : Nat} (hq : q < (Qbh L).length) (h1 : RowOk (L ++ [delC L s q])) (hs : smalls (L ++ [delC L s q]) = true) {a : Nat} (ha : a ≤ (Qbh L).length) :
  caret_Place.f (L ++ [delC L s q]) (Qcv L a).f0 (Qcv L a).f1 (Qcv L a).f2 = some (((if q < a then a - 1 else a : Nat) : Int),0):=by
 obtain ⟨_,hn⟩:=h1.snoc_inv
 have h0 : Qal (delC L s q) = 0:=by unfold Qal delC; rw [noRunes]; rfl
 have hg : (delC L s q).f5 = [(Qbh L)[q]]:=by unfold delC; rw [Qat _ _ hq]
 rw [Place_ok hs h1]
 unfold Qcv
 by_cases ha0 : a = 0
 ·subst ha0
  rw [if_pos rfl,if_pos (by rfl),upto_none (begin_not h1 (by rfl)),if_neg (by omega)]
  rfl
 ·have hj : a - 1 < (Qbh L).length:=by omega
  rw [if_neg ha0,Qat _ _ hj]
  have hm : Qcc (L ++ [delC L s q]) (Qbh L)[a - 1] = true:=by
   rw [mem_written h1,del_ord hn h0 (by rfl)]
   exact (seen_mem.1 (List.getElem_mem hj)).1
  rw [hm,Bool.or_true,if_pos rfl,del_upto h hn rfl h0 (by rfl) hq hg hj]
  congr 2
  by_cases hqa : q < a
  ·rw [if_pos hqa,if_pos (by omega)]
  ·rw [if_neg hqa,if_neg (by omega)]; omega
section
variable {l0 : List (List SOp)} {l1 : List SElem} {l2 : List SOp} {l3 : List Int}
theorem CD_l2 (x3 : Int) {L : List SOp} (h : RowOk L) (ht : Tiny L) {a : Nat} (ha : a ≤ (Qbh L).length)
  (hnext : Ev (fun k => w11_CaretDeletes.l1 k x3 L (Qbh L) (wrap64 ((a : Int) + 1)) l0 l1 l2 l3) true) : ∀ d q,q + d = (Qbh L).length → Ev (fun k => w11_CaretDeletes.l2 k x3 L (Qbh L) (a : Int) (q : Int) l0 l1 l2 l3 (Qcv L a).f0 (Qcv L a).f1 (Qcv L a).f2) true
 | 0,q,hq => by
  refine Ev.step (f:=fun k => w11_CaretDeletes.j5 k x3 L (Qbh L) (a : Int) (q : Int) false l0 l1 l2 l3 (Qcv L a).f0 (Qcv L a).f1 (Qcv L a).f2) (fun k => ?_) (Ev.step (fun k => ?_) hnext)
  ·simp only [w11_CaretDeletes.l2]; rw [if_neg (by omega)]
  ·simp only [w11_CaretDeletes.j5]; rw [if_neg (by decide)]
 | d + 1,q,hq => by
  have ih:=CD_l2 x3 h ht ha hnext d (q + 1) (by omega)
  have h40:=h.sums.1
  have h200:=seen_len h
  have hlt : q < (Qbh L).length:=by omega
  have hw : wrap64 ((q : Int) + 1) = ((q + 1 : Nat) : Int):=Qdh hlt (by omega)
  by_cases h16 : (q : Int) < 16
  ·refine Ev.step (f:=fun k => w11_CaretDeletes.j5 k x3 L (Qbh L) (a : Int) (q : Int) true l0 l1 l2 l3 (Qcv L a).f0 (Qcv L a).f1 (Qcv L a).f2) (fun k => ?_) ?_
   ·simp only [w11_CaretDeletes.l2]; rw [if_pos (by omega),decide_eq_true h16]
   ·refine Ev.step (fun k => by simp only [w11_CaretDeletes.j5]; rw [if_pos True.intro]) ?_
    generalize wrap64 (1 + (Int.tmod (q : Int) 3)) = s
    rcases Replace_ev h ht s hlt with ⟨c,hc,hE⟩ | ⟨hE,hr1⟩
    ·refine Ev.bind hE ?_
     simp only [if_neg hc,hw]
     exact ih
    ·have hB:=Behind_ev L (by omega) (fun o ho => by have:=(ht o ho).2; omega) (delC L s q) (Nat.le_of_ble_eq_true rfl)
     have hs1:=(ht.snoc (delC_tiny L s q)).smalls (by rw [List.length_append,List.length_singleton]; omega)
     have hP:=del_place h hlt hr1 hs1 ha
     refine Ev.bind hE ?_
     simp only [if_true]
     refine Ev.bind hB ?_
     simp only [hP,Option.bind_some]
     by_cases hqa : q < a
     ·have w1 : wrap64 ((a : Int) - 1) = ((a - 1 : Nat) : Int):=by rw [Qaj (by omega) (by omega)]; omega
      simp only [if_pos (show (q : Int) < (a : Int) by omega),if_pos hqa,w1]
      refine Ev.step (fun k => ?_) ih
      simp only [w11_CaretDeletes.j6,num11_f',Option.bind_some,if_true,hw]
     ·simp only [if_neg (show ¬ (q : Int) < (a : Int) by omega),if_neg hqa]
      refine Ev.step (fun k => ?_) ih
      simp only [w11_CaretDeletes.j6,num11_f',Option.bind_some,if_true,hw]
  ·refine Ev.step (f:=fun k => w11_CaretDeletes.j5 k x3 L (Qbh L) (a : Int) (q : Int) false l0 l1 l2 l3 (Qcv L a).f0 (Qcv L a).f1 (Qcv L a).f2) (fun k => ?_) (Ev.step (fun k => ?_) hnext)
   ·simp only [w11_CaretDeletes.l2]; rw [if_pos (by omega),decide_eq_false h16]
   ·simp only [w11_CaretDeletes.j5]; rw [if_neg (by decide)]
theorem CD_l1 (x3 : Int) {L : List SOp} (h : RowOk L) (ht : Tiny L) (hnext : Ev (fun k => w11_CaretDeletes.l0 k (wrap64 (x3 + 1)) l0 l1 l2 l3) true) : ∀ d a,a + d = (Qbh L).length + 1 → Ev (fun k => w11_CaretDeletes.l1 k x3 L (Qbh L) (a : Int) l0 l1 l2 l3) true
 | 0,a,ha => by
  refine Ev.step (f:=fun k => w11_CaretDeletes.j3 k x3 L (Qbh L) (a : Int) false l0 l1 l2 l3) (fun k => ?_) (Ev.step (fun k => ?_) hnext)
  ·simp only [w11_CaretDeletes.l1]; rw [if_neg (by omega)]
  ·simp only [w11_CaretDeletes.j3]; rw [if_neg (by decide)]
 | d + 1,a,ha => by
  have ih:=CD_l1 x3 h ht hnext d (a + 1) (by omega)
  have h40:=h.sums.1
  have h200:=seen_len h
  have hal : a ≤ (Qbh L).length:=by omega
  have hw : wrap64 ((a : Int) + 1) = ((a + 1 : Nat) : Int):=by rw [Qaj (by omega) (by omega)]; omega
  by_cases h16 : (a : Int) < 16
  ·refine Ev.step (f:=fun k => w11_CaretDeletes.j3 k x3 L (Qbh L) (a : Int) true l0 l1 l2 l3) (fun k => ?_) ?_
   ·simp only [w11_CaretDeletes.l1]; rw [if_pos (by omega),decide_eq_true h16]
   ·refine Ev.step (fun k => by simp only [w11_CaretDeletes.j3]; rw [if_pos True.intro]) (Ev.bind (Set_ok (ht.smalls (by omega)) h hal) ?_)
    simp only [num11_f',Option.bind_some,if_true]
    exact CD_l2 x3 h ht hal (by rw [hw]; exact ih) _ 0 (Nat.zero_add _)
  ·refine Ev.step (f:=fun k => w11_CaretDeletes.j3 k x3 L (Qbh L) (a : Int) false l0 l1 l2 l3) (fun k => ?_) (Ev.step (fun k => ?_) hnext)
   ·simp only [w11_CaretDeletes.l1]; rw [if_pos (by omega),decide_eq_false h16]
   ·simp only [w11_CaretDeletes.j3]; rw [if_neg (by decide)]
theorem CD_end (x : Int) : Ev (fun k => w11_CaretDeletes.j1 k x false l0 l1 l2 l3) true :=
 Ev.step (fun k => by simp only [w11_CaretDeletes.j1]; rw [if_neg (by decide)]) (Ev.bind (f:=fun _ t => some t) wakes11_ev' (Ev.now _))
theorem CD_l0 (hg : GoodAsk l0 l1 l2 l3) (hsm : ∀ x ∈ l0,x.length ≤ 900 ∧ Tiny x) : ∀ d i,i + d = l0.length → Ev (fun k => w11_CaretDeletes.l0 k (i : Int) l0 l1 l2 l3) true
 | 0,i,h => by
  refine Ev.step (fun k => ?_) (CD_end (l0:=l0) (l1:=l1) (l2:=l2) (l3:=l3) (i : Int))
  simp only [w11_CaretDeletes.l0]; rw [if_neg (by omega)]
 | d + 1,i,h => by
  have ih:=CD_l0 hg hsm d (i + 1) (by omega)
  have hn0:=hg.n0
  have hlt : i < l0.length:=by omega
  have hw : wrap64 ((i : Int) + 1) = ((i + 1 : Nat) : Int):=Qdh hlt (by omega)
  by_cases h4 : (i : Int) < 4
  ·obtain ⟨hn,ht⟩:=hsm _ (List.getElem_mem hlt)
   have hR:=Row_ev l0[i] (ht.smL (by omega))
   refine Ev.step (f:=fun k => w11_CaretDeletes.j1 k (i : Int) true l0 l1 l2 l3) (fun k => ?_) ?_
   ·simp only [w11_CaretDeletes.l0]; rw [if_pos (by omega),decide_eq_true h4]
   ·refine Ev.step (fun k => by simp only [w11_CaretDeletes.j1]; rw [if_pos True.intro,if_pos (by omega),if_pos (by omega),rd_LOp_nat _ _ hlt]) (Ev.bind hR ?_)
    cases hm : mayB l0[i]
    ·simp only [Bool.false_eq_true,if_false,hw]
     exact ih
    ·have hr:=(Qdi _).1 hm
     simp only [if_true]
     refine Ev.bind (Visible_ev (ht.smL (by omega)) hr) ?_
     exact CD_l1 (i : Int) hr ht (by rw [hw]; exact ih) _ 0 (Nat.zero_add _)
  ·refine Ev.step (fun k => ?_) (CD_end (l0:=l0) (l1:=l1) (l2:=l2) (l3:=l3) (i : Int))
   simp only [w11_CaretDeletes.l0]; rw [if_pos (by omega),decide_eq_false h4]
end
theorem PureCaretDeletes (l0 : List (List SOp)) (l1 : List SElem) (l2 : List SOp) (l3 : List Int) (hg : GoodAsk l0 l1 l2 l3) : ∃ k,w11_CaretDeletes.f k l0 l1 l2 l3 = some true:=by
 obtain ⟨b,hb,hsm⟩:=Heavy_small hg
 refine Ev.rounds (Ev.bind (f:=fun k t => if t = true then some true else w11_CaretDeletes.l0 k 0 l0 l1 l2 l3) hb ?_)
 cases b
 ·exact Ev.congr (fun k => if_neg (by decide)) (CD_l0 hg (hsm rfl) _ 0 (Nat.zero_add _))
 ·exact Ev.congr (fun k => if_pos rfl) (Ev.now true)
end
end Go.Proofs.YtonoaflfobajcaaDoor.L
end
