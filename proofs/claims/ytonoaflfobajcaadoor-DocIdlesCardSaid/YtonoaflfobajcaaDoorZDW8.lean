/- Part 8 of the proof that for every argument the laws DocWrites, DocGoes, DocUndoes and DocIdles answer true: with more and more that is written, that goes, that is toggled, or that is toggled idly, a row's text and its visible elements are the page's. -/
import Derived.Test.YtonoaflfobajcaaDoorZDW7
section
namespace Go.Proofs.YtonoaflfobajcaaDoor.L
open Go.RowKit Go.Proofs.YtonoaflfobajcaaDoorW.PrintWords Go.Proofs.YtonoaflfobajcaaDoorW.PrintLast Go.Proofs.YtonoaflfobajcaaDoorW.PrintMore
attribute [local go_sem] max2_int min2_int max_two min_two max_three min_three max_four min_four
set_option linter.unusedVariables false
set_option linter.unusedSimpArgs false
attribute [local go_sem high] eqAElem
def r4_Fits.l0 : Nat → List (SOp) → Int → Int → Option (Bool)
 | 0,_,_,_ => none
 | k + 1,x0,x3,x4 => if x4 < (x0.length : Int) then (if x4 ≤ 40 then (if 0 ≤ x4 then ((r4_Runes.f k ((rd_Op x0 x4).f0) ((rd_Op x0 x4).f1) ((rd_Op x0 x4).f2) ((rd_Op x0 x4).f3.f0) ((rd_Op x0 x4).f3.f1) ((rd_Op x0 x4).f3.f2) ((rd_Op x0 x4).f4) ((rd_Op x0 x4).f5) ((rd_Op x0 x4).f6) ((rd_Op x0 x4).f7) ((rd_Op x0 x4).f8)).bind fun t245 => (r4_Fits.l0 k x0 (wrap64 (x3 + t245)) (wrap64 (x4 + 1)))) else (none)) else (if (x0.length : Int) ≤ 40 then (some (decide (x3 ≤ 200))) else (some false))) else (if (x0.length : Int) ≤ 40 then (some (decide (x3 ≤ 200))) else (some false))
def r4_Fits.f (k : Nat) (l0 : List (SOp)) : Option (Bool):=r4_Fits.l0 k l0 0 0
set_option maxHeartbeats 8000000 in
set_option maxRecDepth 100000 in
theorem r4_Fits.calls (k : Nat) (A0 : Option Addr) (c0 : Nat) (l0 : List (SOp)) (r : Bool) (w : World) (hr0 : Kd.C kOp w A0 l0.length l0) (hc0 : l0.length ≤ c0) (hT : GT w) (h : r4_Fits.f k l0 = some r) :
  Calls Tryd.prog 59 #[.slice A0 l0.length c0] w fun e w' => e = .returned (.bool r) ∧ Below w.heap.size w w':=by
 have hu55:=Tryd.underlying55
 have HR0:=Aside0.mk hr0
 have HC0:=Aside0.mk hc0
 clear hr0 hc0
 have HB:=Aside0.mk (Below.refl w.heap.size w)
 unfold r4_Fits.f at h; have H:=h
 clear h
 have H':=Aside0.mk H
 clear H
 go_enter Tryd.func59,Tryd.ntmps59
 go_wp2
 go_loopg [3,4] k (fun kq v3 v4 w' => ∃ (x3_1 : Int) (x4_1 : Int),v3 = .int .i64 x3_1 ∧ v4 = .int .i64 x4_1 ∧ Aside0 (r4_Fits.l0 kq l0 x3_1 x4_1 = some r) ∧ Aside0 (kq ≤ k) ∧ Aside0 (Below w.heap.size w w'))
 case atStart => exact ⟨(0),(0),rf,rf,H',⟨Nat.le_refl _⟩,⟨bw HB⟩⟩
 case round =>
  clear H'
  obtain ⟨x3_1,x4_1,rfl,rfl,HA,HK1,HB⟩:=hrel
  cases gk with
  | zero => exact absurd HA.out (by simp [r4_Fits.l0])
  | succ k1 =>
   have H:=HA.out
   clear HA
   simp only [r4_Fits.l0] at H
   by_cases c2 : x4_1 < (l0.length : Int); rotate_left
   ·rw [if_neg c2] at H
    have c2b0:=decide_eq_false c2
    clear c2
    by_cases c8 : (l0.length : Int) ≤ 40
    ·rw [if_pos c8] at H
     have c8b0:=decide_eq_true c8
     have c8b1 : decide (l0.length ≤ 40) = true:=decide_eq_true (by omega)
     clear c8
     obtain rfl:=Option.some.inj H
     go_wp2
     go_ret
     exact ⟨re,bw HB⟩
    rw [if_neg c8] at H
    have c8b0:=decide_eq_false c8
    have c8b1 : decide (l0.length ≤ 40) = false:=decide_eq_false (by omega)
    clear c8
    obtain rfl:=Option.some.inj H
    go_wp2
    go_ret
    exact ⟨re,bw HB⟩
   rw [if_pos c2] at H
   have c2b0:=decide_eq_true c2
   clear c2
   by_cases c3 : x4_1 ≤ 40; rotate_left
   ·rw [if_neg c3] at H
    have c3b0:=decide_eq_false c3
    clear c3
    by_cases c7 : (l0.length : Int) ≤ 40
    ·rw [if_pos c7] at H
     have c7b0:=decide_eq_true c7
     have c7b1 : decide (l0.length ≤ 40) = true:=decide_eq_true (by omega)
     clear c7
     obtain rfl:=Option.some.inj H
     go_wp2
     go_ret
     exact ⟨re,bw HB⟩
    rw [if_neg c7] at H
    have c7b0:=decide_eq_false c7
    have c7b1 : decide (l0.length ≤ 40) = false:=decide_eq_false (by omega)
    clear c7
    obtain rfl:=Option.some.inj H
    go_wp2
    go_ret
    exact ⟨re,bw HB⟩
   rw [if_pos c3] at H
   have c3b0:=decide_eq_true c3
   clear c3
   by_cases c4 : 0 ≤ x4_1; rotate_left
   ·rw [if_neg c4] at H
    exact absurd H (by simp)
   rw [if_pos c4] at H
   have c4b0:=decide_eq_true c4
   clear c4
   obtain ⟨t245,A5,H⟩:=bE H
   have H':=Aside0.mk H
   clear H
   have p244 : 0 ≤ (x4_1 : Int):=od
   have q244 : x4_1 < (l0.length : Int):=od
   obtain ⟨ad244,A244_7,c244_7,e244,hx244_0,hx244_1,hx244_2,hx244_3,hx244_4,hx244_5,hx244_6,hx244_7,hx244_8,hx244_9,hx244_10,hl244_7,hi244_7⟩:=at_Op HR0.out x4_1 p244 q244
   cases e244
   replace hx244_0:=cl HB hx244_0
   replace hx244_1:=cl HB hx244_1
   replace hx244_2:=cl HB hx244_2
   replace hx244_3:=cl HB hx244_3
   replace hx244_4:=cl HB hx244_4
   replace hx244_5:=cl HB hx244_5
   replace hx244_6:=cl HB hx244_6
   replace hx244_7:=cl HB hx244_7
   replace hx244_8:=cl HB hx244_8
   replace hx244_9:=cl HB hx244_9
   replace hx244_10:=cl HB hx244_10
   have HR244_7:=Aside0.mk hi244_7
   have HC244_7:=Aside0.mk hl244_7
   clear hi244_7 hl244_7
   replace p244:=eq_true p244
   replace q244:=eq_true q244
   go_wp2_with (first | ((with_reducible refine gate_callee (f:=94) rfl ?_); refine gl (some 20) Tryd.func94 #[.agg #[.int .i64 ((rd_Op l0 x4_1).f0), .int .i64 ((rd_Op l0 x4_1).f1), .int .i64 ((rd_Op l0 x4_1).f2), .int .i64 ((rd_Op l0 x4_1).f3.f0), .int .i64 ((rd_Op l0 x4_1).f3.f1), .int .i64 ((rd_Op l0 x4_1).f3.f2), .string ((rd_Op l0 x4_1).f4), .slice A244_7 ((rd_Op l0 x4_1).f5).length c244_7, .int .i64 ((rd_Op l0 x4_1).f6), .int .i64 ((rd_Op l0 x4_1).f7), .int .i64 ((rd_Op l0 x4_1).f8)]] (h := ?_); (with_reducible refine (r4_Runes.calls k1 ((rd_Op l0 x4_1).f0) ((rd_Op l0 x4_1).f1) ((rd_Op l0 x4_1).f2) ((rd_Op l0 x4_1).f3.f0) ((rd_Op l0 x4_1).f3.f1) ((rd_Op l0 x4_1).f3.f2) ((rd_Op l0 x4_1).f4) _ _ ((rd_Op l0 x4_1).f5) ((rd_Op l0 x4_1).f6) ((rd_Op l0 x4_1).f7) ((rd_Op l0 x4_1).f8) t245 _ ?side1 ?side2 ?side3 A5.out).mono ?_); (case side1 => exact cb HR244_7 HB); (case side2 => exact HC244_7.out); (case side3 => exact (hT.below (bw HB))); rintro e w6 ⟨rfl,hb⟩; refine ⟨_,rfl, ?_⟩; replace HB:=bs HB hb; clear hb))
   go_roundg k1
   case measure => have:=HK1.out; omega
   case rel => exact ⟨(wrap64 (x3_1 + t245)),(wrap64 (x4_1 + 1)),rf,rf,H',⟨by have:=HK1.out; omega⟩,⟨bw HB⟩⟩
def r4_Row.l0 : Nat → List (SOp) → Int → Option (Bool)
 | 0,_,_ => none
 | k + 1,x0,x3 => if x3 < (x0.length : Int) then (if 0 ≤ x3 then (if x3 ≤ (x0.length : Int) then ((r4_Goes.f k (x0.take (x3 : Int).toNat) ((rd_Op x0 x3).f0) ((rd_Op x0 x3).f1) ((rd_Op x0 x3).f2) ((rd_Op x0 x3).f3.f0) ((rd_Op x0 x3).f3.f1) ((rd_Op x0 x3).f3.f2) ((rd_Op x0 x3).f4) ((rd_Op x0 x3).f5) ((rd_Op x0 x3).f6) ((rd_Op x0 x3).f7) ((rd_Op x0 x3).f8)).bind fun t251 => (if t251 = true then (r4_Row.l0 k x0 (wrap64 (x3 + 1))) else (some false))) else (none)) else (none)) else ((r4_Fits.f k x0).bind fun t252 => (some t252))
def r4_Row.f (k : Nat) (l0 : List (SOp)) : Option (Bool):=if (l0.length : Int) > 40 then (some false) else (r4_Row.l0 k l0 0)
def r4_Row.T6 : Bool × List (List Nat × List Nat):=(true,[([],[]),([],[]),([0,1],[0,1]),([],[]),([],[]),([3,4],[3,4]),([5],[5]),([2,6],[2,6]),([7],[7])])
def r4_Row.B6 : List Nat:=[0,0,3,0,0,24,56,127,255]
theorem r4_Row.tab6 : rtab .any (opsOf Tryd.f15 6) = r4_Row.T6:=by kernel_rfl
theorem r4_Row.bits6 : waitsOk r4_Row.T6.2 r4_Row.B6 = true:=by kernel_rfl
set_option maxHeartbeats 8000000 in
set_option maxRecDepth 100000 in
theorem r4_Row.calls (k : Nat) (A0 : Option Addr) (c0 : Nat) (l0 : List (SOp)) (r : Bool) (w : World) (hr0 : Kd.C kOp w A0 l0.length l0) (hc0 : l0.length ≤ c0) (hT : GT w) (h : r4_Row.f k l0 = some r) :
  Calls Tryd.prog 15 #[.slice A0 l0.length c0] w fun e w' => e = .returned (.bool r) ∧ Below w.heap.size w w':=by
 have hu55:=Tryd.underlying55
 have HR0:=Aside0.mk hr0
 have HC0:=Aside0.mk hc0
 clear hr0 hc0
 have HB:=Aside0.mk (Below.refl w.heap.size w)
 unfold r4_Row.f at h; have H:=h
 clear h
 by_cases c2 : (l0.length : Int) > 40
 ·rw [if_pos c2] at H
  have c2b0:=decide_eq_true c2
  have c2b1 : decide (40 < l0.length) = true:=decide_eq_true (by omega)
  clear c2
  obtain rfl:=Option.some.inj H
  go_enter Tryd.func15,Tryd.ntmps15
  go_wp2
  go_ret
  exact ⟨re,bw HB⟩
 rw [if_neg c2] at H
 have c2b0:=decide_eq_false c2
 have c2b1 : decide (40 < l0.length) = false:=decide_eq_false (by omega)
 clear c2
 have H':=Aside0.mk H
 clear H
 go_enter Tryd.func15,Tryd.ntmps15
 go_wp2
 go_loopg [3] k (fun kq v3 w' => ∃ (x3_1 : Int),v3 = .int .i64 x3_1 ∧ Aside0 (r4_Row.l0 kq l0 x3_1 = some r) ∧ Aside0 (kq ≤ k) ∧ Aside0 (Below w.heap.size w w'))
 case atStart => exact ⟨(0),rf,H',⟨Nat.le_refl _⟩,⟨bw HB⟩⟩
 case round =>
  clear H'
  try clear c2b0; try clear c2b1
  obtain ⟨x3_1,rfl,HA,HK1,HB⟩:=hrel
  cases gk with
  | zero => exact absurd HA.out (by simp [r4_Row.l0])
  | succ k1 =>
   have H:=HA.out
   clear HA
   simp only [r4_Row.l0] at H
   by_cases c3 : x3_1 < (l0.length : Int); rotate_left
   ·rw [if_neg c3] at H
    have c3b0:=decide_eq_false c3
    clear c3
    obtain ⟨t252,A14,H⟩:=bE H
    obtain rfl:=Option.some.inj H
    go_wp2_with (first | ((with_reducible refine gate_callee (f:=59) rfl ?_); refine gl (some 23) Tryd.func59 #[.slice A0 l0.length c0] (h := ?_); (with_reducible refine (r4_Fits.calls k1 _ _ l0 t252 _ ?side1 ?side2 ?side3 A14.out).mono ?_); (case side1 => exact cb HR0 HB); (case side2 => exact HC0.out); (case side3 => exact (hT.below (bw HB))); rintro e w15 ⟨rfl,hb⟩; refine ⟨_,rfl, ?_⟩; replace HB:=bs HB hb; clear hb))
    go_ret
    exact ⟨re,bw HB⟩
   rw [if_pos c3] at H
   have c3b0:=decide_eq_true c3
   clear c3
   by_cases c4 : 0 ≤ x3_1; rotate_left
   ·rw [if_neg c4] at H
    exact absurd H (by simp)
   rw [if_pos c4] at H
   have c4b0:=eq_true c4
   have c4b1:=decide_eq_true c4
   clear c4
   by_cases c5 : x3_1 ≤ (l0.length : Int); rotate_left
   ·rw [if_neg c5] at H
    exact absurd H (by simp)
   rw [if_pos c5] at H
   have c5b0:=eq_true c5
   have c5b1:=decide_eq_true c5
   clear c5
   obtain ⟨y246,hy246⟩ : ∃ y_ : List (SOp),y_ = (l0.take (x3_1 : Int).toNat):=⟨_,rfl⟩
   first | rw [Option.bind_some,← hy246] at H | rw [← hy246] at H
   have Ny246:=Aside0.mk hy246
   clear hy246
   obtain ⟨t251,A6,H⟩:=bE H
   by_cases c7 : t251 = true
   ·subst c7
    rw [if_pos rfl] at H
    have H':=Aside0.mk H
    clear H
    try go_wp2
    have n0_:=Aside0.mk (below_drew1 HB.out)
    clear HB
    have HB:=n0_
    clear n0_
    have q9 : (x3_1 : Int) ≤ ((l0.length : Int) : Int):=od
    obtain ⟨i09,hi09,_,hsz9,_⟩:=info_parts info55
    have hroom9 : l0.length ≤ c0:=HC0.out
    have hC9 : Kd.C kOp _ A0 l0.length l0:=HR0.out
    have hcut9:=cut_to (P:=Tryd.prog) 24 55 .i64 Tryd.underlying24 hi09 A0 l0.length c0 x3_1 (od) q9 hroom9
    have hr9:=Kd.C_take (m:=(x3_1 : Int).toNat) hC9 (by omega)
    have hy9 : y246.length = (x3_1 : Int).toNat:=(by rw [Ny246.out,List.length_take]; omega)
    rw [← Ny246.out] at hr9
    rw [← hy9] at hcut9
    have HR249:=Aside0.mk hr9
    have HC249:=Aside0.mk (show y246.length ≤ c0 from by omega)
    clear hr9 hC9 hroom9 hi09 hsz9
    have KY9:=Aside0.mk hy9
    clear hy9
    replace q9:=eq_true q9
    have p250 : 0 ≤ (x3_1 : Int):=od
    have q250 : x3_1 < (l0.length : Int):=od
    obtain ⟨ad250,A250_7,c250_7,e250,hx250_0,hx250_1,hx250_2,hx250_3,hx250_4,hx250_5,hx250_6,hx250_7,hx250_8,hx250_9,hx250_10,hl250_7,hi250_7⟩:=at_Op HR0.out x3_1 p250 q250
    have hw250_10:=hx250_10
    have hw250_9:=hx250_9
    have hw250_8:=hx250_8
    have hw250_7:=hx250_7
    have hw250_6:=hx250_6
    have hw250_5:=hx250_5
    have hw250_4:=hx250_4
    have hw250_3:=hx250_3
    have hw250_2:=hx250_2
    have hw250_1:=hx250_1
    have hw250_0:=hx250_0
    cases e250
    replace hx250_0:=cl HB hx250_0
    replace hx250_1:=cl HB hx250_1
    replace hx250_2:=cl HB hx250_2
    replace hx250_3:=cl HB hx250_3
    replace hx250_4:=cl HB hx250_4
    replace hx250_5:=cl HB hx250_5
    replace hx250_6:=cl HB hx250_6
    replace hx250_7:=cl HB hx250_7
    replace hx250_8:=cl HB hx250_8
    replace hx250_9:=cl HB hx250_9
    replace hx250_10:=cl HB hx250_10
    have HR250_7:=Aside0.mk hi250_7
    have HC250_7:=Aside0.mk hl250_7
    clear hi250_7 hl250_7
    replace p250:=eq_true p250
    replace q250:=eq_true q250
    refine stP (fun w' => Q11 w' (ad250.add ((x3_1).toNat * 11)) (rd_Op l0 x3_1) A250_7 c250_7) 9 ⟨(cW HB hw250_0),(cW HB hw250_1),(cW HB hw250_2),(cW HB hw250_3),(cW HB hw250_4),(cW HB hw250_5),(cW HB hw250_6),(cW HB hw250_7),(cW HB hw250_8),(cW HB hw250_9),(cW HB hw250_10)⟩ (h:=fun hHeld => ?_); refine with_tabW r4_Row.tab6 r4_Row.bits6 (fun HT_ HW_ => ?_)
    generalize wr.drew = w8 at HB HR249 HR250_7 hx250_0 hx250_1 hx250_10 hx250_2 hx250_3 hx250_4 hx250_5 hx250_6 hx250_7 hx250_8 hx250_9 hHeld ⊢
    refine pu HT_ 0 13 1 (h := ?_)
    refine pu HT_ 1 14 3 (h := ?_)
    refine pu HT_ 2 15 7 (h := ?_)
    refine pu HT_ 3 16 15 (h := ?_)
    refine pu HT_ 4 17 31 (h := ?_)
    refine pu HT_ 5 18 63 (h := ?_)
    refine tk HT_ HW_ hHeld 6 19 127 (h := ?_)
    refine on HT_ 7 (some 20) 255 (h:=fun K hK => ?_)
    refine gS Tryd.func58 #[.slice (some ad250) y246.length c0, .agg #[.int .i64 ((rd_Op l0 x3_1).f0), .int .i64 ((rd_Op l0 x3_1).f1), .int .i64 ((rd_Op l0 x3_1).f2), .int .i64 ((rd_Op l0 x3_1).f3.f0), .int .i64 ((rd_Op l0 x3_1).f3.f1), .int .i64 ((rd_Op l0 x3_1).f3.f2), .string ((rd_Op l0 x3_1).f4), .slice A250_7 ((rd_Op l0 x3_1).f5).length c250_7, .int .i64 ((rd_Op l0 x3_1).f6), .int .i64 ((rd_Op l0 x3_1).f7), .int .i64 ((rd_Op l0 x3_1).f8)]] (h := ?_)
    with_reducible refine (r4_Goes.calls k1 _ _ y246 ((rd_Op l0 x3_1).f0) ((rd_Op l0 x3_1).f1) ((rd_Op l0 x3_1).f2) ((rd_Op l0 x3_1).f3.f0) ((rd_Op l0 x3_1).f3.f1) ((rd_Op l0 x3_1).f3.f2) ((rd_Op l0 x3_1).f4) _ _ ((rd_Op l0 x3_1).f5) ((rd_Op l0 x3_1).f6) ((rd_Op l0 x3_1).f7) ((rd_Op l0 x3_1).f8) true _ ?side1 ?side2 ?side3 ?side4 ?side5 A6.out).mono ?_
    (case side1 => exact cb HR249 HB)
    (case side2 => exact HC249.out)
    (case side3 => exact cb HR250_7 HB)
    (case side4 => exact HC250_7.out)
    (case side5 => exact (hT.below (bw HB)))
    rintro e w10 ⟨rfl,hb⟩
    refine ⟨_,rfl, ?_⟩
    have n0_:=bs HB hb
    clear HB
    have HB:=n0_
    clear n0_
    (try clear hb)
    (try clear hb2)
    (try clear hk)
    (try clear hi)
    refine hK.out _ _ ⟨(cW HB hw250_0),(cW HB hw250_1),(cW HB hw250_2),(cW HB hw250_3),(cW HB hw250_4),(cW HB hw250_5),(cW HB hw250_6),(cW HB hw250_7),(cW HB hw250_8),(cW HB hw250_9),(cW HB hw250_10)⟩ (fun hHeld => ?_)
    clear hK K
    refine nn 20 (h := ?_)
    refine pu HT_ 8 21 511 (h := ?_)
    refine dn HT_ (h := ?_)
    try go_wp2
    go_roundg k1
    case measure => have:=HK1.out; omega
    case rel => exact ⟨(wrap64 (x3_1 + 1)),rf,H',⟨by have:=HK1.out; omega⟩,⟨bw HB⟩⟩
   replace c7:=Bool.eq_false_iff.mpr c7
   subst c7
   rw [if_neg nft] at H
   obtain rfl:=Option.some.inj H
   try go_wp2
   have n0_:=Aside0.mk (below_drew1 HB.out)
   clear HB
   have HB:=n0_
   clear n0_
   have q12 : (x3_1 : Int) ≤ ((l0.length : Int) : Int):=od
   obtain ⟨i012,hi012,_,hsz12,_⟩:=info_parts info55
   have hroom12 : l0.length ≤ c0:=HC0.out
   have hC12 : Kd.C kOp _ A0 l0.length l0:=HR0.out
   have hcut12:=cut_to (P:=Tryd.prog) 24 55 .i64 Tryd.underlying24 hi012 A0 l0.length c0 x3_1 (od) q12 hroom12
   have hr12:=Kd.C_take (m:=(x3_1 : Int).toNat) hC12 (by omega)
   have hy12 : y246.length = (x3_1 : Int).toNat:=(by rw [Ny246.out,List.length_take]; omega)
   rw [← Ny246.out] at hr12
   rw [← hy12] at hcut12
   have HR249:=Aside0.mk hr12
   have HC249:=Aside0.mk (show y246.length ≤ c0 from by omega)
   clear hr12 hC12 hroom12 hi012 hsz12
   have KY12:=Aside0.mk hy12
   clear hy12
   replace q12:=eq_true q12
   have p250 : 0 ≤ (x3_1 : Int):=od
   have q250 : x3_1 < (l0.length : Int):=od
   obtain ⟨ad250,A250_7,c250_7,e250,hx250_0,hx250_1,hx250_2,hx250_3,hx250_4,hx250_5,hx250_6,hx250_7,hx250_8,hx250_9,hx250_10,hl250_7,hi250_7⟩:=at_Op HR0.out x3_1 p250 q250
   have hw250_10:=hx250_10
   have hw250_9:=hx250_9
   have hw250_8:=hx250_8
   have hw250_7:=hx250_7
   have hw250_6:=hx250_6
   have hw250_5:=hx250_5
   have hw250_4:=hx250_4
   have hw250_3:=hx250_3
   have hw250_2:=hx250_2
   have hw250_1:=hx250_1
   have hw250_0:=hx250_0
   cases e250
   replace hx250_0:=cl HB hx250_0
   replace hx250_1:=cl HB hx250_1
   replace hx250_2:=cl HB hx250_2
   replace hx250_3:=cl HB hx250_3
   replace hx250_4:=cl HB hx250_4
   replace hx250_5:=cl HB hx250_5
   replace hx250_6:=cl HB hx250_6
   replace hx250_7:=cl HB hx250_7
   replace hx250_8:=cl HB hx250_8
   replace hx250_9:=cl HB hx250_9
   replace hx250_10:=cl HB hx250_10
   have HR250_7:=Aside0.mk hi250_7
   have HC250_7:=Aside0.mk hl250_7
   clear hi250_7 hl250_7
   replace p250:=eq_true p250
   replace q250:=eq_true q250
   refine stP (fun w' => Q11 w' (ad250.add ((x3_1).toNat * 11)) (rd_Op l0 x3_1) A250_7 c250_7) 9 ⟨(cW HB hw250_0),(cW HB hw250_1),(cW HB hw250_2),(cW HB hw250_3),(cW HB hw250_4),(cW HB hw250_5),(cW HB hw250_6),(cW HB hw250_7),(cW HB hw250_8),(cW HB hw250_9),(cW HB hw250_10)⟩ (h:=fun hHeld => ?_); refine with_tabW r4_Row.tab6 r4_Row.bits6 (fun HT_ HW_ => ?_)
   generalize wr.drew = w11 at HB HR249 HR250_7 hx250_0 hx250_1 hx250_10 hx250_2 hx250_3 hx250_4 hx250_5 hx250_6 hx250_7 hx250_8 hx250_9 hHeld ⊢
   refine pu HT_ 0 13 1 (h := ?_)
   refine pu HT_ 1 14 3 (h := ?_)
   refine pu HT_ 2 15 7 (h := ?_)
   refine pu HT_ 3 16 15 (h := ?_)
   refine pu HT_ 4 17 31 (h := ?_)
   refine pu HT_ 5 18 63 (h := ?_)
   refine tk HT_ HW_ hHeld 6 19 127 (h := ?_)
   refine on HT_ 7 (some 20) 255 (h:=fun K hK => ?_)
   refine gS Tryd.func58 #[.slice (some ad250) y246.length c0, .agg #[.int .i64 ((rd_Op l0 x3_1).f0), .int .i64 ((rd_Op l0 x3_1).f1), .int .i64 ((rd_Op l0 x3_1).f2), .int .i64 ((rd_Op l0 x3_1).f3.f0), .int .i64 ((rd_Op l0 x3_1).f3.f1), .int .i64 ((rd_Op l0 x3_1).f3.f2), .string ((rd_Op l0 x3_1).f4), .slice A250_7 ((rd_Op l0 x3_1).f5).length c250_7, .int .i64 ((rd_Op l0 x3_1).f6), .int .i64 ((rd_Op l0 x3_1).f7), .int .i64 ((rd_Op l0 x3_1).f8)]] (h := ?_)
   with_reducible refine (r4_Goes.calls k1 _ _ y246 ((rd_Op l0 x3_1).f0) ((rd_Op l0 x3_1).f1) ((rd_Op l0 x3_1).f2) ((rd_Op l0 x3_1).f3.f0) ((rd_Op l0 x3_1).f3.f1) ((rd_Op l0 x3_1).f3.f2) ((rd_Op l0 x3_1).f4) _ _ ((rd_Op l0 x3_1).f5) ((rd_Op l0 x3_1).f6) ((rd_Op l0 x3_1).f7) ((rd_Op l0 x3_1).f8) false _ ?side1 ?side2 ?side3 ?side4 ?side5 A6.out).mono ?_
   (case side1 => exact cb HR249 HB)
   (case side2 => exact HC249.out)
   (case side3 => exact cb HR250_7 HB)
   (case side4 => exact HC250_7.out)
   (case side5 => exact (hT.below (bw HB)))
   rintro e w13 ⟨rfl,hb⟩
   refine ⟨_,rfl, ?_⟩
   have n0_:=bs HB hb
   clear HB
   have HB:=n0_
   clear n0_
   (try clear hb)
   (try clear hb2)
   (try clear hk)
   (try clear hi)
   refine hK.out _ _ ⟨(cW HB hw250_0),(cW HB hw250_1),(cW HB hw250_2),(cW HB hw250_3),(cW HB hw250_4),(cW HB hw250_5),(cW HB hw250_6),(cW HB hw250_7),(cW HB hw250_8),(cW HB hw250_9),(cW HB hw250_10)⟩ (fun hHeld => ?_)
   clear hK K
   refine nn 20 (h := ?_)
   refine pu HT_ 8 21 511 (h := ?_)
   refine dn HT_ (h := ?_)
   try go_wp2
   go_ret
   exact ⟨re,bw HB⟩
def r0_EqElems.l0 : Nat → List (SElem) → List (SElem) → Int → Option (Bool)
 | 0,_,_,_ => none
 | k + 1,x0,x1,x5 => if x5 < (x0.length : Int) then (if 0 ≤ x5 then (if x5 < (x1.length : Int) then (if (!(((rd_Elem x0 x5).f0) == ((rd_Elem x1 x5).f0)) || (!(((rd_Elem x0 x5).f1) == ((rd_Elem x1 x5).f1)) || (!(((rd_Elem x0 x5).f2) == ((rd_Elem x1 x5).f2))))) = true then (some false) else (r0_EqElems.l0 k x0 x1 (wrap64 (x5 + 1)))) else (none)) else (none)) else (some true)
def r0_EqElems.f (k : Nat) (l0 : List (SElem)) (l1 : List (SElem)) : Option (Bool):=if (l0.length : Int) = (l1.length : Int) then (r0_EqElems.l0 k l0 l1 0) else (some false)
set_option maxHeartbeats 8000000 in
set_option maxRecDepth 100000 in
theorem r0_EqElems.calls (k : Nat) (A0 : Option Addr) (c0 : Nat) (l0 : List (SElem)) (A1 : Option Addr) (c1 : Nat) (l1 : List (SElem)) (r : Bool) (w : World) (hr0 : Kd.C kElem w A0 l0.length l0) (hc0 : l0.length ≤ c0) (hr1 : Kd.C kElem w A1 l1.length l1) (hc1 : l1.length ≤ c1) (h : r0_EqElems.f k l0 l1 = some r) :
  Calls Tryd.prog 20 #[.slice A0 l0.length c0, .slice A1 l1.length c1] w fun e w' => e = .returned (.bool r) ∧ Drawn0 w w':=by
 have hu43:=Tryd.underlying43
 have HR0:=Aside0.mk hr0
 have HC0:=Aside0.mk hc0
 clear hr0 hc0
 have HR1:=Aside0.mk hr1
 have HC1:=Aside0.mk hc1
 clear hr1 hc1
 unfold r0_EqElems.f at h; have H:=h
 clear h
 by_cases c3 : (l0.length : Int) = (l1.length : Int); rotate_left
 ·rw [if_neg c3] at H
  obtain ⟨c3b0,c3b1⟩:=bF c3
  have c3b2 : (l0.length == l1.length) = false:=by first | simpa using c3 | (simp at c3 ⊢; omega)
  obtain rfl:=Option.some.inj H
  go_enter Tryd.func20,Tryd.ntmps20
  go_wp2
  repeat (go_quiet (fail); try go_wp2)
  go_ret
  exact ⟨rf,by repeat (first | exact Drawn0.refl _ | apply Drawn0.step)⟩
 rw [if_pos c3] at H
 obtain ⟨c3b0,c3b1⟩:=bT c3
 have c3b2 : (l0.length == l1.length) = true:=by first | simpa using c3 | (simp at c3 ⊢; omega)
 clear c3
 have H':=Aside0.mk H
 clear H
 go_enter Tryd.func20,Tryd.ntmps20
 go_wp2
 repeat (go_quiet (fail); try go_wp2)
 go_loopg [5] k (fun kq v5 w' => ∃ (x5_1 : Int),v5 = .int .i64 x5_1 ∧ Aside0 (r0_EqElems.l0 kq l0 l1 x5_1 = some r) ∧ Aside0 (kq ≤ k) ∧ Drawn0 w w')
 case atStart => exact ⟨(0),rf,H',⟨Nat.le_refl _⟩,by repeat (first | exact Drawn0.refl _ | apply Drawn0.step)⟩
 case round =>
  clear H'
  try clear c1; try clear c3b0; try clear c3b1; try clear c3b2
  obtain ⟨x5_1,rfl,HA,HK1,⟨m1,rfl⟩⟩:=hrel
  cases gk with
  | zero => exact absurd HA.out (by simp [r0_EqElems.l0])
  | succ k1 =>
   have H:=HA.out
   clear HA
   simp only [r0_EqElems.l0] at H
   by_cases c4 : x5_1 < (l0.length : Int); rotate_left
   ·rw [if_neg c4] at H
    have c4b0:=decide_eq_false c4
    clear c4
    obtain rfl:=Option.some.inj H
    go_wp2
    repeat (go_quiet (fail); try go_wp2)
    go_ret
    exact ⟨rf,by repeat (first | exact Drawn0.refl _ | apply Drawn0.step)⟩
   rw [if_pos c4] at H
   have c4b0:=decide_eq_true c4
   clear c4
   by_cases c5 : 0 ≤ x5_1; rotate_left
   ·rw [if_neg c5] at H
    exact absurd H (by simp)
   rw [if_pos c5] at H
   have c5b0:=decide_eq_true c5
   clear c5
   by_cases c6 : x5_1 < (l1.length : Int); rotate_left
   ·rw [if_neg c6] at H
    exact absurd H (by simp)
   rw [if_pos c6] at H
   have c6b0:=decide_eq_true c6
   clear c6
   by_cases c7 : (!(((rd_Elem l0 x5_1).f0) == ((rd_Elem l1 x5_1).f0)) || (!(((rd_Elem l0 x5_1).f1) == ((rd_Elem l1 x5_1).f1)) || (!(((rd_Elem l0 x5_1).f2) == ((rd_Elem l1 x5_1).f2))))) = true
   ·rw [if_pos c7] at H
    have c7b0 : (!(((rd_Elem l0 x5_1).f0) == ((rd_Elem l1 x5_1).f0)) || (!(((rd_Elem l0 x5_1).f1) == ((rd_Elem l1 x5_1).f1)) || (!(((rd_Elem l0 x5_1).f2) == ((rd_Elem l1 x5_1).f2))))) = true:=c7
    clear c7
    obtain rfl:=Option.some.inj H
    have p253 : 0 ≤ (x5_1 : Int):=od
    have q253 : x5_1 < (l0.length : Int):=od
    obtain ⟨ad253,e253,hx253_0,hx253_1,hx253_2⟩:=at_Elem HR0.out x5_1 p253 q253
    cases e253
    replace p253:=eq_true p253
    replace q253:=eq_true q253
    have p254 : 0 ≤ (x5_1 : Int):=od
    have q254 : x5_1 < (l1.length : Int):=od
    obtain ⟨ad254,e254,hx254_0,hx254_1,hx254_2⟩:=at_Elem HR1.out x5_1 p254 q254
    cases e254
    replace p254:=eq_true p254
    replace q254:=eq_true q254
    go_wp2
    repeat (go_quiet (fail); try go_wp2)
    go_ret
    exact ⟨rf,by repeat (first | exact Drawn0.refl _ | apply Drawn0.step)⟩
   rw [if_neg c7] at H
   have c7b0 : (!(((rd_Elem l0 x5_1).f0) == ((rd_Elem l1 x5_1).f0)) || (!(((rd_Elem l0 x5_1).f1) == ((rd_Elem l1 x5_1).f1)) || (!(((rd_Elem l0 x5_1).f2) == ((rd_Elem l1 x5_1).f2))))) = false:=by simpa using c7
   clear c7
   have H':=Aside0.mk H
   clear H
   have p253 : 0 ≤ (x5_1 : Int):=od
   have q253 : x5_1 < (l0.length : Int):=od
   obtain ⟨ad253,e253,hx253_0,hx253_1,hx253_2⟩:=at_Elem HR0.out x5_1 p253 q253
   cases e253
   replace p253:=eq_true p253
   replace q253:=eq_true q253
   have p254 : 0 ≤ (x5_1 : Int):=od
   have q254 : x5_1 < (l1.length : Int):=od
   obtain ⟨ad254,e254,hx254_0,hx254_1,hx254_2⟩:=at_Elem HR1.out x5_1 p254 q254
   cases e254
   replace p254:=eq_true p254
   replace q254:=eq_true q254
   go_wp2
   repeat (go_quiet (fail); try go_wp2)
   go_roundg k1
   case measure => have:=HK1.out; omega
   case rel => exact ⟨(wrap64 (x5_1 + 1)),rf,H',⟨by have:=HK1.out; omega⟩,by repeat (first | exact Drawn0.refl _ | apply Drawn0.step)⟩
end Go.Proofs.YtonoaflfobajcaaDoor.L
end

section
namespace Go.Proofs.YtonoaflfobajcaaDoor.L
open Go.RowKit Go.Proofs.YtonoaflfobajcaaDoorW.PrintWords Go.Proofs.YtonoaflfobajcaaDoorW.PrintLast Go.Proofs.YtonoaflfobajcaaDoorW.PrintMore
attribute [local go_sem] max2_int min2_int max_two min_two max_three min_three max_four min_four
set_option linter.unusedVariables false
set_option linter.unusedSimpArgs false
attribute [local go_sem high] eqAElem
def r4_Under.l0 : Nat → List (SOp) → List (SElem) → Int → Int → Int → Int → Option ((List (SElem)))
 | 0,_,_,_,_,_,_ => none
 | k + 1,x0,x5,x6,x256000,x256001,x256002 => if x6 ≥ 0 then (if 0 ≤ x6 then (if x6 < (x0.length : Int) then (if ((rd_Op x0 x6).f4).toList = ([] : List UInt8) then (r4_Under.l0 k x0 x5 (wrap64 (x6 - 1)) x256000 x256001 x256002) else (if (((rd_Op x0 x6).f3.f0) == x256000 && (((rd_Op x0 x6).f3.f1) == x256001 && (((rd_Op x0 x6).f3.f2) == x256002))) = true then (if x5.length < 5864062014805 then (r4_Under.l0 k x0 (x5 ++ [(⟨(rd_Op x0 x6).f0,(rd_Op x0 x6).f1,0⟩ : SElem)]) (wrap64 (x6 - 1)) x256000 x256001 x256002) else (none)) else (r4_Under.l0 k x0 x5 (wrap64 (x6 - 1)) x256000 x256001 x256002))) else (none)) else (none)) else ((r4_Begin.f x256000 x256001 x256002).bind fun t263 => (if t263 = true then (some x5) else ((r4_written.f k x0 x256000 x256001 (wrap64 (x256002 + 1))).bind fun t265 => (if t265 = true then (if x5.length < 5864062014805 then (some (x5 ++ [(⟨x256000,x256001,wrap64 (x256002 + 1)⟩ : SElem)])) else (none)) else (some x5)))))
def r4_Under.f (k : Nat) (l0 : List (SOp)) (a1_0 : Int) (a1_1 : Int) (a1_2 : Int) : Option ((List (SElem))):=r4_Under.l0 k l0 ([] : List (SElem)) (wrap64 ((l0.length : Int) - 1)) a1_0 a1_1 a1_2
def r4_Under.T5 : Bool × List (List Nat × List Nat):=(true,[([],[]),([],[]),([0,1],[0,1]),([2],[2]),([3],[3]),([4],[4]),([5],[5]),([6],[6]),([6],[6]),([7,8,6],[6,7,8]),([9,6],[6,9]),([10,6],[6,10]),([6],[6]),([11,12,6],[6,11,12]),([6,13],[6,13])])
def r4_Under.B5 : List Nat:=[0,0,3,7,15,31,63,127,127,511,1023,2047,127,8191,16383]
theorem r4_Under.tab5 : rtab .any (opsOf Tryd.f26 5) = r4_Under.T5:=by kernel_rfl
theorem r4_Under.bits5 : waitsOk r4_Under.T5.2 r4_Under.B5 = true:=by kernel_rfl
def r4_Under.T6 : Bool × List (List Nat × List Nat):=(true,[([],[]),([],[]),([],[]),([1,2],[1,2]),([3],[3]),([4],[4]),([],[]),([],[]),([6,7],[6,7]),([8],[8]),([9],[9]),([5,10],[5,10]),([11],[11]),([0,12],[0,12]),([13,13,0,1,2,3,4,5,6,7,8,9,10,11,12,13],[0,13])])
def r4_Under.B6 : List Nat:=[0,0,0,6,14,30,0,0,192,448,960,2046,4094,8191,16383]
theorem r4_Under.tab6 : rtab .any (opsOf Tryd.f26 6) = r4_Under.T6:=by kernel_rfl
theorem r4_Under.bits6 : waitsOk r4_Under.T6.2 r4_Under.B6 = true:=by kernel_rfl
set_option maxHeartbeats 8000000 in
set_option maxRecDepth 100000 in
theorem r4_Under.calls (k : Nat) (A0 : Option Addr) (c0 : Nat) (l0 : List (SOp)) (a1_0 : Int) (a1_1 : Int) (a1_2 : Int) (r : List (SElem)) (w : World) (hr0 : Kd.C kOp w A0 l0.length l0) (hc0 : l0.length ≤ c0) (hT : GT w) (h : r4_Under.f k l0 a1_0 a1_1 a1_2 = some r) :
  Calls Tryd.prog 26 #[.slice A0 l0.length c0, .agg #[.int .i64 a1_0, .int .i64 a1_1, .int .i64 a1_2]] w fun e w' => ∃ v0_ : Value,e = .returned (v0_) ∧ Kd.R kElem 43 w' w.heap.size (fun _ => True) v0_ r ∧ Below w.heap.size w w':=by
 have hu43:=Tryd.underlying43
 have HR0:=Aside0.mk hr0
 have HC0:=Aside0.mk hc0
 clear hr0 hc0
 have HB:=Aside0.mk (Below.refl w.heap.size w)
 unfold r4_Under.f at h; have H:=h
 clear h
 have H':=Aside0.mk H
 clear H
 go_enter Tryd.func26,Tryd.ntmps26
 go_wp2_with (first | ((with_reducible refine gate_dst (N:=3) rfl ?_); refine bx 3 #[.int .i64 a1_0, .int .i64 a1_1, .int .i64 a1_2] 43 (h := ?_); intro gb255 hg w3 hbox hb; have BK255:=Aside0.mk (hbox); have GW255:=bz HB hg; have GE255:=bz HB hg; replace HB:=bs HB hb; clear hb hbox hg))
 go_loopg [5,6] k (fun kq v5 v6 w' => ∃ (x5_1 : List (SElem)) (x6_1 : Int),v6 = .int .i64 x6_1 ∧ Aside0 (r4_Under.l0 kq l0 x5_1 x6_1 a1_0 a1_1 a1_2 = some r) ∧ Aside0 (kq ≤ k) ∧ Aside0 (Kd.R kElem 43 w' w.heap.size (fun k_ => k_ ≠ gb255) v5 x5_1) ∧ Aside0 (w'.heap[gb255]? = some (.cells #[.int .i64 a1_0, .int .i64 a1_1, .int .i64 a1_2] 43 (0,0))) ∧ Aside0 (Below w.heap.size w w'))
 case atStart => exact ⟨(([] : List (SElem))),(wrap64 ((l0.length : Int) - 1)),rf,H',⟨Nat.le_refl _⟩,⟨by first | exact Kd.R_nil _ _ _ _ _ | exact Kd.N_nil _ _ _ _ _ | exact Kd.V_nil _ _ _ _ _ | exact Kd.Q_nil _ _ _ _ _ | exact Kd.S_nil _ _ _ _ _⟩,⟨kk BK255⟩,⟨bw HB⟩⟩
 case round =>
  clear H'
  obtain ⟨x5_1,x6_1,rfl,HA,HK1,HO_5,BK255,HB⟩:=hrel
  cases gk with
  | zero => exact absurd HA.out (by simp [r4_Under.l0])
  | succ k1 =>
   have H:=HA.out
   clear HA
   simp only [r4_Under.l0] at H
   by_cases c4 : x6_1 ≥ 0; rotate_left
   ·rw [if_neg c4] at H
    have c4b0:=decide_eq_false c4
    clear c4
    obtain ⟨t263,A15,H⟩:=bE H
    by_cases c16 : t263 = true
    ·subst c16
     rw [if_pos rfl] at H
     obtain rfl:=Option.some.inj H
     obtain ⟨_,_,_,_,_,_⟩:=kc3 BK255
     go_wp2_with (first | ((with_reducible refine gate_callee (f:=62) rfl ?_); refine gl (some 45) Tryd.func62 #[.agg #[.int .i64 a1_0, .int .i64 a1_1, .int .i64 a1_2]] (h := ?_); (with_reducible refine (r4_Begin.calls a1_0 a1_1 a1_2 true _ A15.out).mono ?_); rintro e w18 ⟨rfl,hb⟩; refine ⟨_,rfl, ?_⟩; replace HO_5:=rb HO_5 hb; replace BK255:=bl BK255 hb; replace HB:=bs HB hb; clear hb))
     go_ret
     exact ⟨_,re,by (with_reducible repeat (first | apply Kd.R_alloc | apply Kd.R_drewN | apply Kd.R_drew)); exact Kd.R_mono HO_5.out (fun _ hk => trivial),bw HB⟩
    replace c16:=Bool.eq_false_iff.mpr c16
    subst c16
    rw [if_neg nft] at H
    obtain ⟨t265,A19,H⟩:=bE H
    by_cases c20 : t265 = true; rotate_left
    ·replace c20:=Bool.eq_false_iff.mpr c20
     subst c20
     rw [if_neg nft] at H
     obtain rfl:=Option.some.inj H
     obtain ⟨_,_,_,_,_,_⟩:=kc3 BK255
     go_wp2_with (first | ((with_reducible refine gate_callee (f:=62) rfl ?_); refine gl (some 45) Tryd.func62 #[.agg #[.int .i64 a1_0, .int .i64 a1_1, .int .i64 a1_2]] (h := ?_); (with_reducible refine (r4_Begin.calls a1_0 a1_1 a1_2 false _ A15.out).mono ?_); rintro e w32 ⟨rfl,hb⟩; refine ⟨_,rfl, ?_⟩; replace HO_5:=rb HO_5 hb; replace BK255:=bl BK255 hb; replace HB:=bs HB hb; clear hb; obtain ⟨_,_,_,_,_,_⟩:=kc3 BK255) | ((with_reducible refine gate_dst (N:=7) rfl ?_); refine bx 7 #[.int .i64 0, .int .i64 0, .int .i64 0] 43 (h := ?_); intro gb264 hg w34 hbox hb; have BK264:=Aside0.mk (hbox); have GW264:=bz HB hg; have GE264:=bz HB hg; have NB255_264:=bn BK255 hg; have NB264_255:=bm BK255 hg; replace HO_5:=Aside0.mk (Kd.R_below (Kd.R_elderB (rk HO_5) gb264 (Nat.le_of_eq hg.symm)) hb); replace BK255:=bl BK255 hb; replace HB:=bs HB hb; clear hb hbox hg; have hnb35:=NB264_255.out; have hnc35:=NB255_264.out; obtain ⟨_,_,_,_,_,_⟩:=kc3 BK264) | ((with_reducible refine gate_callee (f:=67) rfl ?_); refine gl (some 57) Tryd.func67 #[.slice A0 l0.length c0, .agg #[.int .i64 a1_0, .int .i64 a1_1, .int .i64 (wrap64 (a1_2 + 1))]] (h := ?_); (with_reducible refine (r4_written.calls k1 _ _ l0 a1_0 a1_1 (wrap64 (a1_2 + 1)) false _ ?side1 ?side2 ?side3 A19.out).mono ?_); (case side1 => exact Kd.C_below HR0.out (bw HB)); (case side2 => exact HC0.out); (case side3 => exact (hT.below (bw HB))); rintro e w37 ⟨rfl,hb⟩; refine ⟨_,rfl, ?_⟩; replace HO_5:=Aside0.mk (Kd.R_below (by (with_reducible repeat (first | apply Kd.R_alloc | apply Kd.R_drewN | apply Kd.R_drew)); exact (Kd.R_mono (Kd.R_far (p:=⟨gb264,2,none⟩) (Kd.R_far (p:=⟨gb264,1,none⟩) (Kd.R_far (p:=⟨gb264,0,none⟩) (Kd.R_mono HO_5.out (fun k_ hk => (⟨hk,hk.2⟩ : _ ∧ k_ ≠ gb264))) (fun _ hk => hk.2) (.int .i64 a1_0)) (fun _ hk => hk.2) (.int .i64 a1_1)) (fun _ hk => hk.2) (.int .i64 (wrap64 (a1_2 + 1)))) (fun _ h_ => h_.1))) hb); replace BK255:=bl BK255 hb; replace BK264:=Aside0.mk (blk_below (g:=gb264) (o:=.cells #[.int .i64 a1_0, .int .i64 a1_1, .int .i64 (wrap64 (a1_2 + 1))] 43 (0,0)) (bp (bp (bp (kk BK264) 0) 1) 2) hb); replace HB:=bs HB hb; clear hb))
     go_ret
     exact ⟨_,re,by (with_reducible repeat (first | apply Kd.R_alloc | apply Kd.R_drewN | apply Kd.R_drew)); exact Kd.R_mono HO_5.out (fun _ hk => trivial),bw HB⟩
    subst c20
    rw [if_pos rfl] at H
    by_cases c21 : x5_1.length < 5864062014805; rotate_left
    ·rw [if_neg c21] at H
     exact absurd H (by simp)
    rw [if_pos c21] at H
    have LMc21:=Aside0.mk c21
    clear c21
    obtain ⟨y266,hy266⟩ : ∃ y_ : List (SElem),y_ = (x5_1 ++ [(⟨a1_0,a1_1,wrap64 (a1_2 + 1)⟩ : SElem)]):=⟨_,rfl⟩
    first | rw [Option.bind_some,← hy266] at H | rw [← hy266] at H
    have Ny266:=Aside0.mk hy266
    clear hy266
    obtain rfl:=Option.some.inj H
    obtain ⟨_,_,_,_,_,_⟩:=kc3 BK255
    go_wp2_with (first | ((with_reducible refine gate_callee (f:=62) rfl ?_); refine gl (some 45) Tryd.func62 #[.agg #[.int .i64 a1_0, .int .i64 a1_1, .int .i64 a1_2]] (h := ?_); (with_reducible refine (r4_Begin.calls a1_0 a1_1 a1_2 false _ A15.out).mono ?_); rintro e w23 ⟨rfl,hb⟩; refine ⟨_,rfl, ?_⟩; replace HO_5:=rb HO_5 hb; replace BK255:=bl BK255 hb; replace HB:=bs HB hb; clear hb; obtain ⟨_,_,_,_,_,_⟩:=kc3 BK255) | ((with_reducible refine gate_dst (N:=7) rfl ?_); refine bx 7 #[.int .i64 0, .int .i64 0, .int .i64 0] 43 (h := ?_); intro gb264 hg w25 hbox hb; have BK264:=Aside0.mk (hbox); have GW264:=bz HB hg; have GE264:=bz HB hg; have NB255_264:=bn BK255 hg; have NB264_255:=bm BK255 hg; replace HO_5:=Aside0.mk (Kd.R_below (Kd.R_elderB (rk HO_5) gb264 (Nat.le_of_eq hg.symm)) hb); replace BK255:=bl BK255 hb; replace HB:=bs HB hb; clear hb hbox hg; have hnb26:=NB264_255.out; have hnc26:=NB255_264.out; obtain ⟨_,_,_,_,_,_⟩:=kc3 BK264) | ((with_reducible refine gate_callee (f:=67) rfl ?_); refine gl (some 57) Tryd.func67 #[.slice A0 l0.length c0, .agg #[.int .i64 a1_0, .int .i64 a1_1, .int .i64 (wrap64 (a1_2 + 1))]] (h := ?_); (with_reducible refine (r4_written.calls k1 _ _ l0 a1_0 a1_1 (wrap64 (a1_2 + 1)) true _ ?side1 ?side2 ?side3 A19.out).mono ?_); (case side1 => exact Kd.C_below HR0.out (bw HB)); (case side2 => exact HC0.out); (case side3 => exact (hT.below (bw HB))); rintro e w28 ⟨rfl,hb⟩; refine ⟨_,rfl, ?_⟩; replace HO_5:=Aside0.mk (Kd.R_below (by (with_reducible repeat (first | apply Kd.R_alloc | apply Kd.R_drewN | apply Kd.R_drew)); exact (Kd.R_mono (Kd.R_far (p:=⟨gb264,2,none⟩) (Kd.R_far (p:=⟨gb264,1,none⟩) (Kd.R_far (p:=⟨gb264,0,none⟩) (Kd.R_mono HO_5.out (fun k_ hk => (⟨hk,hk.2⟩ : _ ∧ k_ ≠ gb264))) (fun _ hk => hk.2) (.int .i64 a1_0)) (fun _ hk => hk.2) (.int .i64 a1_1)) (fun _ hk => hk.2) (.int .i64 (wrap64 (a1_2 + 1)))) (fun _ h_ => h_.1))) hb); replace BK255:=bl BK255 hb; replace BK264:=Aside0.mk (blk_below (g:=gb264) (o:=.cells #[.int .i64 a1_0, .int .i64 a1_1, .int .i64 (wrap64 (a1_2 + 1))] 43 (0,0)) (bp (bp (bp (kk BK264) 0) 1) 2) hb); replace HB:=bs HB hb; clear hb; obtain ⟨_,_,_,_,_,_⟩:=kc3 BK264) | ((with_reducible refine gate_builtin (b:=.append) (xs:=#[.tmp 58, .tmp 60]) rfl ?_); at_builtin; refine Kd.R_append kElem (w0:=w) w.heap.size rfl (.tmp 58) (.tmp 60) 23 43 (.agg #[(.int .i64 0),(.int .i64 0),(.int .i64 0)]) 24 rfl Tryd.underlying23 info43 rfl (by decide) (by omega) u5 x5_1 (⟨a1_0,a1_1,wrap64 (a1_2 + 1)⟩ : SElem) [.int .i64 a1_0, .int .i64 a1_1, .int .i64 (wrap64 (a1_2 + 1))] (fun k_ => k_ ≠ gb255 ∧ k_ ≠ gb264) (fun _ => False) rfl rfl ?aP (fun _ hk => hk.elim) ?aF ?aO ?aB ?aS ?aL ?_; (case aP => exact kElem_mkM _ _ _ (⟨a1_0,a1_1,wrap64 (a1_2 + 1)⟩ : SElem)); (case aB => exact (bw HB)); (case aF => exact (fun k_ hk => ⟨Kd.freshB (kk BK255) k_ hk,Kd.freshB (kk BK264) k_ hk⟩)); (case aO => exact (rk HO_5)); (case aS => exact (below_size (bw HB))); (case aL => have:=LMc21.out; omega); intro v267 w30 ho hb hg hat; rw [← Ny266.out] at ho; have n0_:=Aside0.mk (blk_grown (kk BK255) hg (Kd.R_away HO_5.out (fun _ hk => hk.1))); have n1_:=Aside0.mk (blk_grown (kk BK264) hg (Kd.R_away HO_5.out (fun _ hk => hk.2))); have n2_:=Aside0.mk (hb); have n3_:=Aside0.mk (ho); clear BK255; clear BK264; clear HB; clear HO_5; have BK255:=n0_; have BK264:=n1_; have HB:=n2_; have HO268:=n3_; clear n0_ n1_ n2_ n3_; clear ho hb hg hat))
    go_ret
    exact ⟨_,re,by (with_reducible repeat (first | apply Kd.R_alloc | apply Kd.R_drewN | apply Kd.R_drew)); exact Kd.R_mono HO268.out (fun _ hk => trivial),bw HB⟩
   rw [if_pos c4] at H
   have c4b0:=decide_eq_true c4
   clear c4
   by_cases c5 : 0 ≤ x6_1; rotate_left
   ·rw [if_neg c5] at H
    exact absurd H (by simp)
   rw [if_pos c5] at H
   have c5b0:=decide_eq_true c5
   clear c5
   by_cases c6 : x6_1 < (l0.length : Int); rotate_left
   ·rw [if_neg c6] at H
    exact absurd H (by simp)
   rw [if_pos c6] at H
   have c6b0:=decide_eq_true c6
   clear c6
   by_cases c7 : ((rd_Op l0 x6_1).f4).toList = ([] : List UInt8)
   ·rw [if_pos c7] at H
    obtain ⟨c7b0,c7b1⟩:=bT c7
    clear c7
    have H':=Aside0.mk H
    clear H
    try go_wp2
    have n0_:=Aside0.mk (Kd.R_drew HO_5.out)
    have n1_:=Aside0.mk (blk_drew BK255.out)
    have n2_:=Aside0.mk (below_drew1 HB.out)
    clear HO_5
    clear BK255
    clear HB
    have HO_5:=n0_
    have BK255:=n1_
    have HB:=n2_
    clear n0_ n1_ n2_
    have p256 : 0 ≤ (x6_1 : Int):=od
    have q256 : x6_1 < (l0.length : Int):=od
    obtain ⟨ad256,A256_7,c256_7,e256,hx256_0,hx256_1,hx256_2,hx256_3,hx256_4,hx256_5,hx256_6,hx256_7,hx256_8,hx256_9,hx256_10,hl256_7,hi256_7⟩:=at_Op HR0.out x6_1 p256 q256
    have hw256_10:=hx256_10
    have hw256_9:=hx256_9
    have hw256_8:=hx256_8
    have hw256_7:=hx256_7
    have hw256_6:=hx256_6
    have hw256_5:=hx256_5
    have hw256_4:=hx256_4
    have hw256_3:=hx256_3
    have hw256_2:=hx256_2
    have hw256_1:=hx256_1
    have hw256_0:=hx256_0
    cases e256
    replace hx256_0:=cl HB hx256_0
    replace hx256_1:=cl HB hx256_1
    replace hx256_2:=cl HB hx256_2
    replace hx256_3:=cl HB hx256_3
    replace hx256_4:=cl HB hx256_4
    replace hx256_5:=cl HB hx256_5
    replace hx256_6:=cl HB hx256_6
    replace hx256_7:=cl HB hx256_7
    replace hx256_8:=cl HB hx256_8
    replace hx256_9:=cl HB hx256_9
    replace hx256_10:=cl HB hx256_10
    have HR256_7:=Aside0.mk hi256_7
    have HC256_7:=Aside0.mk hl256_7
    clear hi256_7 hl256_7
    replace p256:=eq_true p256
    replace q256:=eq_true q256
    refine stP (fun w' => Q11 w' (ad256.add ((x6_1).toNat * 11)) (rd_Op l0 x6_1) A256_7 c256_7) 15 ⟨(cW HB hw256_0),(cW HB hw256_1),(cW HB hw256_2),(cW HB hw256_3),(cW HB hw256_4),(cW HB hw256_5),(cW HB hw256_6),(cW HB hw256_7),(cW HB hw256_8),(cW HB hw256_9),(cW HB hw256_10)⟩ (h:=fun hHeld => ?_); refine with_tabW r4_Under.tab5 r4_Under.bits5 (fun HT_ HW_ => ?_)
    generalize wr.drew = w8 at HO_5 BK255 HB HR256_7 hx256_0 hx256_1 hx256_10 hx256_2 hx256_3 hx256_4 hx256_5 hx256_6 hx256_7 hx256_8 hx256_9 hHeld ⊢
    refine pu HT_ 0 15 1 (h := ?_)
    refine pu HT_ 1 16 3 (h := ?_)
    refine pu HT_ 2 17 7 (h := ?_)
    refine pu HT_ 3 18 15 (h := ?_)
    refine tk HT_ HW_ hHeld 4 19 31 (h := ?_)
    refine pu HT_ 5 20 63 (h := ?_)
    refine pu HT_ 6 21 127 (h := ?_)
    refine off HT_ 7 22 255 (h := ?_)
    refine off HT_ 8 23 511 (h := ?_)
    refine off HT_ 9 24 1023 (h := ?_)
    refine off HT_ 10 25 2047 (h := ?_)
    refine off HT_ 11 26 4095 (h := ?_)
    refine off HT_ 12 27 8191 (h := ?_)
    refine off HT_ 13 28 16383 (h := ?_)
    refine pu HT_ 14 29 32767 (h := ?_)
    refine dn HT_ (h := ?_)
    try go_wp2
    go_roundg k1
    case measure => have:=HK1.out; omega
    case rel => exact ⟨(x5_1),(wrap64 (x6_1 - 1)),rf,H',⟨by have:=HK1.out; omega⟩,⟨rk HO_5⟩,⟨kk BK255⟩,⟨bw HB⟩⟩
   rw [if_neg c7] at H
   obtain ⟨c7b0,c7b1⟩:=bF c7
   by_cases c9 : (((rd_Op l0 x6_1).f3.f0) == a1_0 && (((rd_Op l0 x6_1).f3.f1) == a1_1 && (((rd_Op l0 x6_1).f3.f2) == a1_2))) = true; rotate_left
   ·rw [if_neg c9] at H
    have c9b0 : (((rd_Op l0 x6_1).f3.f0) == a1_0 && (((rd_Op l0 x6_1).f3.f1) == a1_1 && (((rd_Op l0 x6_1).f3.f2) == a1_2))) = false:=by simpa using c9
    (try (have c9b1 : decide (((rd_Op l0 x6_1).f3.f0) = a1_0 && (((rd_Op l0 x6_1).f3.f1) == a1_1 && (((rd_Op l0 x6_1).f3.f2) == a1_2))) = false:=by simpa using c9))
    (try (have c9b2 : (((rd_Op l0 x6_1).f3.f0) == a1_0 && (((rd_Op l0 x6_1).f3.f1) == a1_1 && (((rd_Op l0 x6_1).f3.f2) == a1_2))) = false:=by simpa using c9))
    (try (have c9b3 : ¬ (((rd_Op l0 x6_1).f3.f0) = a1_0 && (((rd_Op l0 x6_1).f3.f1) == a1_1 && (((rd_Op l0 x6_1).f3.f2) == a1_2))):=by simpa using c9))
    clear c9
    have H':=Aside0.mk H
    clear H
    try go_wp2
    have n0_:=Aside0.mk (Kd.R_drew HO_5.out)
    have n1_:=Aside0.mk (blk_drew BK255.out)
    have n2_:=Aside0.mk (below_drew1 HB.out)
    clear HO_5
    clear BK255
    clear HB
    have HO_5:=n0_
    have BK255:=n1_
    have HB:=n2_
    clear n0_ n1_ n2_
    have p256 : 0 ≤ (x6_1 : Int):=od
    have q256 : x6_1 < (l0.length : Int):=od
    obtain ⟨ad256,A256_7,c256_7,e256,hx256_0,hx256_1,hx256_2,hx256_3,hx256_4,hx256_5,hx256_6,hx256_7,hx256_8,hx256_9,hx256_10,hl256_7,hi256_7⟩:=at_Op HR0.out x6_1 p256 q256
    have hw256_10:=hx256_10
    have hw256_9:=hx256_9
    have hw256_8:=hx256_8
    have hw256_7:=hx256_7
    have hw256_6:=hx256_6
    have hw256_5:=hx256_5
    have hw256_4:=hx256_4
    have hw256_3:=hx256_3
    have hw256_2:=hx256_2
    have hw256_1:=hx256_1
    have hw256_0:=hx256_0
    cases e256
    replace hx256_0:=cl HB hx256_0
    replace hx256_1:=cl HB hx256_1
    replace hx256_2:=cl HB hx256_2
    replace hx256_3:=cl HB hx256_3
    replace hx256_4:=cl HB hx256_4
    replace hx256_5:=cl HB hx256_5
    replace hx256_6:=cl HB hx256_6
    replace hx256_7:=cl HB hx256_7
    replace hx256_8:=cl HB hx256_8
    replace hx256_9:=cl HB hx256_9
    replace hx256_10:=cl HB hx256_10
    have HR256_7:=Aside0.mk hi256_7
    have HC256_7:=Aside0.mk hl256_7
    clear hi256_7 hl256_7
    replace p256:=eq_true p256
    replace q256:=eq_true q256
    refine stP (fun w' => B3 w' gb255 (.int .i64 a1_0) (.int .i64 a1_1) (.int .i64 a1_2) (Q11 w' (ad256.add ((x6_1).toNat * 11)) (rd_Op l0 x6_1) A256_7 c256_7)) 15 (b3 BK255 ⟨(cW HB hw256_0),(cW HB hw256_1),(cW HB hw256_2),(cW HB hw256_3),(cW HB hw256_4),(cW HB hw256_5),(cW HB hw256_6),(cW HB hw256_7),(cW HB hw256_8),(cW HB hw256_9),(cW HB hw256_10)⟩) (h:=fun hHeld => ?_); refine with_tabW r4_Under.tab5 r4_Under.bits5 (fun HT_ HW_ => ?_)
    generalize wr.drew = w14 at HO_5 BK255 HB HR256_7 HR256_7 hx256_0 hx256_1 hx256_10 hx256_2 hx256_3 hx256_4 hx256_5 hx256_6 hx256_7 hx256_8 hx256_9 hx256_0 hx256_1 hx256_10 hx256_2 hx256_3 hx256_4 hx256_5 hx256_6 hx256_7 hx256_8 hx256_9 hHeld ⊢
    refine pu HT_ 0 15 1 (h := ?_)
    refine pu HT_ 1 16 3 (h := ?_)
    refine pu HT_ 2 17 7 (h := ?_)
    refine pu HT_ 3 18 15 (h := ?_)
    refine tk HT_ HW_ hHeld 4 19 31 (h := ?_)
    refine pu HT_ 5 20 63 (h := ?_)
    refine pu HT_ 6 21 127 (h := ?_)
    refine pu HT_ 7 22 255 (h := ?_)
    refine pu HT_ 8 23 511 (h := ?_)
    refine pu HT_ 9 24 1023 (h := ?_)
    refine pu HT_ 10 25 2047 (h := ?_)
    refine tk HT_ HW_ hHeld 11 26 4095 (h := ?_)
    refine tk HT_ HW_ hHeld 12 27 8191 (h := ?_)
    refine pu HT_ 13 28 16383 (h := ?_)
    refine pu HT_ 14 29 32767 (h := ?_)
    refine dn HT_ (h := ?_)
    try go_wp2
    go_roundg k1
    case measure => have:=HK1.out; omega
    case rel => exact ⟨(x5_1),(wrap64 (x6_1 - 1)),rf,H',⟨by have:=HK1.out; omega⟩,⟨rk HO_5⟩,⟨kk BK255⟩,⟨bw HB⟩⟩
   rw [if_pos c9] at H
   have c9b0 : (((rd_Op l0 x6_1).f3.f0) == a1_0 && (((rd_Op l0 x6_1).f3.f1) == a1_1 && (((rd_Op l0 x6_1).f3.f2) == a1_2))) = true:=c9
   (try (have c9b1 : decide (((rd_Op l0 x6_1).f3.f0) = a1_0 && (((rd_Op l0 x6_1).f3.f1) == a1_1 && (((rd_Op l0 x6_1).f3.f2) == a1_2))) = true:=by simpa using c9))
   (try (have c9b2 : (((rd_Op l0 x6_1).f3.f0) == a1_0 && (((rd_Op l0 x6_1).f3.f1) == a1_1 && (((rd_Op l0 x6_1).f3.f2) == a1_2))) = true:=by simpa using c9))
   clear c9
   by_cases c10 : x5_1.length < 5864062014805; rotate_left
   ·rw [if_neg c10] at H
    exact absurd H (by simp)
   rw [if_pos c10] at H
   have LMc10:=Aside0.mk c10
   clear c10
   obtain ⟨y260,hy260⟩ : ∃ y_ : List (SElem),y_ = (x5_1 ++ [(⟨(rd_Op l0 x6_1).f0,(rd_Op l0 x6_1).f1,0⟩ : SElem)]):=⟨_,rfl⟩
   first | rw [Option.bind_some,← hy260] at H | rw [← hy260] at H
   have Ny260:=Aside0.mk hy260
   clear hy260
   have H':=Aside0.mk H
   clear H
   try go_wp2
   have n0_:=Aside0.mk (Kd.R_drew HO_5.out)
   have n1_:=Aside0.mk (blk_drew BK255.out)
   have n2_:=Aside0.mk (below_drew1 HB.out)
   clear HO_5
   clear BK255
   clear HB
   have HO_5:=n0_
   have BK255:=n1_
   have HB:=n2_
   clear n0_ n1_ n2_
   have p256 : 0 ≤ (x6_1 : Int):=od
   have q256 : x6_1 < (l0.length : Int):=od
   obtain ⟨ad256,A256_7,c256_7,e256,hx256_0,hx256_1,hx256_2,hx256_3,hx256_4,hx256_5,hx256_6,hx256_7,hx256_8,hx256_9,hx256_10,hl256_7,hi256_7⟩:=at_Op HR0.out x6_1 p256 q256
   have hw256_10:=hx256_10
   have hw256_9:=hx256_9
   have hw256_8:=hx256_8
   have hw256_7:=hx256_7
   have hw256_6:=hx256_6
   have hw256_5:=hx256_5
   have hw256_4:=hx256_4
   have hw256_3:=hx256_3
   have hw256_2:=hx256_2
   have hw256_1:=hx256_1
   have hw256_0:=hx256_0
   cases e256
   replace hx256_0:=cl HB hx256_0
   replace hx256_1:=cl HB hx256_1
   replace hx256_2:=cl HB hx256_2
   replace hx256_3:=cl HB hx256_3
   replace hx256_4:=cl HB hx256_4
   replace hx256_5:=cl HB hx256_5
   replace hx256_6:=cl HB hx256_6
   replace hx256_7:=cl HB hx256_7
   replace hx256_8:=cl HB hx256_8
   replace hx256_9:=cl HB hx256_9
   replace hx256_10:=cl HB hx256_10
   have HR256_7:=Aside0.mk hi256_7
   have HC256_7:=Aside0.mk hl256_7
   clear hi256_7 hl256_7
   replace p256:=eq_true p256
   replace q256:=eq_true q256
   refine stP (fun w' => B3 w' gb255 (.int .i64 a1_0) (.int .i64 a1_1) (.int .i64 a1_2) (Q11 w' (ad256.add ((x6_1).toNat * 11)) (rd_Op l0 x6_1) A256_7 c256_7)) 15 (b3 BK255 ⟨(cW HB hw256_0),(cW HB hw256_1),(cW HB hw256_2),(cW HB hw256_3),(cW HB hw256_4),(cW HB hw256_5),(cW HB hw256_6),(cW HB hw256_7),(cW HB hw256_8),(cW HB hw256_9),(cW HB hw256_10)⟩) (h:=fun hHeld => ?_); refine with_tabW r4_Under.tab5 r4_Under.bits5 (fun HT_ HW_ => ?_)
   generalize wr.drew = w11 at HO_5 BK255 HB HR256_7 HR256_7 hx256_0 hx256_1 hx256_10 hx256_2 hx256_3 hx256_4 hx256_5 hx256_6 hx256_7 hx256_8 hx256_9 hx256_0 hx256_1 hx256_10 hx256_2 hx256_3 hx256_4 hx256_5 hx256_6 hx256_7 hx256_8 hx256_9 hHeld ⊢
   refine pu HT_ 0 15 1 (h := ?_)
   refine pu HT_ 1 16 3 (h := ?_)
   refine pu HT_ 2 17 7 (h := ?_)
   refine pu HT_ 3 18 15 (h := ?_)
   refine tk HT_ HW_ hHeld 4 19 31 (h := ?_)
   refine pu HT_ 5 20 63 (h := ?_)
   refine pu HT_ 6 21 127 (h := ?_)
   refine pu HT_ 7 22 255 (h := ?_)
   refine pu HT_ 8 23 511 (h := ?_)
   refine pu HT_ 9 24 1023 (h := ?_)
   refine pu HT_ 10 25 2047 (h := ?_)
   refine tk HT_ HW_ hHeld 11 26 4095 (h := ?_)
   refine tk HT_ HW_ hHeld 12 27 8191 (h := ?_)
   refine pu HT_ 13 28 16383 (h := ?_)
   refine pu HT_ 14 29 32767 (h := ?_)
   refine dn HT_ (h := ?_)
   try go_wp2
   have n0_:=Aside0.mk (Kd.R_drew HO_5.out)
   have n1_:=Aside0.mk (blk_drew BK255.out)
   have n2_:=Aside0.mk (below_drew1 HB.out)
   clear HO_5
   clear BK255
   clear HB
   have HO_5:=n0_
   have BK255:=n1_
   have HB:=n2_
   clear n0_ n1_ n2_
   have p258 : 0 ≤ (x6_1 : Int):=od
   have q258 : x6_1 < (l0.length : Int):=od
   obtain ⟨ad258,A258_7,c258_7,e258,hx258_0,hx258_1,hx258_2,hx258_3,hx258_4,hx258_5,hx258_6,hx258_7,hx258_8,hx258_9,hx258_10,hl258_7,hi258_7⟩:=at_Op HR0.out x6_1 p258 q258
   have hw258_10:=hx258_10
   have hw258_9:=hx258_9
   have hw258_8:=hx258_8
   have hw258_7:=hx258_7
   have hw258_6:=hx258_6
   have hw258_5:=hx258_5
   have hw258_4:=hx258_4
   have hw258_3:=hx258_3
   have hw258_2:=hx258_2
   have hw258_1:=hx258_1
   have hw258_0:=hx258_0
   obtain rfl : ad256 = ad258:=(by injection e258)
   replace hx258_0:=cl HB hx258_0
   replace hx258_1:=cl HB hx258_1
   replace hx258_2:=cl HB hx258_2
   replace hx258_3:=cl HB hx258_3
   replace hx258_4:=cl HB hx258_4
   replace hx258_5:=cl HB hx258_5
   replace hx258_6:=cl HB hx258_6
   replace hx258_7:=cl HB hx258_7
   replace hx258_8:=cl HB hx258_8
   replace hx258_9:=cl HB hx258_9
   replace hx258_10:=cl HB hx258_10
   have HR258_7:=Aside0.mk hi258_7
   have HC258_7:=Aside0.mk hl258_7
   clear hi258_7 hl258_7
   replace p258:=eq_true p258
   replace q258:=eq_true q258
   refine stP (fun w' => Q11 w' (ad256.add ((x6_1).toNat * 11)) (rd_Op l0 x6_1) A258_7 c258_7) 15 ⟨(cW HB hw258_0),(cW HB hw258_1),(cW HB hw258_2),(cW HB hw258_3),(cW HB hw258_4),(cW HB hw258_5),(cW HB hw258_6),(cW HB hw258_7),(cW HB hw258_8),(cW HB hw258_9),(cW HB hw258_10)⟩ (h:=fun hHeld => ?_); refine with_tabW r4_Under.tab6 r4_Under.bits6 (fun HT_ HW_ => ?_)
   generalize w11.drew = w12 at HO_5 BK255 HB HR258_7 HR258_7 hx258_0 hx258_1 hx258_10 hx258_2 hx258_3 hx258_4 hx258_5 hx258_6 hx258_7 hx258_8 hx258_9 hx258_0 hx258_1 hx258_10 hx258_2 hx258_3 hx258_4 hx258_5 hx258_6 hx258_7 hx258_8 hx258_9 hHeld ⊢
   refine pu HT_ 0 30 1 (h := ?_)
   refine pu HT_ 1 31 3 (h := ?_)
   refine pu HT_ 2 32 7 (h := ?_)
   refine pu HT_ 3 33 15 (h := ?_)
   refine pu HT_ 4 34 31 (h := ?_)
   refine pu HT_ 6 36 95 (h := ?_)
   refine pu HT_ 7 37 223 (h := ?_)
   refine pu HT_ 8 38 479 (h := ?_)
   refine pu HT_ 9 39 991 (h := ?_)
   refine tk HT_ HW_ hHeld 5 35 1023 (h := ?_)
   refine tk HT_ HW_ hHeld 10 40 2047 (h := ?_)
   refine pu HT_ 11 41 4095 (h := ?_)
   refine on HT_ 12 (some 42) 8191 (h:=fun K hK => ?_)
   refine value_ (w1 := ?_) (v := ?_) (by rfl) rfl ?_ ?_
   rotate_left 2
   ·go_simp
    constructor
    ·rfl
    rfl
   refine hK.out _ _ ⟨(World.cell?_alloc_lt _ _ _ (World.block_lt_of_cell? _ _ ((cW HB hw258_0)))).trans ((cW HB hw258_0)),(World.cell?_alloc_lt _ _ _ (World.block_lt_of_cell? _ _ ((cW HB hw258_1)))).trans ((cW HB hw258_1)),(World.cell?_alloc_lt _ _ _ (World.block_lt_of_cell? _ _ ((cW HB hw258_2)))).trans ((cW HB hw258_2)),(World.cell?_alloc_lt _ _ _ (World.block_lt_of_cell? _ _ ((cW HB hw258_3)))).trans ((cW HB hw258_3)),(World.cell?_alloc_lt _ _ _ (World.block_lt_of_cell? _ _ ((cW HB hw258_4)))).trans ((cW HB hw258_4)),(World.cell?_alloc_lt _ _ _ (World.block_lt_of_cell? _ _ ((cW HB hw258_5)))).trans ((cW HB hw258_5)),(World.cell?_alloc_lt _ _ _ (World.block_lt_of_cell? _ _ ((cW HB hw258_6)))).trans ((cW HB hw258_6)),(World.cell?_alloc_lt _ _ _ (World.block_lt_of_cell? _ _ ((cW HB hw258_7)))).trans ((cW HB hw258_7)),(World.cell?_alloc_lt _ _ _ (World.block_lt_of_cell? _ _ ((cW HB hw258_8)))).trans ((cW HB hw258_8)),(World.cell?_alloc_lt _ _ _ (World.block_lt_of_cell? _ _ ((cW HB hw258_9)))).trans ((cW HB hw258_9)),(World.cell?_alloc_lt _ _ _ (World.block_lt_of_cell? _ _ ((cW HB hw258_10)))).trans ((cW HB hw258_10))⟩ (fun hHeld => ?_)
   clear hK K
   refine nn 42 (h := ?_)
   refine on HT_ 13 (some 43) 16383 (h:=fun K hK => ?_)
   refine Kd.R_append_step kElem (w0:=w) w.heap.size (by rfl) (.tmp 30) (.tmp 42) 23 43 (.agg #[(.int .i64 0),(.int .i64 0),(.int .i64 0)]) 24 rfl Tryd.underlying23 info43 rfl (by decide) (by omega) u5 x5_1 (⟨(rd_Op l0 x6_1).f0,(rd_Op l0 x6_1).f1,0⟩ : SElem) [.int .i64 ((rd_Op l0 x6_1).f0), .int .i64 ((rd_Op l0 x6_1).f1), .int .i64 0] (fun k_ => k_ ≠ gb255) (fun _ => False) rfl rfl ?aP (fun _ hk => hk.elim) ?aF ?aO ?aB ?aS ?aL ?_
   (case aP => exact kElem_mkM _ _ _ (⟨(rd_Op l0 x6_1).f0,(rd_Op l0 x6_1).f1,0⟩ : SElem))
   (case aB => exact (bw HB))
   (case aF => exact (fun k_ hk => Kd.freshB (kk BK255) k_ hk))
   (case aO => exact (rk HO_5))
   (case aS => exact (below_size (bw HB)))
   (case aL => have:=LMc10.out; omega)
   intro v261 w13 ho hb hg hat
   rw [← Ny260.out] at ho
   have n0_:=Aside0.mk (blk_grown (kk BK255) hg (Kd.R_away HO_5.out (fun _ hk => hk)))
   have n1_:=Aside0.mk (hb)
   have n2_:=Aside0.mk (ho)
   clear BK255
   clear HB
   clear HO_5
   have BK255:=n0_
   have HB:=n1_
   have HO262:=n2_
   clear n0_ n1_ n2_
   clear ho hb hg hat
   refine hK.out _ _ ⟨(cW HB hw258_0),(cW HB hw258_1),(cW HB hw258_2),(cW HB hw258_3),(cW HB hw258_4),(cW HB hw258_5),(cW HB hw258_6),(cW HB hw258_7),(cW HB hw258_8),(cW HB hw258_9),(cW HB hw258_10)⟩ (fun hHeld => ?_)
   clear hK K
   refine nn 43 (h := ?_)
   refine pu HT_ 14 5 32767 (h := ?_)
   refine dn HT_ (h := ?_)
   try go_wp2
   go_roundg k1
   case measure => have:=HK1.out; omega
   case rel => exact ⟨(y260),(wrap64 (x6_1 - 1)),rf,H',⟨by have:=HK1.out; omega⟩,⟨rk HO262⟩,⟨kk BK255⟩,⟨bw HB⟩⟩
end Go.Proofs.YtonoaflfobajcaaDoor.L
end

section
namespace Go.Proofs.YtonoaflfobajcaaDoor.L
open Go.RowKit Go.Proofs.YtonoaflfobajcaaDoorW.PrintWords Go.Proofs.YtonoaflfobajcaaDoorW.PrintLast Go.Proofs.YtonoaflfobajcaaDoorW.PrintMore
attribute [local go_sem] max2_int min2_int max_two min_two max_three min_three max_four min_four
set_option linter.unusedVariables false
set_option linter.unusedSimpArgs false
attribute [local go_sem high] eqAElem
mutual
def r4_Order.l0 : Nat → List (SOp) → List (SElem) → List (SElem) → Option ((List (SElem)))
 | 0,_,_,_ => none
 | k + 1,x0,x3,x4 => if (x4.length : Int) > 0 then (if 0 ≤ (wrap64 ((x4.length : Int) - 1)) then (if (wrap64 ((x4.length : Int) - 1)) < (x4.length : Int) then (if (wrap64 ((x4.length : Int) - 1)) ≤ (x4.length : Int) then ((some (x4.take ((wrap64 ((x4.length : Int) - 1)) : Int).toNat : List (SElem))).bind fun y274 => ((r4_Begin.f ((rd_Elem x4 (wrap64 ((x4.length : Int) - 1))).f0) ((rd_Elem x4 (wrap64 ((x4.length : Int) - 1))).f1) ((rd_Elem x4 (wrap64 ((x4.length : Int) - 1))).f2)).bind fun t277 => (if t277 = true then (r4_Order.j1 k x0 x3 y274 ((rd_Elem x4 (wrap64 ((x4.length : Int) - 1))).f0) ((rd_Elem x4 (wrap64 ((x4.length : Int) - 1))).f1) ((rd_Elem x4 (wrap64 ((x4.length : Int) - 1))).f2)) else (if x3.length < 5864062014805 then (r4_Order.j1 k x0 (x3 ++ [(⟨(rd_Elem x4 (wrap64 ((x4.length : Int) - 1))).f0,(rd_Elem x4 (wrap64 ((x4.length : Int) - 1))).f1,(rd_Elem x4 (wrap64 ((x4.length : Int) - 1))).f2⟩ : SElem)]) y274 ((rd_Elem x4 (wrap64 ((x4.length : Int) - 1))).f0) ((rd_Elem x4 (wrap64 ((x4.length : Int) - 1))).f1) ((rd_Elem x4 (wrap64 ((x4.length : Int) - 1))).f2)) else (none))))) else (none)) else (none)) else (none)) else (some x3)
def r4_Order.j1 : Nat → List (SOp) → List (SElem) → List (SElem) → Int → Int → Int → Option ((List (SElem)))
 | 0,_,_,_,_,_,_ => none
 | k + 1,x0,x3,x4,x274000,x274001,x274002 => (r4_Under.f k x0 x274000 x274001 x274002).bind fun t281 => (r4_Order.l1 k x0 x3 x4 t281 (wrap64 ((t281.length : Int) - 1)))
def r4_Order.l1 : Nat → List (SOp) → List (SElem) → List (SElem) → List (SElem) → Int → Option ((List (SElem)))
 | 0,_,_,_,_,_ => none
 | k + 1,x0,x3,x4,x6,x7 => if x7 ≥ 0 then (if 0 ≤ x7 then (if x7 < (x6.length : Int) then (if x4.length < 5864062014805 then (r4_Order.l1 k x0 x3 (x4 ++ [(⟨(rd_Elem x6 x7).f0,(rd_Elem x6 x7).f1,(rd_Elem x6 x7).f2⟩ : SElem)]) x6 (wrap64 (x7 - 1))) else (none)) else (none)) else (none)) else (r4_Order.l0 k x0 x3 x4)
end
def r4_Order.f (k : Nat) (l0 : List (SOp)) : Option ((List (SElem))):=r4_Order.l0 k l0 ([] : List (SElem)) (([(⟨0,0,0⟩ : SElem)] : List (SElem)))
set_option maxHeartbeats 8000000 in
set_option maxRecDepth 100000 in
theorem r4_Order.calls (k : Nat) (A0 : Option Addr) (c0 : Nat) (l0 : List (SOp)) (r : List (SElem)) (w : World) (hr0 : Kd.C kOp w A0 l0.length l0) (hc0 : l0.length ≤ c0) (hT : GT w) (h : r4_Order.f k l0 = some r) :
  Calls Tryd.prog 17 #[.slice A0 l0.length c0] w fun e w' => ∃ v0_ : Value,e = .returned (v0_) ∧ Kd.R kElem 43 w' w.heap.size (fun _ => True) v0_ r ∧ Below w.heap.size w w':=by
 have hu43:=Tryd.underlying43
 have HR0:=Aside0.mk hr0
 have HC0:=Aside0.mk hc0
 clear hr0 hc0
 have HB:=Aside0.mk (Below.refl w.heap.size w)
 unfold r4_Order.f at h; have H:=h
 clear h
 obtain ⟨y269,hy269⟩ : ∃ y_ : List (SElem),y_ = (([(⟨0,0,0⟩ : SElem)] : List (SElem))):=⟨_,rfl⟩
 first | rw [Option.bind_some,← hy269] at H | rw [← hy269] at H
 have Ny269:=Aside0.mk hy269
 clear hy269
 have H':=Aside0.mk H
 clear H
 go_enter Tryd.func17,Tryd.ntmps17
 go_wp2_with (first | ((with_reducible refine gate_dst (N:=9) rfl ?_); refine Kd.R_lit kElem _ 43 ?hg (N:=9) ?hd (xs:=([(⟨0,0,0⟩ : SElem)] : List (SElem))) (inner:=[.int .i64 0, .int .i64 0, .int .i64 0]) (ok:=fun _ => True) (okp:=fun _ => True) ?hr ?hp (fun _ hk => hk) trivial (Below.refl _ _) (Nat.le_refl _) (by simp) ?_; (case hd => rfl); (case hg => rfl); (case hr => first | (go_simp; done) | (go_simp; rfl)); (case hp => exact (Reps.c3 (show Kd.M kElem _ _ _ (⟨0,0,0⟩ : SElem) [.int .i64 0, .int .i64 0, .int .i64 0] from (kElem_mkM _ _ _ (⟨0,0,0⟩ : SElem) )) (Reps.none _ _))); intro v270 w2 ho3 hb hg_ hnew_; clear hg_ hnew_; (first | rw [← Ny269.out] at ho3 | (simp only [Int.reduceToNat] at ho3; rw [← Ny269.out] at ho3)); have HO271:=Aside0.mk (Kd.R_lower ho3 (below_size (bw HB))); replace HB:=bs HB hb; clear hb ho3))
 go_loopg [3,4] k (fun kq v3 v4 w' => ∃ (x3_1 : List (SElem)) (x4_1 : List (SElem)),Aside0 (r4_Order.l0 kq l0 x3_1 x4_1 = some r) ∧ Aside0 (kq ≤ k) ∧ Aside0 (Kd.R kElem 43 w' w.heap.size (fun k_ => some k_ ≠ (v4 : Value).ownBlock) v3 x3_1) ∧ Aside0 (Kd.R kElem 43 w' w.heap.size (fun k_ => some k_ ≠ (v3 : Value).ownBlock) v4 x4_1) ∧ Aside0 (Below w.heap.size w w'))
 case atStart => exact ⟨(([] : List (SElem))),(y269),H',⟨Nat.le_refl _⟩,⟨by first | exact Kd.R_nil _ _ _ _ _ | exact Kd.N_nil _ _ _ _ _ | exact Kd.V_nil _ _ _ _ _ | exact Kd.Q_nil _ _ _ _ _ | exact Kd.S_nil _ _ _ _ _⟩,⟨by (with_reducible repeat (first | apply Kd.R_alloc | apply Kd.R_drewN | apply Kd.R_drew)); exact Kd.R_mono HO271.out (fun _ hk => (by simp [Value.ownBlock]))⟩,⟨bw HB⟩⟩
 case round =>
  clear H'
  obtain ⟨x3_1,x4_1,HA,HK1,HO_3,HO_4,HB⟩:=hrel
  cases gk with
  | zero => exact absurd HA.out (by simp [r4_Order.l0])
  | succ k1 =>
   have H:=HA.out
   clear HA
   simp only [r4_Order.l0] at H
   by_cases c4 : (x4_1.length : Int) > 0; rotate_left
   ·rw [if_neg c4] at H
    have c4b0:=decide_eq_false c4
    have c4b1 : decide (0 < x4_1.length) = false:=decide_eq_false (by omega)
    clear c4
    obtain rfl:=Option.some.inj H
    obtain ⟨Ao31,co31,eo31⟩:=Kd.R_slice HO_4.out
    subst eo31
    go_wp2
    go_ret
    exact ⟨_,re,by (with_reducible repeat (first | apply Kd.R_alloc | apply Kd.R_drewN | apply Kd.R_drew)); exact Kd.R_mono HO_3.out (fun _ hk => trivial),bw HB⟩
   rw [if_pos c4] at H
   have c4b0:=decide_eq_true c4
   have c4b1 : decide (0 < x4_1.length) = true:=decide_eq_true (by omega)
   clear c4
   obtain ⟨ji5,hji5⟩ : ∃ j_ : Int,(wrap64 ((x4_1.length : Int) - 1)) = j_:=⟨_,rfl⟩
   replace H : (if 0 ≤ (ji5) then (if (ji5) < (x4_1.length : Int) then (if (ji5) ≤ (x4_1.length : Int) then ((some (x4_1.take ((ji5) : Int).toNat : List (SElem))).bind fun y274 => ((r4_Begin.f ((rd_Elem x4_1 (ji5)).f0) ((rd_Elem x4_1 (ji5)).f1) ((rd_Elem x4_1 (ji5)).f2)).bind fun t277 => (if t277 = true then (r4_Order.j1 k1 l0 x3_1 y274 ((rd_Elem x4_1 (ji5)).f0) ((rd_Elem x4_1 (ji5)).f1) ((rd_Elem x4_1 (ji5)).f2)) else (if x3_1.length < 5864062014805 then (r4_Order.j1 k1 l0 (x3_1 ++ [(⟨(rd_Elem x4_1 (ji5)).f0,(rd_Elem x4_1 (ji5)).f1,(rd_Elem x4_1 (ji5)).f2⟩ : SElem)]) y274 ((rd_Elem x4_1 (ji5)).f0) ((rd_Elem x4_1 (ji5)).f1) ((rd_Elem x4_1 (ji5)).f2)) else (none))))) else (none)) else (none)) else (none)) = some r:=by first | (rw [hji5] at H; exact H) | (simp only [hji5] at H ⊢; exact H)
   have hji5w : (IntKind.i64.wrap ((x4_1.length : Int) - 1)) = ji5:=(i64_w _).trans hji5
   by_cases c6 : 0 ≤ (ji5); rotate_left
   ·rw [if_neg c6] at H
    exact absurd H (by simp)
   rw [if_pos c6] at H
   have c6b0:=decide_eq_true c6
   clear c6
   by_cases c7 : (ji5) < (x4_1.length : Int); rotate_left
   ·rw [if_neg c7] at H
    exact absurd H (by simp)
   rw [if_pos c7] at H
   have c7b0:=decide_eq_true c7
   clear c7
   by_cases c8 : (ji5) ≤ (x4_1.length : Int); rotate_left
   ·rw [if_neg c8] at H
    exact absurd H (by simp)
   rw [if_pos c8] at H
   have c8b0:=eq_true c8
   have c8b1:=decide_eq_true c8
   clear c8
   obtain ⟨y274,hy274⟩ : ∃ y_ : List (SElem),y_ = (x4_1.take ((ji5) : Int).toNat):=⟨_,rfl⟩
   first | rw [Option.bind_some,← hy274] at H | rw [← hy274] at H
   have Ny274:=Aside0.mk hy274
   clear hy274
   obtain ⟨t277,A9,H⟩:=bE H
   have HC10:=Aside0.mk H
   clear H
   obtain ⟨Ao11,co11,eo11⟩:=Kd.R_slice HO_4.out
   subst eo11
   have p272 : 0 ≤ ((ji5) : Int):=od
   have q272 : (ji5) < (x4_1.length : Int):=od
   obtain ⟨ad272,e272,hx272_0,hx272_1,hx272_2⟩:=at_Elem (Kd.R_reads' HO_4.out).2.2 (ji5) p272 q272
   cases e272
   replace p272:=eq_true p272
   replace q272:=eq_true q272
   go_upto_if 26 with (first | ((with_reducible refine gate_dst (N:=5) rfl ?_); refine bx 5 #[.int .i64 0, .int .i64 0, .int .i64 0] 43 (h := ?_); intro gb273 hg w12 hbox hb; have BK273:=Aside0.mk (hbox); have GW273:=bz HB hg; have GE273:=bz HB hg; replace HO_3:=Aside0.mk (Kd.R_below (Kd.R_elderB (rk HO_3) gb273 (Nat.le_of_eq hg.symm)) hb); replace HO_4:=Aside0.mk (Kd.R_below (Kd.R_elderB (rk HO_4) gb273 (Nat.le_of_eq hg.symm)) hb); replace HB:=bs HB hb; clear hb hbox hg; obtain ⟨_,_,_,_,_,_⟩:=kc3 BK273) | ((with_reducible refine gate_store (t:=43) (p:=5) rfl ?_); refine store_event (t:=43) (p:=5) (v := ?vo_w14) (w1:=(((w12.setCell ⟨gb273,0,none⟩ (.int .i64 ((rd_Elem x4_1 (ji5)).f0))).setCell ⟨gb273,1,none⟩ (.int .i64 ((rd_Elem x4_1 (ji5)).f1))).setCell ⟨gb273,2,none⟩ (.int .i64 ((rd_Elem x4_1 (ji5)).f2)))) ?hg ?ho ?hn ?hr ?_; (case ho => rfl); (case hg => rfl); (case hn => rfl); (case hr => first | (go_simp; done) | (go_simp; rfl)); intro w14 hw; have n0_ : Aside0 (Kd.R kElem 43 w14 w.heap.size (fun k_ => some k_ ≠ (.slice (some ad272) x4_1.length co11 : Value).ownBlock ∧ k_ ≠ gb273) u3 x3_1):=⟨(by rw [hw]; exact (by (with_reducible repeat (first | apply Kd.R_alloc | apply Kd.R_drewN | apply Kd.R_drew)); exact Kd.R_mono (Kd.R_far (p:=⟨gb273,2,none⟩) (Kd.R_far (p:=⟨gb273,1,none⟩) (Kd.R_far (p:=⟨gb273,0,none⟩) (Kd.R_mono HO_3.out (fun k_ hk => (⟨hk,hk.2⟩ : _ ∧ k_ ≠ gb273))) (fun _ hk => hk.2) (.int .i64 ((rd_Elem x4_1 (ji5)).f0))) (fun _ hk => hk.2) (.int .i64 ((rd_Elem x4_1 (ji5)).f1))) (fun _ hk => hk.2) (.int .i64 ((rd_Elem x4_1 (ji5)).f2))) (fun _ hk => ⟨hk.1.1,hk.1.2⟩)))⟩; have n1_ : Aside0 (Kd.R kElem 43 w14 w.heap.size (fun k_ => some k_ ≠ (u3 : Value).ownBlock ∧ k_ ≠ gb273) (.slice (some ad272) x4_1.length co11) x4_1):=⟨(by rw [hw]; exact (by (with_reducible repeat (first | apply Kd.R_alloc | apply Kd.R_drewN | apply Kd.R_drew)); exact Kd.R_mono (Kd.R_far (p:=⟨gb273,2,none⟩) (Kd.R_far (p:=⟨gb273,1,none⟩) (Kd.R_far (p:=⟨gb273,0,none⟩) (Kd.R_mono HO_4.out (fun k_ hk => (⟨hk,hk.2⟩ : _ ∧ k_ ≠ gb273))) (fun _ hk => hk.2) (.int .i64 ((rd_Elem x4_1 (ji5)).f0))) (fun _ hk => hk.2) (.int .i64 ((rd_Elem x4_1 (ji5)).f1))) (fun _ hk => hk.2) (.int .i64 ((rd_Elem x4_1 (ji5)).f2))) (fun _ hk => ⟨hk.1.1,hk.1.2⟩)))⟩; have n2_ : Aside0 (w14.heap[gb273]? = some (.cells #[.int .i64 ((rd_Elem x4_1 (ji5)).f0), .int .i64 ((rd_Elem x4_1 (ji5)).f1), .int .i64 ((rd_Elem x4_1 (ji5)).f2)] 43 (0,0))):=⟨(by rw [hw]; exact (bp (bp (bp (kk BK273) 0) 1) 2))⟩; have n3_ : Aside0 (Below w.heap.size w w14):=⟨(by rw [hw]; exact (bw HB))⟩; clear hw; clear HO_3; clear HO_4; clear BK273; clear HB; have HO_3:=n0_; have HO_4:=n1_; have BK273:=n2_; have HB:=n3_; clear n0_ n1_ n2_ n3_; have q15 : ((ji5) : Int) ≤ ((x4_1.length : Int) : Int):=od; obtain ⟨i015,hi015,_,hsz15,_⟩:=info_parts info43; have hcut15:=cut_to (P:=Tryd.prog) 23 43 .i64 Tryd.underlying23 hi015 (some ad272) x4_1.length co11 (ji5) (od) q15 (Kd.R_reads' HO_4.out).2.1; have hr15:=Kd.R_take (m:=((ji5) : Int).toNat) HO_4.out (by omega); have hy15 : y274.length = ((ji5) : Int).toNat:=(by rw [Ny274.out,List.length_take]; omega); rw [← Ny274.out] at hr15; rw [← hy15] at hr15 hcut15; clear hy15 hi015 hsz15 HO_4; have HO276:=Aside0.mk hr15; clear hr15; replace q15:=eq_true q15; obtain ⟨_,_,_,_,_,_⟩:=kc3 BK273) | ((with_reducible refine gate_callee (f:=62) rfl ?_); refine goesL_ (some 25) rfl rfl Tryd.func62 (by kernel_rfl) rfl #[.agg #[.int .i64 ((rd_Elem x4_1 (ji5)).f0), .int .i64 ((rd_Elem x4_1 (ji5)).f1), .int .i64 ((rd_Elem x4_1 (ji5)).f2)]] rfl (by (try simp only [List.map_toArray,List.map_cons,List.map_nil]); first | done | (simp only [hji5]; rfl) | rfl | (simp only [List.length_drop,List.length_take]; rfl)) ?_; (with_reducible refine (r4_Begin.calls ((rd_Elem x4_1 (ji5)).f0) ((rd_Elem x4_1 (ji5)).f1) ((rd_Elem x4_1 (ji5)).f2) t277 _ A9.out).mono ?_); rintro e w17 ⟨rfl,hb⟩; refine ⟨_,rfl, ?_⟩; replace HO_3:=rb HO_3 hb; replace HO276:=rb HO276 hb; replace BK273:=bl BK273 hb; replace HB:=bs HB hb; clear hb))
   (try simp only [Act.put,List.setIfInBounds_toArray,List.set_cons_zero,List.set_cons_succ])
   go_cut [3] (fun v3 wc => ∃ (kq : Nat) (x3_9 : List (SElem)),Aside0 (r4_Order.j1 kq l0 x3_9 y274 ((rd_Elem x4_1 (ji5)).f0) ((rd_Elem x4_1 (ji5)).f1) ((rd_Elem x4_1 (ji5)).f2) = some r) ∧ Aside0 (kq ≤ k1) ∧ Aside0 (Kd.R kElem 43 wc w.heap.size (fun k_ => some k_ ≠ ((.slice (some ad272) y274.length co11) : Value).ownBlock ∧ k_ ≠ gb273) v3 x3_9) ∧ Aside0 (Kd.R kElem 43 wc w.heap.size (fun k_ => some k_ ≠ (v3 : Value).ownBlock ∧ k_ ≠ gb273) (.slice (some ad272) y274.length co11) y274) ∧ Aside0 (wc.heap[gb273]? = some (.cells #[.int .i64 ((rd_Elem x4_1 (ji5)).f0), .int .i64 ((rd_Elem x4_1 (ji5)).f1), .int .i64 ((rd_Elem x4_1 (ji5)).f2)] 43 (0,0))) ∧ Aside0 (Below w.heap.size w wc))
   case first =>
    have H:=HC10.out
    clear HC10
    by_cases c18 : t277 = true
    ·subst c18
     rw [if_pos rfl] at H
     have H':=Aside0.mk H
     clear H
     go_wp2
     go_meet
     case rel => exact ⟨_,(x3_1),H',⟨by have:=HK1.out; first | omega | exact Nat.le_refl _⟩,⟨rk HO_3⟩,⟨rk HO276⟩,⟨kk BK273⟩,⟨bw HB⟩⟩
    replace c18:=Bool.eq_false_iff.mpr c18
    subst c18
    rw [if_neg nft] at H
    by_cases c19 : x3_1.length < 5864062014805; rotate_left
    ·rw [if_neg c19] at H
     exact absurd H (by simp)
    rw [if_pos c19] at H
    have LMc19:=Aside0.mk c19
    clear c19
    obtain ⟨y278,hy278⟩ : ∃ y_ : List (SElem),y_ = (x3_1 ++ [(⟨(rd_Elem x4_1 (ji5)).f0,(rd_Elem x4_1 (ji5)).f1,(rd_Elem x4_1 (ji5)).f2⟩ : SElem)]):=⟨_,rfl⟩
    first | rw [Option.bind_some,← hy278] at H | rw [← hy278] at H
    have Ny278:=Aside0.mk hy278
    clear hy278
    have H':=Aside0.mk H
    clear H
    obtain ⟨_,_,_,_,_,_⟩:=kc3 BK273
    go_wp2_with (first | ((with_reducible refine gate_builtin (b:=.append) (xs:=#[.tmp 27, .tmp 29]) rfl ?_); at_builtin; refine Kd.R_append kElem (w0:=w) w.heap.size rfl (.tmp 27) (.tmp 29) 23 43 (.agg #[(.int .i64 0),(.int .i64 0),(.int .i64 0)]) 24 rfl Tryd.underlying23 info43 rfl (by decide) (by omega) u3 x3_1 (⟨(rd_Elem x4_1 (ji5)).f0,(rd_Elem x4_1 (ji5)).f1,(rd_Elem x4_1 (ji5)).f2⟩ : SElem) [.int .i64 ((rd_Elem x4_1 (ji5)).f0), .int .i64 ((rd_Elem x4_1 (ji5)).f1), .int .i64 ((rd_Elem x4_1 (ji5)).f2)] (fun k_ => some k_ ≠ (.slice (some ad272) y274.length co11 : Value).ownBlock ∧ k_ ≠ gb273) (fun _ => False) rfl rfl ?aP (fun _ hk => hk.elim) ?aF ?aO ?aB ?aS ?aL ?_; (case aP => exact kElem_mkM _ _ _ (⟨(rd_Elem x4_1 (ji5)).f0,(rd_Elem x4_1 (ji5)).f1,(rd_Elem x4_1 (ji5)).f2⟩ : SElem)); (case aB => exact (bw HB)); (case aF => exact (fun k_ hk => ⟨Kd.fresh' (Kd.R_lt (rk HO276)) k_ hk,Kd.freshB (kk BK273) k_ hk⟩)); (case aO => exact (rk HO_3)); (case aS => exact (below_size (bw HB))); (case aL => have:=LMc19.out; omega); intro v279 w21 ho hb hg hat; rw [← Ny278.out] at ho; have n0_:=Aside0.mk (Kd.R_after (ok:=(fun k_ => k_ ≠ gb273)) (by (with_reducible repeat (first | apply Kd.R_alloc | apply Kd.R_drewN | apply Kd.R_drew)); exact Kd.R_mono HO276.out (fun _ hk => ⟨hk.2,hk.1⟩)) hg hat); have n1_:=Aside0.mk (blk_grown (kk BK273) hg (Kd.R_away HO_3.out (fun _ hk => hk.2))); have n2_:=Aside0.mk (hb); have n3_:=Aside0.mk (ho); clear HO276; clear BK273; clear HB; clear HO_3; have HO276:=n0_; have BK273:=n1_; have HB:=n2_; have HO280:=n3_; clear n0_ n1_ n2_ n3_; clear ho hb hg hat))
    go_meet
    case rel => exact ⟨_,(y278),H',⟨by have:=HK1.out; first | omega | exact Nat.le_refl _⟩,⟨rk HO280⟩,⟨by (with_reducible repeat (first | apply Kd.R_alloc | apply Kd.R_drewN | apply Kd.R_drew)); exact Kd.R_mono HO276.out (fun _ hk => ⟨hk.2,hk.1⟩)⟩,⟨kk BK273⟩,⟨bw HB⟩⟩
   case rest =>
    clear HC10
    try clear c4b0; try clear c4b1; try clear c6b0; try clear c7b0; try clear c8b0; try clear c8b1; try clear q15; try clear hx272_0; try clear hx272_1; try clear hx272_2; try clear p272; try clear q15; try clear q272
    obtain ⟨kq,x3_9,HA,HJ9,HO_3,HO_4,BK273,HB⟩:=hcut
    cases kq with
    | zero => exact absurd HA.out (by simp [r4_Order.j1])
    | succ kj9 =>
     have H:=HA.out
     clear HA
     simp only [r4_Order.j1] at H
     obtain ⟨t281,A22,H⟩:=bE H
     have H':=Aside0.mk H
     clear H
     obtain ⟨_,_,_,_,_,_⟩:=kc3 BK273
     go_wp2_with (first | ((with_reducible refine gate_callee (f:=26) rfl ?_); refine goesL_ (some 33) rfl rfl Tryd.func26 (by kernel_rfl) rfl #[.slice A0 l0.length c0, .agg #[.int .i64 ((rd_Elem x4_1 (ji5)).f0), .int .i64 ((rd_Elem x4_1 (ji5)).f1), .int .i64 ((rd_Elem x4_1 (ji5)).f2)]] rfl (by (try simp only [List.map_toArray,List.map_cons,List.map_nil]); first | done | (simp only [hji5]; rfl) | rfl | (simp only [List.length_drop,List.length_take]; rfl)) ?_; (with_reducible refine (r4_Under.calls kj9 _ _ l0 ((rd_Elem x4_1 (ji5)).f0) ((rd_Elem x4_1 (ji5)).f1) ((rd_Elem x4_1 (ji5)).f2) t281 _ ?side1 ?side2 ?side3 A22.out).mono ?_); (case side1 => exact cb HR0 HB); (case side2 => exact HC0.out); (case side3 => exact (hT.below (bw HB))); rintro e w24 ⟨v282,rfl,ho0,hb⟩; refine ⟨_,rfl, ?_⟩; have HO283:=Aside0.mk (Kd.R_lower (Kd.R_newB (Kd.R_new' (Kd.R_new' ho0 (Kd.R_lt (rk HO_3))) (Kd.R_lt (rk HO_4))) (kk BK273)) (below_size (bw HB))); replace HO_3:=Aside0.mk (Kd.R_elder' (rk HO_3) (Kd.R_base ho0) hb); replace HO_4:=Aside0.mk (Kd.R_elder' (rk HO_4) (Kd.R_base ho0) hb); replace BK273:=bl BK273 hb; replace HB:=bs HB hb; clear hb; clear ho0; obtain ⟨Ao25,co25,eo25⟩:=Kd.R_slice HO283.out; subst eo25))
     go_loopg [4,7] kj9 (fun kq v4 v7 w' => ∃ (x4_3 : List (SElem)) (x7_3 : Int),v7 = .int .i64 x7_3 ∧ Aside0 (r4_Order.l1 kq l0 x3_9 x4_3 t281 x7_3 = some r) ∧ Aside0 (kq ≤ kj9) ∧ Aside0 (Kd.R kElem 43 w' w.heap.size (fun k_ => some k_ ≠ (v4 : Value).ownBlock ∧ some k_ ≠ ((.slice Ao25 t281.length co25) : Value).ownBlock ∧ k_ ≠ gb273) u3 x3_9) ∧ Aside0 (Kd.R kElem 43 w' w.heap.size (fun k_ => some k_ ≠ (u3 : Value).ownBlock ∧ some k_ ≠ ((.slice Ao25 t281.length co25) : Value).ownBlock ∧ k_ ≠ gb273) v4 x4_3) ∧ Aside0 (Kd.R kElem 43 w' w.heap.size (fun k_ => some k_ ≠ (u3 : Value).ownBlock ∧ some k_ ≠ (v4 : Value).ownBlock ∧ k_ ≠ gb273) (.slice Ao25 t281.length co25) t281) ∧ Aside0 (w'.heap[gb273]? = some (.cells #[.int .i64 ((rd_Elem x4_1 (ji5)).f0), .int .i64 ((rd_Elem x4_1 (ji5)).f1), .int .i64 ((rd_Elem x4_1 (ji5)).f2)] 43 (0,0))) ∧ Aside0 (Below w.heap.size w w'))
     case atStart => exact ⟨(y274),(wrap64 ((t281.length : Int) - 1)),rf,H',⟨Nat.le_refl _⟩,⟨by (with_reducible repeat (first | apply Kd.R_alloc | apply Kd.R_drewN | apply Kd.R_drew)); exact Kd.R_mono HO_3.out (fun _ hk => ⟨hk.1.1,⟨hk.2,hk.1.2⟩⟩)⟩,⟨by (with_reducible repeat (first | apply Kd.R_alloc | apply Kd.R_drewN | apply Kd.R_drew)); exact Kd.R_mono HO_4.out (fun _ hk => ⟨hk.1.1,⟨hk.2,hk.1.2⟩⟩)⟩,⟨by (with_reducible repeat (first | apply Kd.R_alloc | apply Kd.R_drewN | apply Kd.R_drew)); exact Kd.R_mono HO283.out (fun _ hk => ⟨hk.1.1.2,⟨hk.1.2,hk.2⟩⟩)⟩,⟨kk BK273⟩,⟨bw HB⟩⟩
     case round =>
      clear H'
      obtain ⟨x4_3,x7_3,rfl,HA,HK3,HO_3,HO_4,HO_6,BK273,HB⟩:=hrel
      cases gk with
      | zero => exact absurd HA.out (by simp [r4_Order.l1])
      | succ k3 =>
       have H:=HA.out
       clear HA
       simp only [r4_Order.l1] at H
       by_cases c26 : x7_3 ≥ 0; rotate_left
       ·rw [if_neg c26] at H
        have c26b0:=decide_eq_false c26
        clear c26
        have H':=Aside0.mk H
        clear H
        go_wp2
        go_roundg k3
        case measure => have:=HK1.out; have:=HJ9.out; have:=HK3.out; omega
        case rel => exact ⟨(x3_9),(x4_3),H',⟨by have:=HK1.out; have:=HJ9.out; have:=HK3.out; omega⟩,⟨by (with_reducible repeat (first | apply Kd.R_alloc | apply Kd.R_drewN | apply Kd.R_drew)); exact Kd.R_mono HO_3.out (fun _ hk => hk.1)⟩,⟨by (with_reducible repeat (first | apply Kd.R_alloc | apply Kd.R_drewN | apply Kd.R_drew)); exact Kd.R_mono HO_4.out (fun _ hk => hk.1)⟩,⟨bw HB⟩⟩
       rw [if_pos c26] at H
       have c26b0:=decide_eq_true c26
       clear c26
       by_cases c27 : 0 ≤ x7_3; rotate_left
       ·rw [if_neg c27] at H
        exact absurd H (by simp)
       rw [if_pos c27] at H
       have c27b0:=decide_eq_true c27
       clear c27
       by_cases c28 : x7_3 < (t281.length : Int); rotate_left
       ·rw [if_neg c28] at H
        exact absurd H (by simp)
       rw [if_pos c28] at H
       have c28b0:=decide_eq_true c28
       clear c28
       by_cases c29 : x4_3.length < 5864062014805; rotate_left
       ·rw [if_neg c29] at H
        exact absurd H (by simp)
       rw [if_pos c29] at H
       have LMc29:=Aside0.mk c29
       clear c29
       obtain ⟨y285,hy285⟩ : ∃ y_ : List (SElem),y_ = (x4_3 ++ [(⟨(rd_Elem t281 x7_3).f0,(rd_Elem t281 x7_3).f1,(rd_Elem t281 x7_3).f2⟩ : SElem)]):=⟨_,rfl⟩
       first | rw [Option.bind_some,← hy285] at H | rw [← hy285] at H
       have Ny285:=Aside0.mk hy285
       clear hy285
       have H':=Aside0.mk H
       clear H
       have p284 : 0 ≤ (x7_3 : Int):=od
       have q284 : x7_3 < (t281.length : Int):=od
       obtain ⟨ad284,e284,hx284_0,hx284_1,hx284_2⟩:=at_Elem (Kd.R_reads' HO_6.out).2.2 x7_3 p284 q284
       cases e284
       replace p284:=eq_true p284
       replace q284:=eq_true q284
       go_wp2_with (first | ((with_reducible refine gate_builtin (b:=.append) (xs:=#[.tmp 41, .tmp 46]) rfl ?_); at_builtin; refine Kd.R_append kElem (w0:=w) w.heap.size rfl (.tmp 41) (.tmp 46) 23 43 (.agg #[(.int .i64 0),(.int .i64 0),(.int .i64 0)]) 24 rfl Tryd.underlying23 info43 rfl (by decide) (by omega) u4 x4_3 (⟨(rd_Elem t281 x7_3).f0,(rd_Elem t281 x7_3).f1,(rd_Elem t281 x7_3).f2⟩ : SElem) [.int .i64 ((rd_Elem t281 x7_3).f0), .int .i64 ((rd_Elem t281 x7_3).f1), .int .i64 ((rd_Elem t281 x7_3).f2)] (fun k_ => some k_ ≠ (u3 : Value).ownBlock ∧ some k_ ≠ (.slice (some ad284) t281.length co25 : Value).ownBlock ∧ k_ ≠ gb273) (fun _ => False) rfl rfl ?aP (fun _ hk => hk.elim) ?aF ?aO ?aB ?aS ?aL ?_; (case aP => exact kElem_mkM _ _ _ (⟨(rd_Elem t281 x7_3).f0,(rd_Elem t281 x7_3).f1,(rd_Elem t281 x7_3).f2⟩ : SElem)); (case aB => exact (bw HB)); (case aF => exact (fun k_ hk => ⟨Kd.fresh' (Kd.R_lt (rk HO_3)) k_ hk,Kd.fresh' (Kd.R_lt (rk HO_6)) k_ hk,Kd.freshB (kk BK273) k_ hk⟩)); (case aO => exact (rk HO_4)); (case aS => exact (below_size (bw HB))); (case aL => have:=LMc29.out; omega); intro v286 w30 ho hb hg hat; rw [← Ny285.out] at ho; have n0_:=Aside0.mk (Kd.R_after (ok:=(fun k_ => some k_ ≠ (.slice (some ad284) t281.length co25 : Value).ownBlock ∧ k_ ≠ gb273)) (by (with_reducible repeat (first | apply Kd.R_alloc | apply Kd.R_drewN | apply Kd.R_drew)); exact Kd.R_mono HO_3.out (fun _ hk => ⟨⟨hk.2.1,hk.2.2⟩,hk.1⟩)) hg hat); have n1_:=Aside0.mk (Kd.R_after (ok:=(fun k_ => some k_ ≠ (u3 : Value).ownBlock ∧ k_ ≠ gb273)) (by (with_reducible repeat (first | apply Kd.R_alloc | apply Kd.R_drewN | apply Kd.R_drew)); exact Kd.R_mono HO_6.out (fun _ hk => ⟨⟨hk.1,hk.2.2⟩,hk.2.1⟩)) hg hat); have n2_:=Aside0.mk (blk_grown (kk BK273) hg (Kd.R_away HO_4.out (fun _ hk => hk.2.2))); have n3_:=Aside0.mk (hb); have n4_:=Aside0.mk (ho); clear HO_3; clear HO_6; clear BK273; clear HB; clear HO_4; have HO_3:=n0_; have HO_6:=n1_; have BK273:=n2_; have HB:=n3_; have HO287:=n4_; clear n0_ n1_ n2_ n3_ n4_; clear ho hb hg hat))
       go_roundg k3
       case measure => have:=HK1.out; have:=HJ9.out; have:=HK3.out; omega
       case rel => exact ⟨(y285),(wrap64 (x7_3 - 1)),rf,H',⟨by have:=HK1.out; have:=HJ9.out; have:=HK3.out; omega⟩,⟨by (with_reducible repeat (first | apply Kd.R_alloc | apply Kd.R_drewN | apply Kd.R_drew)); exact Kd.R_mono HO_3.out (fun _ hk => ⟨hk.2,⟨hk.1.1,hk.1.2⟩⟩)⟩,⟨rk HO287⟩,⟨by (with_reducible repeat (first | apply Kd.R_alloc | apply Kd.R_drewN | apply Kd.R_drew)); exact Kd.R_mono HO_6.out (fun _ hk => ⟨hk.1.1,⟨hk.2,hk.1.2⟩⟩)⟩,⟨kk BK273⟩,⟨bw HB⟩⟩
def r0_At.l0 : Nat → List (SElem) → Int → Int → Int → Int → Option (Int)
 | 0,_,_,_,_,_ => none
 | k + 1,x0,x5,x289000,x289001,x289002 => if x5 < (x0.length : Int) then (if 0 ≤ x5 then (if (((rd_Elem x0 x5).f0) == x289000 && (((rd_Elem x0 x5).f1) == x289001 && (((rd_Elem x0 x5).f2) == x289002))) = true then (some x5) else (r0_At.l0 k x0 (wrap64 (x5 + 1)) x289000 x289001 x289002)) else (none)) else (some (-1))
def r0_At.f (k : Nat) (l0 : List (SElem)) (a1_0 : Int) (a1_1 : Int) (a1_2 : Int) : Option (Int):=r0_At.l0 k l0 0 a1_0 a1_1 a1_2
set_option maxHeartbeats 8000000 in
set_option maxRecDepth 100000 in
theorem r0_At.calls (k : Nat) (A0 : Option Addr) (c0 : Nat) (l0 : List (SElem)) (a1_0 : Int) (a1_1 : Int) (a1_2 : Int) (r : Int) (w : World) (hr0 : Kd.C kElem w A0 l0.length l0) (hc0 : l0.length ≤ c0) (h : r0_At.f k l0 a1_0 a1_1 a1_2 = some r) :
  Calls Tryd.prog 24 #[.slice A0 l0.length c0, .agg #[.int .i64 a1_0, .int .i64 a1_1, .int .i64 a1_2]] w fun e w' => e = .returned (.int .i64 r) ∧ Below w.heap.size w w':=by
 have hu43:=Tryd.underlying43
 have HR0:=Aside0.mk hr0
 have HC0:=Aside0.mk hc0
 clear hr0 hc0
 have HB:=Aside0.mk (Below.refl w.heap.size w)
 unfold r0_At.f at h; have H:=h
 clear h
 have H':=Aside0.mk H
 clear H
 go_enter Tryd.func24,Tryd.ntmps24
 go_wp2_with (first | ((with_reducible refine gate_dst (N:=3) rfl ?_); refine bx 3 #[.int .i64 a1_0, .int .i64 a1_1, .int .i64 a1_2] 43 (h := ?_); intro gb288 hg w3 hbox hb; have BK288:=Aside0.mk (hbox); have GW288:=bz HB hg; have GE288:=bz HB hg; replace HB:=bs HB hb; clear hb hbox hg))
 repeat (go_quiet (first | ((with_reducible refine gate_dst (N:=3) rfl ?_); refine bx 3 #[.int .i64 a1_0, .int .i64 a1_1, .int .i64 a1_2] 43 (h := ?_); intro gb288 hg w3 hbox hb; have BK288:=Aside0.mk (hbox); have GW288:=bz HB hg; have GE288:=bz HB hg; replace HB:=bs HB hb; clear hb hbox hg)); try go_wp2_with (first | ((with_reducible refine gate_dst (N:=3) rfl ?_); refine bx 3 #[.int .i64 a1_0, .int .i64 a1_1, .int .i64 a1_2] 43 (h := ?_); intro gb288 hg w3 hbox hb; have BK288:=Aside0.mk (hbox); have GW288:=bz HB hg; have GE288:=bz HB hg; replace HB:=bs HB hb; clear hb hbox hg)))
 go_loopg [5] k (fun kq v5 w' => ∃ (x5_1 : Int),v5 = .int .i64 x5_1 ∧ Aside0 (r0_At.l0 kq l0 x5_1 a1_0 a1_1 a1_2 = some r) ∧ Aside0 (kq ≤ k) ∧ Aside0 (w'.heap[gb288]? = some (.cells #[.int .i64 a1_0, .int .i64 a1_1, .int .i64 a1_2] 43 (0,0))) ∧ Aside0 (Below w.heap.size w w'))
 case atStart => exact ⟨(0),rf,H',⟨Nat.le_refl _⟩,⟨kk BK288⟩,⟨bw HB⟩⟩
 case round =>
  clear H'
  obtain ⟨x5_1,rfl,HA,HK1,BK288,HB⟩:=hrel
  cases gk with
  | zero => exact absurd HA.out (by simp [r0_At.l0])
  | succ k1 =>
   have H:=HA.out
   clear HA
   simp only [r0_At.l0] at H
   by_cases c4 : x5_1 < (l0.length : Int); rotate_left
   ·rw [if_neg c4] at H
    have c4b0:=decide_eq_false c4
    clear c4
    obtain rfl:=Option.some.inj H
    go_wp2
    repeat (go_quiet (fail); try go_wp2)
    go_ret
    exact ⟨re,bw HB⟩
   rw [if_pos c4] at H
   have c4b0:=decide_eq_true c4
   clear c4
   by_cases c5 : 0 ≤ x5_1; rotate_left
   ·rw [if_neg c5] at H
    exact absurd H (by simp)
   rw [if_pos c5] at H
   have c5b0:=decide_eq_true c5
   clear c5
   by_cases c6 : (((rd_Elem l0 x5_1).f0) == a1_0 && (((rd_Elem l0 x5_1).f1) == a1_1 && (((rd_Elem l0 x5_1).f2) == a1_2))) = true
   ·rw [if_pos c6] at H
    have c6b0 : (((rd_Elem l0 x5_1).f0) == a1_0 && (((rd_Elem l0 x5_1).f1) == a1_1 && (((rd_Elem l0 x5_1).f2) == a1_2))) = true:=c6
    (try (have c6b1 : decide (((rd_Elem l0 x5_1).f0) = a1_0 && (((rd_Elem l0 x5_1).f1) == a1_1 && (((rd_Elem l0 x5_1).f2) == a1_2))) = true:=by simpa using c6))
    (try (have c6b2 : (((rd_Elem l0 x5_1).f0) == a1_0 && (((rd_Elem l0 x5_1).f1) == a1_1 && (((rd_Elem l0 x5_1).f2) == a1_2))) = true:=by simpa using c6))
    clear c6
    obtain rfl:=Option.some.inj H
    have p289 : 0 ≤ (x5_1 : Int):=od
    have q289 : x5_1 < (l0.length : Int):=od
    obtain ⟨ad289,e289,hx289_0,hx289_1,hx289_2⟩:=at_Elem HR0.out x5_1 p289 q289
    cases e289
    replace hx289_0:=cl HB hx289_0
    replace hx289_1:=cl HB hx289_1
    replace hx289_2:=cl HB hx289_2
    replace p289:=eq_true p289
    replace q289:=eq_true q289
    obtain ⟨_,_,_,_,_,_⟩:=kc3 BK288
    go_wp2
    repeat (go_quiet (fail); try go_wp2)
    go_ret
    exact ⟨re,bw HB⟩
   rw [if_neg c6] at H
   have c6b0 : (((rd_Elem l0 x5_1).f0) == a1_0 && (((rd_Elem l0 x5_1).f1) == a1_1 && (((rd_Elem l0 x5_1).f2) == a1_2))) = false:=by simpa using c6
   (try (have c6b1 : decide (((rd_Elem l0 x5_1).f0) = a1_0 && (((rd_Elem l0 x5_1).f1) == a1_1 && (((rd_Elem l0 x5_1).f2) == a1_2))) = false:=by simpa using c6))
   (try (have c6b2 : (((rd_Elem l0 x5_1).f0) == a1_0 && (((rd_Elem l0 x5_1).f1) == a1_1 && (((rd_Elem l0 x5_1).f2) == a1_2))) = false:=by simpa using c6))
   (try (have c6b3 : ¬ (((rd_Elem l0 x5_1).f0) = a1_0 && (((rd_Elem l0 x5_1).f1) == a1_1 && (((rd_Elem l0 x5_1).f2) == a1_2))):=by simpa using c6))
   clear c6
   have H':=Aside0.mk H
   clear H
   have p289 : 0 ≤ (x5_1 : Int):=od
   have q289 : x5_1 < (l0.length : Int):=od
   obtain ⟨ad289,e289,hx289_0,hx289_1,hx289_2⟩:=at_Elem HR0.out x5_1 p289 q289
   cases e289
   replace hx289_0:=cl HB hx289_0
   replace hx289_1:=cl HB hx289_1
   replace hx289_2:=cl HB hx289_2
   replace p289:=eq_true p289
   replace q289:=eq_true q289
   obtain ⟨_,_,_,_,_,_⟩:=kc3 BK288
   go_wp2
   repeat (go_quiet (fail); try go_wp2)
   go_roundg k1
   case measure => have:=HK1.out; omega
   case rel => exact ⟨(wrap64 (x5_1 + 1)),rf,H',⟨by have:=HK1.out; omega⟩,⟨kk BK288⟩,⟨bw HB⟩⟩
def r4_Count.l0 : Nat → List (SOp) → Int → Int → Int → Int → Option (Int)
 | 0,_,_,_,_,_ => none
 | k + 1,x0,x1,x2,x7,x8 => if x8 < (x0.length : Int) then (if 0 ≤ x8 then (if ((rd_Op x0 x8).f2) = 2 then (if ((rd_Op x0 x8).f6) = x1 then (if ((rd_Op x0 x8).f7) = x2 then (if ((rd_Op x0 x8).f8) = x7 then (r4_Count.l0 k x0 x1 x2 (wrap64 (x7 + 1)) (wrap64 (x8 + 1))) else (r4_Count.l0 k x0 x1 x2 x7 (wrap64 (x8 + 1)))) else (r4_Count.l0 k x0 x1 x2 x7 (wrap64 (x8 + 1)))) else (r4_Count.l0 k x0 x1 x2 x7 (wrap64 (x8 + 1)))) else (r4_Count.l0 k x0 x1 x2 x7 (wrap64 (x8 + 1)))) else (none)) else (some x7)
def r4_Count.f (k : Nat) (l0 : List (SOp)) (a1 : Int) (a2 : Int) : Option (Int):=r4_Count.l0 k l0 a1 a2 0 0
set_option maxHeartbeats 8000000 in
set_option maxRecDepth 100000 in
theorem r4_Count.calls (k : Nat) (A0 : Option Addr) (c0 : Nat) (l0 : List (SOp)) (a1 : Int) (a2 : Int) (r : Int) (w : World) (hr0 : Kd.C kOp w A0 l0.length l0) (hc0 : l0.length ≤ c0) (h : r4_Count.f k l0 a1 a2 = some r) :
  Calls Tryd.prog 69 #[.slice A0 l0.length c0, .int .i64 a1, .int .i64 a2] w fun e w' => e = .returned (.int .i64 r) ∧ Drawn0 w w':=by
 have HR0:=Aside0.mk hr0
 have HC0:=Aside0.mk hc0
 clear hr0 hc0
 unfold r4_Count.f at h; have H:=h
 clear h
 have H':=Aside0.mk H
 clear H
 go_enter Tryd.func69,Tryd.ntmps69
 go_wp2
 go_loopg [7,8] k (fun kq v7 v8 w' => ∃ (x7_1 : Int) (x8_1 : Int),v7 = .int .i64 x7_1 ∧ v8 = .int .i64 x8_1 ∧ Aside0 (r4_Count.l0 kq l0 a1 a2 x7_1 x8_1 = some r) ∧ Aside0 (kq ≤ k) ∧ Drawn0 w w')
 case atStart => exact ⟨(0),(0),rf,rf,H',⟨Nat.le_refl _⟩,by repeat (first | exact Drawn0.refl _ | apply Drawn0.step)⟩
 case round =>
  clear H'
  obtain ⟨x7_1,x8_1,rfl,rfl,HA,HK1,⟨m1,rfl⟩⟩:=hrel
  cases gk with
  | zero => exact absurd HA.out (by simp [r4_Count.l0])
  | succ k1 =>
   have H:=HA.out
   clear HA
   simp only [r4_Count.l0] at H
   by_cases c4 : x8_1 < (l0.length : Int); rotate_left
   ·rw [if_neg c4] at H
    have c4b0:=decide_eq_false c4
    clear c4
    obtain rfl:=Option.some.inj H
    go_wp2
    go_ret
    exact ⟨rf,by repeat (first | exact Drawn0.refl _ | apply Drawn0.step)⟩
   rw [if_pos c4] at H
   have c4b0:=decide_eq_true c4
   clear c4
   by_cases c5 : 0 ≤ x8_1; rotate_left
   ·rw [if_neg c5] at H
    exact absurd H (by simp)
   rw [if_pos c5] at H
   have c5b0:=decide_eq_true c5
   clear c5
   by_cases c6 : ((rd_Op l0 x8_1).f2) = 2; rotate_left
   ·rw [if_neg c6] at H
    obtain ⟨c6b0,c6b1⟩:=bF c6
    have H':=Aside0.mk H
    clear H
    have p290 : 0 ≤ (x8_1 : Int):=od
    have q290 : x8_1 < (l0.length : Int):=od
    obtain ⟨ad290,A290_7,c290_7,e290,hx290_0,hx290_1,hx290_2,hx290_3,hx290_4,hx290_5,hx290_6,hx290_7,hx290_8,hx290_9,hx290_10,hl290_7,hi290_7⟩:=at_Op HR0.out x8_1 p290 q290
    cases e290
    have HR290_7:=Aside0.mk hi290_7
    have HC290_7:=Aside0.mk hl290_7
    clear hi290_7 hl290_7
    replace p290:=eq_true p290
    replace q290:=eq_true q290
    go_wp2
    go_roundg k1
    case measure => have:=HK1.out; omega
    case rel => exact ⟨(x7_1),(wrap64 (x8_1 + 1)),rf,rf,H',⟨by have:=HK1.out; omega⟩,by repeat (first | exact Drawn0.refl _ | apply Drawn0.step)⟩
   rw [if_pos c6] at H
   obtain ⟨c6b0,c6b1⟩:=bT c6
   clear c6
   by_cases c7 : ((rd_Op l0 x8_1).f6) = a1; rotate_left
   ·rw [if_neg c7] at H
    obtain ⟨c7b0,c7b1⟩:=bF c7
    have H':=Aside0.mk H
    clear H
    have p290 : 0 ≤ (x8_1 : Int):=od
    have q290 : x8_1 < (l0.length : Int):=od
    obtain ⟨ad290,A290_7,c290_7,e290,hx290_0,hx290_1,hx290_2,hx290_3,hx290_4,hx290_5,hx290_6,hx290_7,hx290_8,hx290_9,hx290_10,hl290_7,hi290_7⟩:=at_Op HR0.out x8_1 p290 q290
    cases e290
    have HR290_7:=Aside0.mk hi290_7
    have HC290_7:=Aside0.mk hl290_7
    clear hi290_7 hl290_7
    replace p290:=eq_true p290
    replace q290:=eq_true q290
    go_wp2
    go_roundg k1
    case measure => have:=HK1.out; omega
    case rel => exact ⟨(x7_1),(wrap64 (x8_1 + 1)),rf,rf,H',⟨by have:=HK1.out; omega⟩,by repeat (first | exact Drawn0.refl _ | apply Drawn0.step)⟩
   rw [if_pos c7] at H
   obtain ⟨c7b0,c7b1⟩:=bT c7
   clear c7
   by_cases c8 : ((rd_Op l0 x8_1).f7) = a2; rotate_left
   ·rw [if_neg c8] at H
    obtain ⟨c8b0,c8b1⟩:=bF c8
    have H':=Aside0.mk H
    clear H
    have p290 : 0 ≤ (x8_1 : Int):=od
    have q290 : x8_1 < (l0.length : Int):=od
    obtain ⟨ad290,A290_7,c290_7,e290,hx290_0,hx290_1,hx290_2,hx290_3,hx290_4,hx290_5,hx290_6,hx290_7,hx290_8,hx290_9,hx290_10,hl290_7,hi290_7⟩:=at_Op HR0.out x8_1 p290 q290
    cases e290
    have HR290_7:=Aside0.mk hi290_7
    have HC290_7:=Aside0.mk hl290_7
    clear hi290_7 hl290_7
    replace p290:=eq_true p290
    replace q290:=eq_true q290
    go_wp2
    go_roundg k1
    case measure => have:=HK1.out; omega
    case rel => exact ⟨(x7_1),(wrap64 (x8_1 + 1)),rf,rf,H',⟨by have:=HK1.out; omega⟩,by repeat (first | exact Drawn0.refl _ | apply Drawn0.step)⟩
   rw [if_pos c8] at H
   obtain ⟨c8b0,c8b1⟩:=bT c8
   clear c8
   by_cases c9 : ((rd_Op l0 x8_1).f8) = x7_1
   ·rw [if_pos c9] at H
    obtain ⟨c9b0,c9b1⟩:=bT c9
    clear c9
    have H':=Aside0.mk H
    clear H
    have p290 : 0 ≤ (x8_1 : Int):=od
    have q290 : x8_1 < (l0.length : Int):=od
    obtain ⟨ad290,A290_7,c290_7,e290,hx290_0,hx290_1,hx290_2,hx290_3,hx290_4,hx290_5,hx290_6,hx290_7,hx290_8,hx290_9,hx290_10,hl290_7,hi290_7⟩:=at_Op HR0.out x8_1 p290 q290
    cases e290
    have HR290_7:=Aside0.mk hi290_7
    have HC290_7:=Aside0.mk hl290_7
    clear hi290_7 hl290_7
    replace p290:=eq_true p290
    replace q290:=eq_true q290
    go_wp2
    go_roundg k1
    case measure => have:=HK1.out; omega
    case rel => exact ⟨(wrap64 (x7_1 + 1)),(wrap64 (x8_1 + 1)),rf,rf,H',⟨by have:=HK1.out; omega⟩,by repeat (first | exact Drawn0.refl _ | apply Drawn0.step)⟩
   rw [if_neg c9] at H
   obtain ⟨c9b0,c9b1⟩:=bF c9
   have H':=Aside0.mk H
   clear H
   have p290 : 0 ≤ (x8_1 : Int):=od
   have q290 : x8_1 < (l0.length : Int):=od
   obtain ⟨ad290,A290_7,c290_7,e290,hx290_0,hx290_1,hx290_2,hx290_3,hx290_4,hx290_5,hx290_6,hx290_7,hx290_8,hx290_9,hx290_10,hl290_7,hi290_7⟩:=at_Op HR0.out x8_1 p290 q290
   cases e290
   have HR290_7:=Aside0.mk hi290_7
   have HC290_7:=Aside0.mk hl290_7
   clear hi290_7 hl290_7
   replace p290:=eq_true p290
   replace q290:=eq_true q290
   go_wp2
   go_roundg k1
   case measure => have:=HK1.out; omega
   case rel => exact ⟨(x7_1),(wrap64 (x8_1 + 1)),rf,rf,H',⟨by have:=HK1.out; omega⟩,by repeat (first | exact Drawn0.refl _ | apply Drawn0.step)⟩
def r4_Effective.f (k : Nat) (l0 : List (SOp)) (a1 : Int) (a2 : Int) : Option (Bool):=(r4_Count.f k l0 a1 a2).bind fun t294 => (some ((Int.tmod t294 2) == 0))
set_option maxHeartbeats 8000000 in
set_option maxRecDepth 100000 in
theorem r4_Effective.calls (k : Nat) (A0 : Option Addr) (c0 : Nat) (l0 : List (SOp)) (a1 : Int) (a2 : Int) (r : Bool) (w : World) (hr0 : Kd.C kOp w A0 l0.length l0) (hc0 : l0.length ≤ c0) (h : r4_Effective.f k l0 a1 a2 = some r) :
  Calls Tryd.prog 75 #[.slice A0 l0.length c0, .int .i64 a1, .int .i64 a2] w fun e w' => e = .returned (.bool r) ∧ Drawn0 w w':=by
 have HR0:=Aside0.mk hr0
 have HC0:=Aside0.mk hc0
 clear hr0 hc0
 unfold r4_Effective.f at h; have H:=h
 clear h
 obtain ⟨t294,A4,H⟩:=bE H
 obtain rfl:=Option.some.inj H
 go_enter Tryd.func75,Tryd.ntmps75
 go_wp2_with (first | ((with_reducible refine gate_callee (f:=69) rfl ?_); refine gl (some 10) Tryd.func69 #[.slice A0 l0.length c0, .int .i64 a1, .int .i64 a2] (h := ?_); (with_reducible refine (r4_Count.calls k _ _ l0 a1 a2 t294 _ ?side1 ?side2 A4.out).mono ?_); (case side1 => repeat (first | exact HR0.out | (with_reducible refine Kd.C_alloc ?_ _) | (with_reducible refine Kd.C_drewN ?_ _) | (with_reducible refine Kd.C_drew ?_))); (case side2 => exact HC0.out); rintro e w' ⟨rfl,⟨nd,rfl⟩⟩; refine ⟨_,rfl, ?_⟩))
 go_ret
 exact ⟨rf,by repeat (first | exact Drawn0.refl _ | apply Drawn0.step)⟩
end Go.Proofs.YtonoaflfobajcaaDoor.L
end
