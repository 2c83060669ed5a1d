/- Part 8 of the proof that for every argument the laws CaretDeletes and CaretUndoes answer true: what goes ahead of a caret moves it by so much, where its own element goes it stands where that was; behind a toggle, and another one of the same edit, a caret is where it was. -/
import Derived.Test.YtonoaflfobajcaaDoorZCA7
section
namespace Go.Proofs.YtonoaflfobajcaaDoor.L
open Go.RowKit Go.Proofs.YtonoaflfobajcaaDoorW.PrintWords Go.Proofs.YtonoaflfobajcaaDoorW.PrintLast Go.Proofs.YtonoaflfobajcaaDoorW.PrintMore
set_option linter.unusedVariables false
set_option linter.unusedSimpArgs false
set_option maxHeartbeats 40000000
set_option maxRecDepth 1000000
section
attribute [local go_sem] Qbp Qbn Qby Qbx Qbc Qbb Qbo Qbm
def r4_Fits.l0 : Nat → List (SOp) → Int → Int → Option (Bool)
 | 0,_,_,_ => none
 | k + 1,x0,x3,x4 => if x4 < (x0.length : Int) then (if x4 ≤ 40 then (if 0 ≤ x4 then ((r4_Runes.f k ((Qad x0 x4).f0) ((Qad x0 x4).f1) ((Qad x0 x4).f2) ((Qad x0 x4).f3.f0) ((Qad x0 x4).f3.f1) ((Qad x0 x4).f3.f2) ((Qad x0 x4).f4) ((Qad x0 x4).f5) ((Qad x0 x4).f6) ((Qad x0 x4).f7) ((Qad x0 x4).f8)).bind fun t222 => (r4_Fits.l0 k x0 (wrap64 (x3 + t222)) (wrap64 (x4 + 1)))) else (none)) else (if (x0.length : Int) ≤ 40 then (some (decide (x3 ≤ 200))) else (some false))) else (if (x0.length : Int) ≤ 40 then (some (decide (x3 ≤ 200))) else (some false))
def r4_Fits.f (k : Nat) (l0 : List (SOp)) : Option (Bool):=r4_Fits.l0 k l0 0 0
theorem r4_Fits.calls (k : Nat) (A0 : Option Addr) (c0 : Nat) (l0 : List (SOp)) (r : Bool) (w : World) (hr0 : Kd.C kOp w A0 l0.length l0) (hc0 : l0.length ≤ c0) (hT : GT w) (h : r4_Fits.f k l0 = some r) :
  Calls Tryd.prog 59 #[.slice A0 l0.length c0] w fun e w' => e = .returned (.bool r) ∧ Below w.heap.size w w':=by
 have hu55:=Tryd.underlying55
 have HR0:=Aside0.mk hr0
 have HC0:=Aside0.mk hc0
 clear hr0 hc0
 have HB:=Aside0.mk (Below.refl w.heap.size w)
 unfold r4_Fits.f at h; have H:=h
 clear h
 have H':=Aside0.mk H
 clear H
 go_enter Tryd.func59,Tryd.ntmps59
 go_wp2
 go_loopg [3,4] k (fun kq v3 v4 w' => ∃ (x3_1 : Int) (x4_1 : Int),v3 = .int .i64 x3_1 ∧ v4 = .int .i64 x4_1 ∧ Aside0 (r4_Fits.l0 kq l0 x3_1 x4_1 = some r) ∧ Aside0 (kq ≤ k) ∧ Aside0 (Below w.heap.size w w'))
 case atStart => exact ⟨(0),(0),rf,rf,H',⟨Nat.le_refl _⟩,⟨bw HB⟩⟩
 case round =>
  clear H'
  obtain ⟨x3_1,x4_1,rfl,rfl,HA,HK1,HB⟩:=hrel
  cases gk with
  | zero => exact absurd HA.out (by simp [r4_Fits.l0])
  | succ k1 =>
   have H:=HA.out
   clear HA
   simp only [r4_Fits.l0] at H
   by_cases c2 : x4_1 < (l0.length : Int); rotate_left
   ·rw [if_neg c2] at H
    have c2b0:=decide_eq_false c2
    clear c2
    by_cases c8 : (l0.length : Int) ≤ 40
    ·rw [if_pos c8] at H
     have c8b0:=decide_eq_true c8
     have c8b1 : decide (l0.length ≤ 40) = true:=decide_eq_true (by omega)
     clear c8
     obtain rfl:=Option.some.inj H
     go_wp2
     go_ret
     exact ⟨re,bw HB⟩
    rw [if_neg c8] at H
    have c8b0:=decide_eq_false c8
    have c8b1 : decide (l0.length ≤ 40) = false:=decide_eq_false (by omega)
    clear c8
    obtain rfl:=Option.some.inj H
    go_wp2
    go_ret
    exact ⟨re,bw HB⟩
   rw [if_pos c2] at H
   have c2b0:=decide_eq_true c2
   clear c2
   by_cases c3 : x4_1 ≤ 40; rotate_left
   ·rw [if_neg c3] at H
    have c3b0:=decide_eq_false c3
    clear c3
    by_cases c7 : (l0.length : Int) ≤ 40
    ·rw [if_pos c7] at H
     have c7b0:=decide_eq_true c7
     have c7b1 : decide (l0.length ≤ 40) = true:=decide_eq_true (by omega)
     clear c7
     obtain rfl:=Option.some.inj H
     go_wp2
     go_ret
     exact ⟨re,bw HB⟩
    rw [if_neg c7] at H
    have c7b0:=decide_eq_false c7
    have c7b1 : decide (l0.length ≤ 40) = false:=decide_eq_false (by omega)
    clear c7
    obtain rfl:=Option.some.inj H
    go_wp2
    go_ret
    exact ⟨re,bw HB⟩
   rw [if_pos c3] at H
   have c3b0:=decide_eq_true c3
   clear c3
   by_cases c4 : 0 ≤ x4_1; rotate_left
   ·rw [if_neg c4] at H
    exact absurd H (by simp)
   rw [if_pos c4] at H
   have c4b0:=decide_eq_true c4
   clear c4
   obtain ⟨t222,A5,H⟩:=bE H
   have H':=Aside0.mk H
   clear H
   have p221 : 0 ≤ (x4_1 : Int):=od
   have q221 : x4_1 < (l0.length : Int):=od
   obtain ⟨ad221,A221_7,c221_7,e221,hx221_0,hx221_1,hx221_2,hx221_3,hx221_4,hx221_5,hx221_6,hx221_7,hx221_8,hx221_9,hx221_10,hl221_7,hi221_7⟩:=Qck HR0.out x4_1 p221 q221
   cases e221
   replace hx221_0:=cl HB hx221_0
   replace hx221_1:=cl HB hx221_1
   replace hx221_2:=cl HB hx221_2
   replace hx221_3:=cl HB hx221_3
   replace hx221_4:=cl HB hx221_4
   replace hx221_5:=cl HB hx221_5
   replace hx221_6:=cl HB hx221_6
   replace hx221_7:=cl HB hx221_7
   replace hx221_8:=cl HB hx221_8
   replace hx221_9:=cl HB hx221_9
   replace hx221_10:=cl HB hx221_10
   have HR221_7:=Aside0.mk hi221_7
   have HC221_7:=Aside0.mk hl221_7
   clear hi221_7 hl221_7
   replace p221:=eq_true p221
   replace q221:=eq_true q221
   go_wp2_with (first | ((with_reducible refine Qab (f:=94) rfl ?_); refine gl (some 20) Tryd.func94 #[.agg #[.int .i64 ((Qad l0 x4_1).f0), .int .i64 ((Qad l0 x4_1).f1), .int .i64 ((Qad l0 x4_1).f2), .int .i64 ((Qad l0 x4_1).f3.f0), .int .i64 ((Qad l0 x4_1).f3.f1), .int .i64 ((Qad l0 x4_1).f3.f2), .string ((Qad l0 x4_1).f4), .slice A221_7 ((Qad l0 x4_1).f5).length c221_7, .int .i64 ((Qad l0 x4_1).f6), .int .i64 ((Qad l0 x4_1).f7), .int .i64 ((Qad l0 x4_1).f8)]] (h := ?_); (with_reducible refine (r4_Runes.calls k1 ((Qad l0 x4_1).f0) ((Qad l0 x4_1).f1) ((Qad l0 x4_1).f2) ((Qad l0 x4_1).f3.f0) ((Qad l0 x4_1).f3.f1) ((Qad l0 x4_1).f3.f2) ((Qad l0 x4_1).f4) _ _ ((Qad l0 x4_1).f5) ((Qad l0 x4_1).f6) ((Qad l0 x4_1).f7) ((Qad l0 x4_1).f8) t222 _ ?side1 ?side2 ?side3 A5.out).mono ?_); (case side1 => exact cb HR221_7 HB); (case side2 => exact HC221_7.out); (case side3 => exact (hT.below (bw HB))); rintro e w6 ⟨rfl,hb⟩; refine ⟨_,rfl, ?_⟩; replace HB:=bs HB hb; clear hb))
   go_roundg k1
   case measure => have:=HK1.out; omega
   case rel => exact ⟨(wrap64 (x3_1 + t222)),(wrap64 (x4_1 + 1)),rf,rf,H',⟨by have:=HK1.out; omega⟩,⟨bw HB⟩⟩
def r4_Row.l0 : Nat → List (SOp) → Int → Option (Bool)
 | 0,_,_ => none
 | k + 1,x0,x3 => if x3 < (x0.length : Int) then (if 0 ≤ x3 then (if x3 ≤ (x0.length : Int) then ((r4_Goes.f k (x0.take (x3 : Int).toNat) ((Qad x0 x3).f0) ((Qad x0 x3).f1) ((Qad x0 x3).f2) ((Qad x0 x3).f3.f0) ((Qad x0 x3).f3.f1) ((Qad x0 x3).f3.f2) ((Qad x0 x3).f4) ((Qad x0 x3).f5) ((Qad x0 x3).f6) ((Qad x0 x3).f7) ((Qad x0 x3).f8)).bind fun t228 => (if t228 = true then (r4_Row.l0 k x0 (wrap64 (x3 + 1))) else (some false))) else (none)) else (none)) else ((r4_Fits.f k x0).bind fun t229 => (some t229))
def r4_Row.f (k : Nat) (l0 : List (SOp)) : Option (Bool):=if (l0.length : Int) > 40 then (some false) else (r4_Row.l0 k l0 0)
def r4_Row.T6 : Bool × List (List Nat × List Nat):=(true,[([],[]),([],[]),([0,1],[0,1]),([],[]),([],[]),([3,4],[3,4]),([5],[5]),([2,6],[2,6]),([7],[7])])
def r4_Row.B6 : List Nat:=[0,0,3,0,0,24,56,127,255]
theorem r4_Row.tab6 : rtab .any (Qcu Tryd.f15 6) = r4_Row.T6:=by kernel_rfl
theorem r4_Row.bits6 : Qax r4_Row.T6.2 r4_Row.B6 = true:=by kernel_rfl
theorem r4_Row.calls (k : Nat) (A0 : Option Addr) (c0 : Nat) (l0 : List (SOp)) (r : Bool) (w : World) (hr0 : Kd.C kOp w A0 l0.length l0) (hc0 : l0.length ≤ c0) (hT : GT w) (h : r4_Row.f k l0 = some r) :
  Calls Tryd.prog 15 #[.slice A0 l0.length c0] w fun e w' => e = .returned (.bool r) ∧ Below w.heap.size w w':=by
 have hu55:=Tryd.underlying55
 have HR0:=Aside0.mk hr0
 have HC0:=Aside0.mk hc0
 clear hr0 hc0
 have HB:=Aside0.mk (Below.refl w.heap.size w)
 unfold r4_Row.f at h; have H:=h
 clear h
 by_cases c2 : (l0.length : Int) > 40
 ·rw [if_pos c2] at H
  have c2b0:=decide_eq_true c2
  have c2b1 : decide (40 < l0.length) = true:=decide_eq_true (by omega)
  clear c2
  obtain rfl:=Option.some.inj H
  go_enter Tryd.func15,Tryd.ntmps15
  go_wp2
  go_ret
  exact ⟨re,bw HB⟩
 rw [if_neg c2] at H
 have c2b0:=decide_eq_false c2
 have c2b1 : decide (40 < l0.length) = false:=decide_eq_false (by omega)
 clear c2
 have H':=Aside0.mk H
 clear H
 go_enter Tryd.func15,Tryd.ntmps15
 go_wp2
 go_loopg [3] k (fun kq v3 w' => ∃ (x3_1 : Int),v3 = .int .i64 x3_1 ∧ Aside0 (r4_Row.l0 kq l0 x3_1 = some r) ∧ Aside0 (kq ≤ k) ∧ Aside0 (Below w.heap.size w w'))
 case atStart => exact ⟨(0),rf,H',⟨Nat.le_refl _⟩,⟨bw HB⟩⟩
 case round =>
  clear H'
  try clear c2b0; try clear c2b1
  obtain ⟨x3_1,rfl,HA,HK1,HB⟩:=hrel
  cases gk with
  | zero => exact absurd HA.out (by simp [r4_Row.l0])
  | succ k1 =>
   have H:=HA.out
   clear HA
   simp only [r4_Row.l0] at H
   by_cases c3 : x3_1 < (l0.length : Int); rotate_left
   ·rw [if_neg c3] at H
    have c3b0:=decide_eq_false c3
    clear c3
    obtain ⟨t229,A14,H⟩:=bE H
    obtain rfl:=Option.some.inj H
    go_wp2_with (first | ((with_reducible refine Qab (f:=59) rfl ?_); refine gl (some 23) Tryd.func59 #[.slice A0 l0.length c0] (h := ?_); (with_reducible refine (r4_Fits.calls k1 _ _ l0 t229 _ ?side1 ?side2 ?side3 A14.out).mono ?_); (case side1 => exact cb HR0 HB); (case side2 => exact HC0.out); (case side3 => exact (hT.below (bw HB))); rintro e w15 ⟨rfl,hb⟩; refine ⟨_,rfl, ?_⟩; replace HB:=bs HB hb; clear hb))
    go_ret
    exact ⟨re,bw HB⟩
   rw [if_pos c3] at H
   have c3b0:=decide_eq_true c3
   clear c3
   by_cases c4 : 0 ≤ x3_1; rotate_left
   ·rw [if_neg c4] at H
    exact absurd H (by simp)
   rw [if_pos c4] at H
   have c4b0:=eq_true c4
   have c4b1:=decide_eq_true c4
   clear c4
   by_cases c5 : x3_1 ≤ (l0.length : Int); rotate_left
   ·rw [if_neg c5] at H
    exact absurd H (by simp)
   rw [if_pos c5] at H
   have c5b0:=eq_true c5
   have c5b1:=decide_eq_true c5
   clear c5
   obtain ⟨y223,hy223⟩ : ∃ y_ : List (SOp),y_ = (l0.take (x3_1 : Int).toNat):=⟨_,rfl⟩
   first | rw [Option.bind_some,← hy223] at H | rw [← hy223] at H
   have Ny223:=Aside0.mk hy223
   clear hy223
   obtain ⟨t228,A6,H⟩:=bE H
   by_cases c7 : t228 = true
   ·subst c7
    rw [if_pos rfl] at H
    have H':=Aside0.mk H
    clear H
    try go_wp2
    have n0_:=Aside0.mk (Qaf HB.out)
    clear HB
    have HB:=n0_
    clear n0_
    have q9 : (x3_1 : Int) ≤ ((l0.length : Int) : Int):=od
    obtain ⟨i09,hi09,_,hsz9,_⟩:=info_parts info55
    have hroom9 : l0.length ≤ c0:=HC0.out
    have hC9 : Kd.C kOp _ A0 l0.length l0:=HR0.out
    have hcut9:=cut_to (P:=Tryd.prog) 24 55 .i64 Tryd.underlying24 hi09 A0 l0.length c0 x3_1 (od) q9 hroom9
    have hr9:=Kd.C_take (m:=(x3_1 : Int).toNat) hC9 (by omega)
    have hy9 : y223.length = (x3_1 : Int).toNat:=(by rw [Ny223.out,List.length_take]; omega)
    rw [← Ny223.out] at hr9
    rw [← hy9] at hcut9
    have HR226:=Aside0.mk hr9
    have HC226:=Aside0.mk (show y223.length ≤ c0 from by omega)
    clear hr9 hC9 hroom9 hi09 hsz9
    have KY9:=Aside0.mk hy9
    clear hy9
    replace q9:=eq_true q9
    have p227 : 0 ≤ (x3_1 : Int):=od
    have q227 : x3_1 < (l0.length : Int):=od
    obtain ⟨ad227,A227_7,c227_7,e227,hx227_0,hx227_1,hx227_2,hx227_3,hx227_4,hx227_5,hx227_6,hx227_7,hx227_8,hx227_9,hx227_10,hl227_7,hi227_7⟩:=Qck HR0.out x3_1 p227 q227
    have hw227_10:=hx227_10
    have hw227_9:=hx227_9
    have hw227_8:=hx227_8
    have hw227_7:=hx227_7
    have hw227_6:=hx227_6
    have hw227_5:=hx227_5
    have hw227_4:=hx227_4
    have hw227_3:=hx227_3
    have hw227_2:=hx227_2
    have hw227_1:=hx227_1
    have hw227_0:=hx227_0
    cases e227
    replace hx227_0:=cl HB hx227_0
    replace hx227_1:=cl HB hx227_1
    replace hx227_2:=cl HB hx227_2
    replace hx227_3:=cl HB hx227_3
    replace hx227_4:=cl HB hx227_4
    replace hx227_5:=cl HB hx227_5
    replace hx227_6:=cl HB hx227_6
    replace hx227_7:=cl HB hx227_7
    replace hx227_8:=cl HB hx227_8
    replace hx227_9:=cl HB hx227_9
    replace hx227_10:=cl HB hx227_10
    have HR227_7:=Aside0.mk hi227_7
    have HC227_7:=Aside0.mk hl227_7
    clear hi227_7 hl227_7
    replace p227:=eq_true p227
    replace q227:=eq_true q227
    refine stP (fun w' => Q11 w' (ad227.add ((x3_1).toNat * 11)) (Qad l0 x3_1) A227_7 c227_7) 9 ⟨(cW HB hw227_0),(cW HB hw227_1),(cW HB hw227_2),(cW HB hw227_3),(cW HB hw227_4),(cW HB hw227_5),(cW HB hw227_6),(cW HB hw227_7),(cW HB hw227_8),(cW HB hw227_9),(cW HB hw227_10)⟩ (h:=fun hHeld => ?_); refine Qas r4_Row.tab6 r4_Row.bits6 (fun HT_ HW_ => ?_)
    generalize wr.drew = w8 at HB HR226 HR227_7 hx227_0 hx227_1 hx227_10 hx227_2 hx227_3 hx227_4 hx227_5 hx227_6 hx227_7 hx227_8 hx227_9 hHeld ⊢
    refine pu HT_ 0 13 1 (h := ?_)
    refine pu HT_ 1 14 3 (h := ?_)
    refine pu HT_ 2 15 7 (h := ?_)
    refine pu HT_ 3 16 15 (h := ?_)
    refine pu HT_ 4 17 31 (h := ?_)
    refine pu HT_ 5 18 63 (h := ?_)
    refine tk HT_ HW_ hHeld 6 19 127 (h := ?_)
    refine on HT_ 7 (some 20) 255 (h:=fun K hK => ?_)
    refine gS Tryd.func58 #[.slice (some ad227) y223.length c0, .agg #[.int .i64 ((Qad l0 x3_1).f0), .int .i64 ((Qad l0 x3_1).f1), .int .i64 ((Qad l0 x3_1).f2), .int .i64 ((Qad l0 x3_1).f3.f0), .int .i64 ((Qad l0 x3_1).f3.f1), .int .i64 ((Qad l0 x3_1).f3.f2), .string ((Qad l0 x3_1).f4), .slice A227_7 ((Qad l0 x3_1).f5).length c227_7, .int .i64 ((Qad l0 x3_1).f6), .int .i64 ((Qad l0 x3_1).f7), .int .i64 ((Qad l0 x3_1).f8)]] (h := ?_)
    with_reducible refine (r4_Goes.calls k1 _ _ y223 ((Qad l0 x3_1).f0) ((Qad l0 x3_1).f1) ((Qad l0 x3_1).f2) ((Qad l0 x3_1).f3.f0) ((Qad l0 x3_1).f3.f1) ((Qad l0 x3_1).f3.f2) ((Qad l0 x3_1).f4) _ _ ((Qad l0 x3_1).f5) ((Qad l0 x3_1).f6) ((Qad l0 x3_1).f7) ((Qad l0 x3_1).f8) true _ ?side1 ?side2 ?side3 ?side4 ?side5 A6.out).mono ?_
    (case side1 => exact cb HR226 HB)
    (case side2 => exact HC226.out)
    (case side3 => exact cb HR227_7 HB)
    (case side4 => exact HC227_7.out)
    (case side5 => exact (hT.below (bw HB)))
    rintro e w10 ⟨rfl,hb⟩
    refine ⟨_,rfl, ?_⟩
    have n0_:=bs HB hb
    clear HB
    have HB:=n0_
    clear n0_
    (try clear hb)
    (try clear hb2)
    (try clear hk)
    (try clear hi)
    refine hK.out _ _ ⟨(cW HB hw227_0),(cW HB hw227_1),(cW HB hw227_2),(cW HB hw227_3),(cW HB hw227_4),(cW HB hw227_5),(cW HB hw227_6),(cW HB hw227_7),(cW HB hw227_8),(cW HB hw227_9),(cW HB hw227_10)⟩ (fun hHeld => ?_)
    clear hK K
    refine nn 20 (h := ?_)
    refine pu HT_ 8 21 511 (h := ?_)
    refine dn HT_ (h := ?_)
    try go_wp2
    go_roundg k1
    case measure => have:=HK1.out; omega
    case rel => exact ⟨(wrap64 (x3_1 + 1)),rf,H',⟨by have:=HK1.out; omega⟩,⟨bw HB⟩⟩
   replace c7:=Bool.eq_false_iff.mpr c7
   subst c7
   rw [if_neg nft] at H
   obtain rfl:=Option.some.inj H
   try go_wp2
   have n0_:=Aside0.mk (Qaf HB.out)
   clear HB
   have HB:=n0_
   clear n0_
   have q12 : (x3_1 : Int) ≤ ((l0.length : Int) : Int):=od
   obtain ⟨i012,hi012,_,hsz12,_⟩:=info_parts info55
   have hroom12 : l0.length ≤ c0:=HC0.out
   have hC12 : Kd.C kOp _ A0 l0.length l0:=HR0.out
   have hcut12:=cut_to (P:=Tryd.prog) 24 55 .i64 Tryd.underlying24 hi012 A0 l0.length c0 x3_1 (od) q12 hroom12
   have hr12:=Kd.C_take (m:=(x3_1 : Int).toNat) hC12 (by omega)
   have hy12 : y223.length = (x3_1 : Int).toNat:=(by rw [Ny223.out,List.length_take]; omega)
   rw [← Ny223.out] at hr12
   rw [← hy12] at hcut12
   have HR226:=Aside0.mk hr12
   have HC226:=Aside0.mk (show y223.length ≤ c0 from by omega)
   clear hr12 hC12 hroom12 hi012 hsz12
   have KY12:=Aside0.mk hy12
   clear hy12
   replace q12:=eq_true q12
   have p227 : 0 ≤ (x3_1 : Int):=od
   have q227 : x3_1 < (l0.length : Int):=od
   obtain ⟨ad227,A227_7,c227_7,e227,hx227_0,hx227_1,hx227_2,hx227_3,hx227_4,hx227_5,hx227_6,hx227_7,hx227_8,hx227_9,hx227_10,hl227_7,hi227_7⟩:=Qck HR0.out x3_1 p227 q227
   have hw227_10:=hx227_10
   have hw227_9:=hx227_9
   have hw227_8:=hx227_8
   have hw227_7:=hx227_7
   have hw227_6:=hx227_6
   have hw227_5:=hx227_5
   have hw227_4:=hx227_4
   have hw227_3:=hx227_3
   have hw227_2:=hx227_2
   have hw227_1:=hx227_1
   have hw227_0:=hx227_0
   cases e227
   replace hx227_0:=cl HB hx227_0
   replace hx227_1:=cl HB hx227_1
   replace hx227_2:=cl HB hx227_2
   replace hx227_3:=cl HB hx227_3
   replace hx227_4:=cl HB hx227_4
   replace hx227_5:=cl HB hx227_5
   replace hx227_6:=cl HB hx227_6
   replace hx227_7:=cl HB hx227_7
   replace hx227_8:=cl HB hx227_8
   replace hx227_9:=cl HB hx227_9
   replace hx227_10:=cl HB hx227_10
   have HR227_7:=Aside0.mk hi227_7
   have HC227_7:=Aside0.mk hl227_7
   clear hi227_7 hl227_7
   replace p227:=eq_true p227
   replace q227:=eq_true q227
   refine stP (fun w' => Q11 w' (ad227.add ((x3_1).toNat * 11)) (Qad l0 x3_1) A227_7 c227_7) 9 ⟨(cW HB hw227_0),(cW HB hw227_1),(cW HB hw227_2),(cW HB hw227_3),(cW HB hw227_4),(cW HB hw227_5),(cW HB hw227_6),(cW HB hw227_7),(cW HB hw227_8),(cW HB hw227_9),(cW HB hw227_10)⟩ (h:=fun hHeld => ?_); refine Qas r4_Row.tab6 r4_Row.bits6 (fun HT_ HW_ => ?_)
   generalize wr.drew = w11 at HB HR226 HR227_7 hx227_0 hx227_1 hx227_10 hx227_2 hx227_3 hx227_4 hx227_5 hx227_6 hx227_7 hx227_8 hx227_9 hHeld ⊢
   refine pu HT_ 0 13 1 (h := ?_)
   refine pu HT_ 1 14 3 (h := ?_)
   refine pu HT_ 2 15 7 (h := ?_)
   refine pu HT_ 3 16 15 (h := ?_)
   refine pu HT_ 4 17 31 (h := ?_)
   refine pu HT_ 5 18 63 (h := ?_)
   refine tk HT_ HW_ hHeld 6 19 127 (h := ?_)
   refine on HT_ 7 (some 20) 255 (h:=fun K hK => ?_)
   refine gS Tryd.func58 #[.slice (some ad227) y223.length c0, .agg #[.int .i64 ((Qad l0 x3_1).f0), .int .i64 ((Qad l0 x3_1).f1), .int .i64 ((Qad l0 x3_1).f2), .int .i64 ((Qad l0 x3_1).f3.f0), .int .i64 ((Qad l0 x3_1).f3.f1), .int .i64 ((Qad l0 x3_1).f3.f2), .string ((Qad l0 x3_1).f4), .slice A227_7 ((Qad l0 x3_1).f5).length c227_7, .int .i64 ((Qad l0 x3_1).f6), .int .i64 ((Qad l0 x3_1).f7), .int .i64 ((Qad l0 x3_1).f8)]] (h := ?_)
   with_reducible refine (r4_Goes.calls k1 _ _ y223 ((Qad l0 x3_1).f0) ((Qad l0 x3_1).f1) ((Qad l0 x3_1).f2) ((Qad l0 x3_1).f3.f0) ((Qad l0 x3_1).f3.f1) ((Qad l0 x3_1).f3.f2) ((Qad l0 x3_1).f4) _ _ ((Qad l0 x3_1).f5) ((Qad l0 x3_1).f6) ((Qad l0 x3_1).f7) ((Qad l0 x3_1).f8) false _ ?side1 ?side2 ?side3 ?side4 ?side5 A6.out).mono ?_
   (case side1 => exact cb HR226 HB)
   (case side2 => exact HC226.out)
   (case side3 => exact cb HR227_7 HB)
   (case side4 => exact HC227_7.out)
   (case side5 => exact (hT.below (bw HB)))
   rintro e w13 ⟨rfl,hb⟩
   refine ⟨_,rfl, ?_⟩
   have n0_:=bs HB hb
   clear HB
   have HB:=n0_
   clear n0_
   (try clear hb)
   (try clear hb2)
   (try clear hk)
   (try clear hi)
   refine hK.out _ _ ⟨(cW HB hw227_0),(cW HB hw227_1),(cW HB hw227_2),(cW HB hw227_3),(cW HB hw227_4),(cW HB hw227_5),(cW HB hw227_6),(cW HB hw227_7),(cW HB hw227_8),(cW HB hw227_9),(cW HB hw227_10)⟩ (fun hHeld => ?_)
   clear hK K
   refine nn 20 (h := ?_)
   refine pu HT_ 8 21 511 (h := ?_)
   refine dn HT_ (h := ?_)
   try go_wp2
   go_ret
   exact ⟨re,bw HB⟩
end
section
attribute [local go_sem] Qbp Qbn Qby Qbx Qbc Qbb Qbo Qbm
attribute [local go_sem high] eqAElem
def r4_Under.l0 : Nat → List (SOp) → List (SElem) → Int → Int → Int → Int → Option ((List (SElem)))
 | 0,_,_,_,_,_,_ => none
 | k + 1,x0,x5,x6,x231000,x231001,x231002 => if x6 ≥ 0 then (if 0 ≤ x6 then (if x6 < (x0.length : Int) then (if ((Qad x0 x6).f4).toList = ([] : List UInt8) then (r4_Under.l0 k x0 x5 (wrap64 (x6 - 1)) x231000 x231001 x231002) else (if (((Qad x0 x6).f3.f0) == x231000 && (((Qad x0 x6).f3.f1) == x231001 && (((Qad x0 x6).f3.f2) == x231002))) = true then (if x5.length < 5864062014805 then (r4_Under.l0 k x0 (x5 ++ [(⟨(Qad x0 x6).f0,(Qad x0 x6).f1,0⟩ : SElem)]) (wrap64 (x6 - 1)) x231000 x231001 x231002) else (none)) else (r4_Under.l0 k x0 x5 (wrap64 (x6 - 1)) x231000 x231001 x231002))) else (none)) else (none)) else ((r4_Begin.f x231000 x231001 x231002).bind fun t238 => (if t238 = true then (some x5) else ((r4_written.f k x0 x231000 x231001 (wrap64 (x231002 + 1))).bind fun t240 => (if t240 = true then (if x5.length < 5864062014805 then (some (x5 ++ [(⟨x231000,x231001,wrap64 (x231002 + 1)⟩ : SElem)])) else (none)) else (some x5)))))
def r4_Under.f (k : Nat) (l0 : List (SOp)) (a1_0 : Int) (a1_1 : Int) (a1_2 : Int) : Option ((List (SElem))):=r4_Under.l0 k l0 ([] : List (SElem)) (wrap64 ((l0.length : Int) - 1)) a1_0 a1_1 a1_2
def r4_Under.T5 : Bool × List (List Nat × List Nat):=(true,[([],[]),([],[]),([0,1],[0,1]),([2],[2]),([3],[3]),([4],[4]),([5],[5]),([6],[6]),([6],[6]),([7,8,6],[6,7,8]),([9,6],[6,9]),([10,6],[6,10]),([6],[6]),([11,12,6],[6,11,12]),([6,13],[6,13])])
def r4_Under.B5 : List Nat:=[0,0,3,7,15,31,63,127,127,511,1023,2047,127,8191,16383]
theorem r4_Under.tab5 : rtab .any (Qcu Tryd.f26 5) = r4_Under.T5:=by kernel_rfl
theorem r4_Under.bits5 : Qax r4_Under.T5.2 r4_Under.B5 = true:=by kernel_rfl
def r4_Under.T6 : Bool × List (List Nat × List Nat):=(true,[([],[]),([],[]),([],[]),([1,2],[1,2]),([3],[3]),([4],[4]),([],[]),([],[]),([6,7],[6,7]),([8],[8]),([9],[9]),([5,10],[5,10]),([11],[11]),([0,12],[0,12]),([13,13,0,1,2,3,4,5,6,7,8,9,10,11,12,13],[0,13])])
def r4_Under.B6 : List Nat:=[0,0,0,6,14,30,0,0,192,448,960,2046,4094,8191,16383]
theorem r4_Under.tab6 : rtab .any (Qcu Tryd.f26 6) = r4_Under.T6:=by kernel_rfl
theorem r4_Under.bits6 : Qax r4_Under.T6.2 r4_Under.B6 = true:=by kernel_rfl
theorem r4_Under.calls (k : Nat) (A0 : Option Addr) (c0 : Nat) (l0 : List (SOp)) (a1_0 : Int) (a1_1 : Int) (a1_2 : Int) (r : List (SElem)) (w : World) (hr0 : Kd.C kOp w A0 l0.length l0) (hc0 : l0.length ≤ c0) (hT : GT w) (h : r4_Under.f k l0 a1_0 a1_1 a1_2 = some r) :
  Calls Tryd.prog 26 #[.slice A0 l0.length c0, .agg #[.int .i64 a1_0, .int .i64 a1_1, .int .i64 a1_2]] w fun e w' => ∃ v0_ : Value,e = .returned (v0_) ∧ Kd.R Qaq 43 w' w.heap.size (fun _ => True) v0_ r ∧ Below w.heap.size w w':=by
 have hu43:=Tryd.underlying43
 have HR0:=Aside0.mk hr0
 have HC0:=Aside0.mk hc0
 clear hr0 hc0
 have HB:=Aside0.mk (Below.refl w.heap.size w)
 unfold r4_Under.f at h; have H:=h
 clear h
 have H':=Aside0.mk H
 clear H
 go_enter Tryd.func26,Tryd.ntmps26
 go_wp2_with (first | ((with_reducible refine Qae (N:=3) rfl ?_); refine bx 3 #[.int .i64 a1_0, .int .i64 a1_1, .int .i64 a1_2] 43 (h := ?_); intro gb230 hg w3 hbox hb; have BK230:=Aside0.mk (hbox); have GW230:=bz HB hg; have GE230:=bz HB hg; replace HB:=bs HB hb; clear hb hbox hg))
 go_loopg [5,6] k (fun kq v5 v6 w' => ∃ (x5_1 : List (SElem)) (x6_1 : Int),v6 = .int .i64 x6_1 ∧ Aside0 (r4_Under.l0 kq l0 x5_1 x6_1 a1_0 a1_1 a1_2 = some r) ∧ Aside0 (kq ≤ k) ∧ Aside0 (Kd.R Qaq 43 w' w.heap.size (fun k_ => k_ ≠ gb230) v5 x5_1) ∧ Aside0 (w'.heap[gb230]? = some (.cells #[.int .i64 a1_0, .int .i64 a1_1, .int .i64 a1_2] 43 (0,0))) ∧ Aside0 (Below w.heap.size w w'))
 case atStart => exact ⟨(([] : List (SElem))),(wrap64 ((l0.length : Int) - 1)),rf,H',⟨Nat.le_refl _⟩,⟨by first | exact Kd.R_nil _ _ _ _ _ | exact Kd.N_nil _ _ _ _ _ | exact Kd.V_nil _ _ _ _ _ | exact Kd.Q_nil _ _ _ _ _ | exact Kd.S_nil _ _ _ _ _⟩,⟨kk BK230⟩,⟨bw HB⟩⟩
 case round =>
  clear H'
  obtain ⟨x5_1,x6_1,rfl,HA,HK1,HO_5,BK230,HB⟩:=hrel
  cases gk with
  | zero => exact absurd HA.out (by simp [r4_Under.l0])
  | succ k1 =>
   have H:=HA.out
   clear HA
   simp only [r4_Under.l0] at H
   by_cases c4 : x6_1 ≥ 0; rotate_left
   ·rw [if_neg c4] at H
    have c4b0:=decide_eq_false c4
    clear c4
    obtain ⟨t238,A15,H⟩:=bE H
    by_cases c16 : t238 = true
    ·subst c16
     rw [if_pos rfl] at H
     obtain rfl:=Option.some.inj H
     obtain ⟨_,_,_,_,_,_⟩:=kc3 BK230
     go_wp2_with (first | ((with_reducible refine Qab (f:=62) rfl ?_); refine gl (some 45) Tryd.func62 #[.agg #[.int .i64 a1_0, .int .i64 a1_1, .int .i64 a1_2]] (h := ?_); (with_reducible refine (r4_Begin.calls a1_0 a1_1 a1_2 true _ A15.out).mono ?_); rintro e w18 ⟨rfl,hb⟩; refine ⟨_,rfl, ?_⟩; replace HO_5:=rb HO_5 hb; replace BK230:=bl BK230 hb; replace HB:=bs HB hb; clear hb))
     go_ret
     exact ⟨_,re,by (with_reducible repeat (first | apply Kd.R_alloc | apply Kd.R_drewN | apply Kd.R_drew)); exact Kd.R_mono HO_5.out (fun _ hk => trivial),bw HB⟩
    replace c16:=Bool.eq_false_iff.mpr c16
    subst c16
    rw [if_neg nft] at H
    obtain ⟨t240,A19,H⟩:=bE H
    by_cases c20 : t240 = true; rotate_left
    ·replace c20:=Bool.eq_false_iff.mpr c20
     subst c20
     rw [if_neg nft] at H
     obtain rfl:=Option.some.inj H
     obtain ⟨_,_,_,_,_,_⟩:=kc3 BK230
     go_wp2_with (first | ((with_reducible refine Qab (f:=62) rfl ?_); refine gl (some 45) Tryd.func62 #[.agg #[.int .i64 a1_0, .int .i64 a1_1, .int .i64 a1_2]] (h := ?_); (with_reducible refine (r4_Begin.calls a1_0 a1_1 a1_2 false _ A15.out).mono ?_); rintro e w32 ⟨rfl,hb⟩; refine ⟨_,rfl, ?_⟩; replace HO_5:=rb HO_5 hb; replace BK230:=bl BK230 hb; replace HB:=bs HB hb; clear hb; obtain ⟨_,_,_,_,_,_⟩:=kc3 BK230) | ((with_reducible refine Qae (N:=7) rfl ?_); refine bx 7 #[.int .i64 0, .int .i64 0, .int .i64 0] 43 (h := ?_); intro gb239 hg w34 hbox hb; have BK239:=Aside0.mk (hbox); have GW239:=bz HB hg; have GE239:=bz HB hg; have NB230_239:=bn BK230 hg; have NB239_230:=bm BK230 hg; replace HO_5:=Aside0.mk (Kd.R_below (Kd.R_elderB (rk HO_5) gb239 (Nat.le_of_eq hg.symm)) hb); replace BK230:=bl BK230 hb; replace HB:=bs HB hb; clear hb hbox hg; have hnb35:=NB239_230.out; have hnc35:=NB230_239.out; obtain ⟨_,_,_,_,_,_⟩:=kc3 BK239) | ((with_reducible refine Qab (f:=67) rfl ?_); refine gl (some 57) Tryd.func67 #[.slice A0 l0.length c0, .agg #[.int .i64 a1_0, .int .i64 a1_1, .int .i64 (wrap64 (a1_2 + 1))]] (h := ?_); (with_reducible refine (r4_written.calls k1 _ _ l0 a1_0 a1_1 (wrap64 (a1_2 + 1)) false _ ?side1 ?side2 ?side3 A19.out).mono ?_); (case side1 => exact Kd.C_below HR0.out (bw HB)); (case side2 => exact HC0.out); (case side3 => exact (hT.below (bw HB))); rintro e w37 ⟨rfl,hb⟩; refine ⟨_,rfl, ?_⟩; replace HO_5:=Aside0.mk (Kd.R_below (by (with_reducible repeat (first | apply Kd.R_alloc | apply Kd.R_drewN | apply Kd.R_drew)); exact (Kd.R_mono (Kd.R_far (p:=⟨gb239,2,none⟩) (Kd.R_far (p:=⟨gb239,1,none⟩) (Kd.R_far (p:=⟨gb239,0,none⟩) (Kd.R_mono HO_5.out (fun k_ hk => (⟨hk,hk.2⟩ : _ ∧ k_ ≠ gb239))) (fun _ hk => hk.2) (.int .i64 a1_0)) (fun _ hk => hk.2) (.int .i64 a1_1)) (fun _ hk => hk.2) (.int .i64 (wrap64 (a1_2 + 1)))) (fun _ h_ => h_.1))) hb); replace BK230:=bl BK230 hb; replace BK239:=Aside0.mk (Qbl (g:=gb239) (o:=.cells #[.int .i64 a1_0, .int .i64 a1_1, .int .i64 (wrap64 (a1_2 + 1))] 43 (0,0)) (bp (bp (bp (kk BK239) 0) 1) 2) hb); replace HB:=bs HB hb; clear hb))
     go_ret
     exact ⟨_,re,by (with_reducible repeat (first | apply Kd.R_alloc | apply Kd.R_drewN | apply Kd.R_drew)); exact Kd.R_mono HO_5.out (fun _ hk => trivial),bw HB⟩
    subst c20
    rw [if_pos rfl] at H
    by_cases c21 : x5_1.length < 5864062014805; rotate_left
    ·rw [if_neg c21] at H
     exact absurd H (by simp)
    rw [if_pos c21] at H
    have LMc21:=Aside0.mk c21
    clear c21
    obtain ⟨y241,hy241⟩ : ∃ y_ : List (SElem),y_ = (x5_1 ++ [(⟨a1_0,a1_1,wrap64 (a1_2 + 1)⟩ : SElem)]):=⟨_,rfl⟩
    first | rw [Option.bind_some,← hy241] at H | rw [← hy241] at H
    have Ny241:=Aside0.mk hy241
    clear hy241
    obtain rfl:=Option.some.inj H
    obtain ⟨_,_,_,_,_,_⟩:=kc3 BK230
    go_wp2_with (first | ((with_reducible refine Qab (f:=62) rfl ?_); refine gl (some 45) Tryd.func62 #[.agg #[.int .i64 a1_0, .int .i64 a1_1, .int .i64 a1_2]] (h := ?_); (with_reducible refine (r4_Begin.calls a1_0 a1_1 a1_2 false _ A15.out).mono ?_); rintro e w23 ⟨rfl,hb⟩; refine ⟨_,rfl, ?_⟩; replace HO_5:=rb HO_5 hb; replace BK230:=bl BK230 hb; replace HB:=bs HB hb; clear hb; obtain ⟨_,_,_,_,_,_⟩:=kc3 BK230) | ((with_reducible refine Qae (N:=7) rfl ?_); refine bx 7 #[.int .i64 0, .int .i64 0, .int .i64 0] 43 (h := ?_); intro gb239 hg w25 hbox hb; have BK239:=Aside0.mk (hbox); have GW239:=bz HB hg; have GE239:=bz HB hg; have NB230_239:=bn BK230 hg; have NB239_230:=bm BK230 hg; replace HO_5:=Aside0.mk (Kd.R_below (Kd.R_elderB (rk HO_5) gb239 (Nat.le_of_eq hg.symm)) hb); replace BK230:=bl BK230 hb; replace HB:=bs HB hb; clear hb hbox hg; have hnb26:=NB239_230.out; have hnc26:=NB230_239.out; obtain ⟨_,_,_,_,_,_⟩:=kc3 BK239) | ((with_reducible refine Qab (f:=67) rfl ?_); refine gl (some 57) Tryd.func67 #[.slice A0 l0.length c0, .agg #[.int .i64 a1_0, .int .i64 a1_1, .int .i64 (wrap64 (a1_2 + 1))]] (h := ?_); (with_reducible refine (r4_written.calls k1 _ _ l0 a1_0 a1_1 (wrap64 (a1_2 + 1)) true _ ?side1 ?side2 ?side3 A19.out).mono ?_); (case side1 => exact Kd.C_below HR0.out (bw HB)); (case side2 => exact HC0.out); (case side3 => exact (hT.below (bw HB))); rintro e w28 ⟨rfl,hb⟩; refine ⟨_,rfl, ?_⟩; replace HO_5:=Aside0.mk (Kd.R_below (by (with_reducible repeat (first | apply Kd.R_alloc | apply Kd.R_drewN | apply Kd.R_drew)); exact (Kd.R_mono (Kd.R_far (p:=⟨gb239,2,none⟩) (Kd.R_far (p:=⟨gb239,1,none⟩) (Kd.R_far (p:=⟨gb239,0,none⟩) (Kd.R_mono HO_5.out (fun k_ hk => (⟨hk,hk.2⟩ : _ ∧ k_ ≠ gb239))) (fun _ hk => hk.2) (.int .i64 a1_0)) (fun _ hk => hk.2) (.int .i64 a1_1)) (fun _ hk => hk.2) (.int .i64 (wrap64 (a1_2 + 1)))) (fun _ h_ => h_.1))) hb); replace BK230:=bl BK230 hb; replace BK239:=Aside0.mk (Qbl (g:=gb239) (o:=.cells #[.int .i64 a1_0, .int .i64 a1_1, .int .i64 (wrap64 (a1_2 + 1))] 43 (0,0)) (bp (bp (bp (kk BK239) 0) 1) 2) hb); replace HB:=bs HB hb; clear hb; obtain ⟨_,_,_,_,_,_⟩:=kc3 BK239) | ((with_reducible refine Qcf (b:=.append) (xs:=#[.tmp 58, .tmp 60]) rfl ?_); at_builtin; refine Kd.R_append Qaq (w0:=w) w.heap.size rfl (.tmp 58) (.tmp 60) 23 43 (.agg #[(.int .i64 0),(.int .i64 0),(.int .i64 0)]) 24 rfl Tryd.underlying23 info43 rfl (by decide) (by omega) u5 x5_1 (⟨a1_0,a1_1,wrap64 (a1_2 + 1)⟩ : SElem) [.int .i64 a1_0, .int .i64 a1_1, .int .i64 (wrap64 (a1_2 + 1))] (fun k_ => k_ ≠ gb230 ∧ k_ ≠ gb239) (fun _ => False) rfl rfl ?aP (fun _ hk => hk.elim) ?aF ?aO ?aB ?aS ?aL ?_; (case aP => exact Qbs _ _ _ (⟨a1_0,a1_1,wrap64 (a1_2 + 1)⟩ : SElem)); (case aB => exact (bw HB)); (case aF => exact (fun k_ hk => ⟨Kd.freshB (kk BK230) k_ hk,Kd.freshB (kk BK239) k_ hk⟩)); (case aO => exact (rk HO_5)); (case aS => exact (Qai (bw HB))); (case aL => have:=LMc21.out; omega); intro v242 w30 ho hb hg hat; rw [← Ny241.out] at ho; have n0_:=Aside0.mk (Qcm (kk BK230) hg (Kd.R_away HO_5.out (fun _ hk => hk.1))); have n1_:=Aside0.mk (Qcm (kk BK239) hg (Kd.R_away HO_5.out (fun _ hk => hk.2))); have n2_:=Aside0.mk (hb); have n3_:=Aside0.mk (ho); clear BK230; clear BK239; clear HB; clear HO_5; have BK230:=n0_; have BK239:=n1_; have HB:=n2_; have HO243:=n3_; clear n0_ n1_ n2_ n3_; clear ho hb hg hat))
    go_ret
    exact ⟨_,re,by (with_reducible repeat (first | apply Kd.R_alloc | apply Kd.R_drewN | apply Kd.R_drew)); exact Kd.R_mono HO243.out (fun _ hk => trivial),bw HB⟩
   rw [if_pos c4] at H
   have c4b0:=decide_eq_true c4
   clear c4
   by_cases c5 : 0 ≤ x6_1; rotate_left
   ·rw [if_neg c5] at H
    exact absurd H (by simp)
   rw [if_pos c5] at H
   have c5b0:=decide_eq_true c5
   clear c5
   by_cases c6 : x6_1 < (l0.length : Int); rotate_left
   ·rw [if_neg c6] at H
    exact absurd H (by simp)
   rw [if_pos c6] at H
   have c6b0:=decide_eq_true c6
   clear c6
   by_cases c7 : ((Qad l0 x6_1).f4).toList = ([] : List UInt8)
   ·rw [if_pos c7] at H
    obtain ⟨c7b0,c7b1⟩:=bT c7
    clear c7
    have H':=Aside0.mk H
    clear H
    try go_wp2
    have n0_:=Aside0.mk (Kd.R_drew HO_5.out)
    have n1_:=Aside0.mk (Qan BK230.out)
    have n2_:=Aside0.mk (Qaf HB.out)
    clear HO_5
    clear BK230
    clear HB
    have HO_5:=n0_
    have BK230:=n1_
    have HB:=n2_
    clear n0_ n1_ n2_
    have p231 : 0 ≤ (x6_1 : Int):=od
    have q231 : x6_1 < (l0.length : Int):=od
    obtain ⟨ad231,A231_7,c231_7,e231,hx231_0,hx231_1,hx231_2,hx231_3,hx231_4,hx231_5,hx231_6,hx231_7,hx231_8,hx231_9,hx231_10,hl231_7,hi231_7⟩:=Qck HR0.out x6_1 p231 q231
    have hw231_10:=hx231_10
    have hw231_9:=hx231_9
    have hw231_8:=hx231_8
    have hw231_7:=hx231_7
    have hw231_6:=hx231_6
    have hw231_5:=hx231_5
    have hw231_4:=hx231_4
    have hw231_3:=hx231_3
    have hw231_2:=hx231_2
    have hw231_1:=hx231_1
    have hw231_0:=hx231_0
    cases e231
    replace hx231_0:=cl HB hx231_0
    replace hx231_1:=cl HB hx231_1
    replace hx231_2:=cl HB hx231_2
    replace hx231_3:=cl HB hx231_3
    replace hx231_4:=cl HB hx231_4
    replace hx231_5:=cl HB hx231_5
    replace hx231_6:=cl HB hx231_6
    replace hx231_7:=cl HB hx231_7
    replace hx231_8:=cl HB hx231_8
    replace hx231_9:=cl HB hx231_9
    replace hx231_10:=cl HB hx231_10
    have HR231_7:=Aside0.mk hi231_7
    have HC231_7:=Aside0.mk hl231_7
    clear hi231_7 hl231_7
    replace p231:=eq_true p231
    replace q231:=eq_true q231
    refine stP (fun w' => Q11 w' (ad231.add ((x6_1).toNat * 11)) (Qad l0 x6_1) A231_7 c231_7) 15 ⟨(cW HB hw231_0),(cW HB hw231_1),(cW HB hw231_2),(cW HB hw231_3),(cW HB hw231_4),(cW HB hw231_5),(cW HB hw231_6),(cW HB hw231_7),(cW HB hw231_8),(cW HB hw231_9),(cW HB hw231_10)⟩ (h:=fun hHeld => ?_); refine Qas r4_Under.tab5 r4_Under.bits5 (fun HT_ HW_ => ?_)
    generalize wr.drew = w8 at HO_5 BK230 HB HR231_7 hx231_0 hx231_1 hx231_10 hx231_2 hx231_3 hx231_4 hx231_5 hx231_6 hx231_7 hx231_8 hx231_9 hHeld ⊢
    refine pu HT_ 0 15 1 (h := ?_)
    refine pu HT_ 1 16 3 (h := ?_)
    refine pu HT_ 2 17 7 (h := ?_)
    refine pu HT_ 3 18 15 (h := ?_)
    refine tk HT_ HW_ hHeld 4 19 31 (h := ?_)
    refine pu HT_ 5 20 63 (h := ?_)
    refine pu HT_ 6 21 127 (h := ?_)
    refine off HT_ 7 22 255 (h := ?_)
    refine off HT_ 8 23 511 (h := ?_)
    refine off HT_ 9 24 1023 (h := ?_)
    refine off HT_ 10 25 2047 (h := ?_)
    refine off HT_ 11 26 4095 (h := ?_)
    refine off HT_ 12 27 8191 (h := ?_)
    refine off HT_ 13 28 16383 (h := ?_)
    refine pu HT_ 14 29 32767 (h := ?_)
    refine dn HT_ (h := ?_)
    try go_wp2
    go_roundg k1
    case measure => have:=HK1.out; omega
    case rel => exact ⟨(x5_1),(wrap64 (x6_1 - 1)),rf,H',⟨by have:=HK1.out; omega⟩,⟨rk HO_5⟩,⟨kk BK230⟩,⟨bw HB⟩⟩
   rw [if_neg c7] at H
   obtain ⟨c7b0,c7b1⟩:=bF c7
   by_cases c9 : (((Qad l0 x6_1).f3.f0) == a1_0 && (((Qad l0 x6_1).f3.f1) == a1_1 && (((Qad l0 x6_1).f3.f2) == a1_2))) = true; rotate_left
   ·rw [if_neg c9] at H
    have c9b0 : (((Qad l0 x6_1).f3.f0) == a1_0 && (((Qad l0 x6_1).f3.f1) == a1_1 && (((Qad l0 x6_1).f3.f2) == a1_2))) = false:=by simpa using c9
    (try (have c9b1 : decide (((Qad l0 x6_1).f3.f0) = a1_0 && (((Qad l0 x6_1).f3.f1) == a1_1 && (((Qad l0 x6_1).f3.f2) == a1_2))) = false:=by simpa using c9))
    (try (have c9b2 : (((Qad l0 x6_1).f3.f0) == a1_0 && (((Qad l0 x6_1).f3.f1) == a1_1 && (((Qad l0 x6_1).f3.f2) == a1_2))) = false:=by simpa using c9))
    (try (have c9b3 : ¬ (((Qad l0 x6_1).f3.f0) = a1_0 && (((Qad l0 x6_1).f3.f1) == a1_1 && (((Qad l0 x6_1).f3.f2) == a1_2))):=by simpa using c9))
    clear c9
    have H':=Aside0.mk H
    clear H
    try go_wp2
    have n0_:=Aside0.mk (Kd.R_drew HO_5.out)
    have n1_:=Aside0.mk (Qan BK230.out)
    have n2_:=Aside0.mk (Qaf HB.out)
    clear HO_5
    clear BK230
    clear HB
    have HO_5:=n0_
    have BK230:=n1_
    have HB:=n2_
    clear n0_ n1_ n2_
    have p231 : 0 ≤ (x6_1 : Int):=od
    have q231 : x6_1 < (l0.length : Int):=od
    obtain ⟨ad231,A231_7,c231_7,e231,hx231_0,hx231_1,hx231_2,hx231_3,hx231_4,hx231_5,hx231_6,hx231_7,hx231_8,hx231_9,hx231_10,hl231_7,hi231_7⟩:=Qck HR0.out x6_1 p231 q231
    have hw231_10:=hx231_10
    have hw231_9:=hx231_9
    have hw231_8:=hx231_8
    have hw231_7:=hx231_7
    have hw231_6:=hx231_6
    have hw231_5:=hx231_5
    have hw231_4:=hx231_4
    have hw231_3:=hx231_3
    have hw231_2:=hx231_2
    have hw231_1:=hx231_1
    have hw231_0:=hx231_0
    cases e231
    replace hx231_0:=cl HB hx231_0
    replace hx231_1:=cl HB hx231_1
    replace hx231_2:=cl HB hx231_2
    replace hx231_3:=cl HB hx231_3
    replace hx231_4:=cl HB hx231_4
    replace hx231_5:=cl HB hx231_5
    replace hx231_6:=cl HB hx231_6
    replace hx231_7:=cl HB hx231_7
    replace hx231_8:=cl HB hx231_8
    replace hx231_9:=cl HB hx231_9
    replace hx231_10:=cl HB hx231_10
    have HR231_7:=Aside0.mk hi231_7
    have HC231_7:=Aside0.mk hl231_7
    clear hi231_7 hl231_7
    replace p231:=eq_true p231
    replace q231:=eq_true q231
    refine stP (fun w' => B3 w' gb230 (.int .i64 a1_0) (.int .i64 a1_1) (.int .i64 a1_2) (Q11 w' (ad231.add ((x6_1).toNat * 11)) (Qad l0 x6_1) A231_7 c231_7)) 15 (b3 BK230 ⟨(cW HB hw231_0),(cW HB hw231_1),(cW HB hw231_2),(cW HB hw231_3),(cW HB hw231_4),(cW HB hw231_5),(cW HB hw231_6),(cW HB hw231_7),(cW HB hw231_8),(cW HB hw231_9),(cW HB hw231_10)⟩) (h:=fun hHeld => ?_); refine Qas r4_Under.tab5 r4_Under.bits5 (fun HT_ HW_ => ?_)
    generalize wr.drew = w14 at HO_5 BK230 HB HR231_7 HR231_7 hx231_0 hx231_1 hx231_10 hx231_2 hx231_3 hx231_4 hx231_5 hx231_6 hx231_7 hx231_8 hx231_9 hx231_0 hx231_1 hx231_10 hx231_2 hx231_3 hx231_4 hx231_5 hx231_6 hx231_7 hx231_8 hx231_9 hHeld ⊢
    refine pu HT_ 0 15 1 (h := ?_)
    refine pu HT_ 1 16 3 (h := ?_)
    refine pu HT_ 2 17 7 (h := ?_)
    refine pu HT_ 3 18 15 (h := ?_)
    refine tk HT_ HW_ hHeld 4 19 31 (h := ?_)
    refine pu HT_ 5 20 63 (h := ?_)
    refine pu HT_ 6 21 127 (h := ?_)
    refine pu HT_ 7 22 255 (h := ?_)
    refine pu HT_ 8 23 511 (h := ?_)
    refine pu HT_ 9 24 1023 (h := ?_)
    refine pu HT_ 10 25 2047 (h := ?_)
    refine tk HT_ HW_ hHeld 11 26 4095 (h := ?_)
    refine tk HT_ HW_ hHeld 12 27 8191 (h := ?_)
    refine pu HT_ 13 28 16383 (h := ?_)
    refine pu HT_ 14 29 32767 (h := ?_)
    refine dn HT_ (h := ?_)
    try go_wp2
    go_roundg k1
    case measure => have:=HK1.out; omega
    case rel => exact ⟨(x5_1),(wrap64 (x6_1 - 1)),rf,H',⟨by have:=HK1.out; omega⟩,⟨rk HO_5⟩,⟨kk BK230⟩,⟨bw HB⟩⟩
   rw [if_pos c9] at H
   have c9b0 : (((Qad l0 x6_1).f3.f0) == a1_0 && (((Qad l0 x6_1).f3.f1) == a1_1 && (((Qad l0 x6_1).f3.f2) == a1_2))) = true:=c9
   (try (have c9b1 : decide (((Qad l0 x6_1).f3.f0) = a1_0 && (((Qad l0 x6_1).f3.f1) == a1_1 && (((Qad l0 x6_1).f3.f2) == a1_2))) = true:=by simpa using c9))
   (try (have c9b2 : (((Qad l0 x6_1).f3.f0) == a1_0 && (((Qad l0 x6_1).f3.f1) == a1_1 && (((Qad l0 x6_1).f3.f2) == a1_2))) = true:=by simpa using c9))
   clear c9
   by_cases c10 : x5_1.length < 5864062014805; rotate_left
   ·rw [if_neg c10] at H
    exact absurd H (by simp)
   rw [if_pos c10] at H
   have LMc10:=Aside0.mk c10
   clear c10
   obtain ⟨y235,hy235⟩ : ∃ y_ : List (SElem),y_ = (x5_1 ++ [(⟨(Qad l0 x6_1).f0,(Qad l0 x6_1).f1,0⟩ : SElem)]):=⟨_,rfl⟩
   first | rw [Option.bind_some,← hy235] at H | rw [← hy235] at H
   have Ny235:=Aside0.mk hy235
   clear hy235
   have H':=Aside0.mk H
   clear H
   try go_wp2
   have n0_:=Aside0.mk (Kd.R_drew HO_5.out)
   have n1_:=Aside0.mk (Qan BK230.out)
   have n2_:=Aside0.mk (Qaf HB.out)
   clear HO_5
   clear BK230
   clear HB
   have HO_5:=n0_
   have BK230:=n1_
   have HB:=n2_
   clear n0_ n1_ n2_
   have p231 : 0 ≤ (x6_1 : Int):=od
   have q231 : x6_1 < (l0.length : Int):=od
   obtain ⟨ad231,A231_7,c231_7,e231,hx231_0,hx231_1,hx231_2,hx231_3,hx231_4,hx231_5,hx231_6,hx231_7,hx231_8,hx231_9,hx231_10,hl231_7,hi231_7⟩:=Qck HR0.out x6_1 p231 q231
   have hw231_10:=hx231_10
   have hw231_9:=hx231_9
   have hw231_8:=hx231_8
   have hw231_7:=hx231_7
   have hw231_6:=hx231_6
   have hw231_5:=hx231_5
   have hw231_4:=hx231_4
   have hw231_3:=hx231_3
   have hw231_2:=hx231_2
   have hw231_1:=hx231_1
   have hw231_0:=hx231_0
   cases e231
   replace hx231_0:=cl HB hx231_0
   replace hx231_1:=cl HB hx231_1
   replace hx231_2:=cl HB hx231_2
   replace hx231_3:=cl HB hx231_3
   replace hx231_4:=cl HB hx231_4
   replace hx231_5:=cl HB hx231_5
   replace hx231_6:=cl HB hx231_6
   replace hx231_7:=cl HB hx231_7
   replace hx231_8:=cl HB hx231_8
   replace hx231_9:=cl HB hx231_9
   replace hx231_10:=cl HB hx231_10
   have HR231_7:=Aside0.mk hi231_7
   have HC231_7:=Aside0.mk hl231_7
   clear hi231_7 hl231_7
   replace p231:=eq_true p231
   replace q231:=eq_true q231
   refine stP (fun w' => B3 w' gb230 (.int .i64 a1_0) (.int .i64 a1_1) (.int .i64 a1_2) (Q11 w' (ad231.add ((x6_1).toNat * 11)) (Qad l0 x6_1) A231_7 c231_7)) 15 (b3 BK230 ⟨(cW HB hw231_0),(cW HB hw231_1),(cW HB hw231_2),(cW HB hw231_3),(cW HB hw231_4),(cW HB hw231_5),(cW HB hw231_6),(cW HB hw231_7),(cW HB hw231_8),(cW HB hw231_9),(cW HB hw231_10)⟩) (h:=fun hHeld => ?_); refine Qas r4_Under.tab5 r4_Under.bits5 (fun HT_ HW_ => ?_)
   generalize wr.drew = w11 at HO_5 BK230 HB HR231_7 HR231_7 hx231_0 hx231_1 hx231_10 hx231_2 hx231_3 hx231_4 hx231_5 hx231_6 hx231_7 hx231_8 hx231_9 hx231_0 hx231_1 hx231_10 hx231_2 hx231_3 hx231_4 hx231_5 hx231_6 hx231_7 hx231_8 hx231_9 hHeld ⊢
   refine pu HT_ 0 15 1 (h := ?_)
   refine pu HT_ 1 16 3 (h := ?_)
   refine pu HT_ 2 17 7 (h := ?_)
   refine pu HT_ 3 18 15 (h := ?_)
   refine tk HT_ HW_ hHeld 4 19 31 (h := ?_)
   refine pu HT_ 5 20 63 (h := ?_)
   refine pu HT_ 6 21 127 (h := ?_)
   refine pu HT_ 7 22 255 (h := ?_)
   refine pu HT_ 8 23 511 (h := ?_)
   refine pu HT_ 9 24 1023 (h := ?_)
   refine pu HT_ 10 25 2047 (h := ?_)
   refine tk HT_ HW_ hHeld 11 26 4095 (h := ?_)
   refine tk HT_ HW_ hHeld 12 27 8191 (h := ?_)
   refine pu HT_ 13 28 16383 (h := ?_)
   refine pu HT_ 14 29 32767 (h := ?_)
   refine dn HT_ (h := ?_)
   try go_wp2
   have n0_:=Aside0.mk (Kd.R_drew HO_5.out)
   have n1_:=Aside0.mk (Qan BK230.out)
   have n2_:=Aside0.mk (Qaf HB.out)
   clear HO_5
   clear BK230
   clear HB
   have HO_5:=n0_
   have BK230:=n1_
   have HB:=n2_
   clear n0_ n1_ n2_
   have p233 : 0 ≤ (x6_1 : Int):=od
   have q233 : x6_1 < (l0.length : Int):=od
   obtain ⟨ad233,A233_7,c233_7,e233,hx233_0,hx233_1,hx233_2,hx233_3,hx233_4,hx233_5,hx233_6,hx233_7,hx233_8,hx233_9,hx233_10,hl233_7,hi233_7⟩:=Qck HR0.out x6_1 p233 q233
   have hw233_10:=hx233_10
   have hw233_9:=hx233_9
   have hw233_8:=hx233_8
   have hw233_7:=hx233_7
   have hw233_6:=hx233_6
   have hw233_5:=hx233_5
   have hw233_4:=hx233_4
   have hw233_3:=hx233_3
   have hw233_2:=hx233_2
   have hw233_1:=hx233_1
   have hw233_0:=hx233_0
   obtain rfl : ad231 = ad233:=(by injection e233)
   replace hx233_0:=cl HB hx233_0
   replace hx233_1:=cl HB hx233_1
   replace hx233_2:=cl HB hx233_2
   replace hx233_3:=cl HB hx233_3
   replace hx233_4:=cl HB hx233_4
   replace hx233_5:=cl HB hx233_5
   replace hx233_6:=cl HB hx233_6
   replace hx233_7:=cl HB hx233_7
   replace hx233_8:=cl HB hx233_8
   replace hx233_9:=cl HB hx233_9
   replace hx233_10:=cl HB hx233_10
   have HR233_7:=Aside0.mk hi233_7
   have HC233_7:=Aside0.mk hl233_7
   clear hi233_7 hl233_7
   replace p233:=eq_true p233
   replace q233:=eq_true q233
   refine stP (fun w' => Q11 w' (ad231.add ((x6_1).toNat * 11)) (Qad l0 x6_1) A233_7 c233_7) 15 ⟨(cW HB hw233_0),(cW HB hw233_1),(cW HB hw233_2),(cW HB hw233_3),(cW HB hw233_4),(cW HB hw233_5),(cW HB hw233_6),(cW HB hw233_7),(cW HB hw233_8),(cW HB hw233_9),(cW HB hw233_10)⟩ (h:=fun hHeld => ?_); refine Qas r4_Under.tab6 r4_Under.bits6 (fun HT_ HW_ => ?_)
   generalize w11.drew = w12 at HO_5 BK230 HB HR233_7 HR233_7 hx233_0 hx233_1 hx233_10 hx233_2 hx233_3 hx233_4 hx233_5 hx233_6 hx233_7 hx233_8 hx233_9 hx233_0 hx233_1 hx233_10 hx233_2 hx233_3 hx233_4 hx233_5 hx233_6 hx233_7 hx233_8 hx233_9 hHeld ⊢
   refine pu HT_ 0 30 1 (h := ?_)
   refine pu HT_ 1 31 3 (h := ?_)
   refine pu HT_ 2 32 7 (h := ?_)
   refine pu HT_ 3 33 15 (h := ?_)
   refine pu HT_ 4 34 31 (h := ?_)
   refine pu HT_ 6 36 95 (h := ?_)
   refine pu HT_ 7 37 223 (h := ?_)
   refine pu HT_ 8 38 479 (h := ?_)
   refine pu HT_ 9 39 991 (h := ?_)
   refine tk HT_ HW_ hHeld 5 35 1023 (h := ?_)
   refine tk HT_ HW_ hHeld 10 40 2047 (h := ?_)
   refine pu HT_ 11 41 4095 (h := ?_)
   refine on HT_ 12 (some 42) 8191 (h:=fun K hK => ?_)
   refine value_ (w1 := ?_) (v := ?_) (by rfl) rfl ?_ ?_
   rotate_left 2
   ·go_simp
    constructor
    ·rfl
    rfl
   refine hK.out _ _ ⟨(World.cell?_alloc_lt _ _ _ (World.block_lt_of_cell? _ _ ((cW HB hw233_0)))).trans ((cW HB hw233_0)),(World.cell?_alloc_lt _ _ _ (World.block_lt_of_cell? _ _ ((cW HB hw233_1)))).trans ((cW HB hw233_1)),(World.cell?_alloc_lt _ _ _ (World.block_lt_of_cell? _ _ ((cW HB hw233_2)))).trans ((cW HB hw233_2)),(World.cell?_alloc_lt _ _ _ (World.block_lt_of_cell? _ _ ((cW HB hw233_3)))).trans ((cW HB hw233_3)),(World.cell?_alloc_lt _ _ _ (World.block_lt_of_cell? _ _ ((cW HB hw233_4)))).trans ((cW HB hw233_4)),(World.cell?_alloc_lt _ _ _ (World.block_lt_of_cell? _ _ ((cW HB hw233_5)))).trans ((cW HB hw233_5)),(World.cell?_alloc_lt _ _ _ (World.block_lt_of_cell? _ _ ((cW HB hw233_6)))).trans ((cW HB hw233_6)),(World.cell?_alloc_lt _ _ _ (World.block_lt_of_cell? _ _ ((cW HB hw233_7)))).trans ((cW HB hw233_7)),(World.cell?_alloc_lt _ _ _ (World.block_lt_of_cell? _ _ ((cW HB hw233_8)))).trans ((cW HB hw233_8)),(World.cell?_alloc_lt _ _ _ (World.block_lt_of_cell? _ _ ((cW HB hw233_9)))).trans ((cW HB hw233_9)),(World.cell?_alloc_lt _ _ _ (World.block_lt_of_cell? _ _ ((cW HB hw233_10)))).trans ((cW HB hw233_10))⟩ (fun hHeld => ?_)
   clear hK K
   refine nn 42 (h := ?_)
   refine on HT_ 13 (some 43) 16383 (h:=fun K hK => ?_)
   refine Kd.R_append_step Qaq (w0:=w) w.heap.size (by rfl) (.tmp 30) (.tmp 42) 23 43 (.agg #[(.int .i64 0),(.int .i64 0),(.int .i64 0)]) 24 rfl Tryd.underlying23 info43 rfl (by decide) (by omega) u5 x5_1 (⟨(Qad l0 x6_1).f0,(Qad l0 x6_1).f1,0⟩ : SElem) [.int .i64 ((Qad l0 x6_1).f0), .int .i64 ((Qad l0 x6_1).f1), .int .i64 0] (fun k_ => k_ ≠ gb230) (fun _ => False) rfl rfl ?aP (fun _ hk => hk.elim) ?aF ?aO ?aB ?aS ?aL ?_
   (case aP => exact Qbs _ _ _ (⟨(Qad l0 x6_1).f0,(Qad l0 x6_1).f1,0⟩ : SElem))
   (case aB => exact (bw HB))
   (case aF => exact (fun k_ hk => Kd.freshB (kk BK230) k_ hk))
   (case aO => exact (rk HO_5))
   (case aS => exact (Qai (bw HB)))
   (case aL => have:=LMc10.out; omega)
   intro v236 w13 ho hb hg hat
   rw [← Ny235.out] at ho
   have n0_:=Aside0.mk (Qcm (kk BK230) hg (Kd.R_away HO_5.out (fun _ hk => hk)))
   have n1_:=Aside0.mk (hb)
   have n2_:=Aside0.mk (ho)
   clear BK230
   clear HB
   clear HO_5
   have BK230:=n0_
   have HB:=n1_
   have HO237:=n2_
   clear n0_ n1_ n2_
   clear ho hb hg hat
   refine hK.out _ _ ⟨(cW HB hw233_0),(cW HB hw233_1),(cW HB hw233_2),(cW HB hw233_3),(cW HB hw233_4),(cW HB hw233_5),(cW HB hw233_6),(cW HB hw233_7),(cW HB hw233_8),(cW HB hw233_9),(cW HB hw233_10)⟩ (fun hHeld => ?_)
   clear hK K
   refine nn 43 (h := ?_)
   refine pu HT_ 14 5 32767 (h := ?_)
   refine dn HT_ (h := ?_)
   try go_wp2
   go_roundg k1
   case measure => have:=HK1.out; omega
   case rel => exact ⟨(y235),(wrap64 (x6_1 - 1)),rf,H',⟨by have:=HK1.out; omega⟩,⟨rk HO237⟩,⟨kk BK230⟩,⟨bw HB⟩⟩
end
section
attribute [local go_sem] Qbp Qbn Qby Qbx Qbc Qbb Qbo Qbm
attribute [local go_sem high] eqAElem
mutual
def r4_Order.l0 : Nat → List (SOp) → List (SElem) → List (SElem) → Option ((List (SElem)))
 | 0,_,_,_ => none
 | k + 1,x0,x3,x4 => if (x4.length : Int) > 0 then (if 0 ≤ (wrap64 ((x4.length : Int) - 1)) then (if (wrap64 ((x4.length : Int) - 1)) < (x4.length : Int) then (if (wrap64 ((x4.length : Int) - 1)) ≤ (x4.length : Int) then ((some (x4.take ((wrap64 ((x4.length : Int) - 1)) : Int).toNat : List (SElem))).bind fun y249 => ((r4_Begin.f ((Qaa x4 (wrap64 ((x4.length : Int) - 1))).f0) ((Qaa x4 (wrap64 ((x4.length : Int) - 1))).f1) ((Qaa x4 (wrap64 ((x4.length : Int) - 1))).f2)).bind fun t252 => (if t252 = true then (r4_Order.j1 k x0 x3 y249 ((Qaa x4 (wrap64 ((x4.length : Int) - 1))).f0) ((Qaa x4 (wrap64 ((x4.length : Int) - 1))).f1) ((Qaa x4 (wrap64 ((x4.length : Int) - 1))).f2)) else (if x3.length < 5864062014805 then (r4_Order.j1 k x0 (x3 ++ [(⟨(Qaa x4 (wrap64 ((x4.length : Int) - 1))).f0,(Qaa x4 (wrap64 ((x4.length : Int) - 1))).f1,(Qaa x4 (wrap64 ((x4.length : Int) - 1))).f2⟩ : SElem)]) y249 ((Qaa x4 (wrap64 ((x4.length : Int) - 1))).f0) ((Qaa x4 (wrap64 ((x4.length : Int) - 1))).f1) ((Qaa x4 (wrap64 ((x4.length : Int) - 1))).f2)) else (none))))) else (none)) else (none)) else (none)) else (some x3)
def r4_Order.j1 : Nat → List (SOp) → List (SElem) → List (SElem) → Int → Int → Int → Option ((List (SElem)))
 | 0,_,_,_,_,_,_ => none
 | k + 1,x0,x3,x4,x249000,x249001,x249002 => (r4_Under.f k x0 x249000 x249001 x249002).bind fun t256 => (r4_Order.l1 k x0 x3 x4 t256 (wrap64 ((t256.length : Int) - 1)))
def r4_Order.l1 : Nat → List (SOp) → List (SElem) → List (SElem) → List (SElem) → Int → Option ((List (SElem)))
 | 0,_,_,_,_,_ => none
 | k + 1,x0,x3,x4,x6,x7 => if x7 ≥ 0 then (if 0 ≤ x7 then (if x7 < (x6.length : Int) then (if x4.length < 5864062014805 then (r4_Order.l1 k x0 x3 (x4 ++ [(⟨(Qaa x6 x7).f0,(Qaa x6 x7).f1,(Qaa x6 x7).f2⟩ : SElem)]) x6 (wrap64 (x7 - 1))) else (none)) else (none)) else (none)) else (r4_Order.l0 k x0 x3 x4)
end
def r4_Order.f (k : Nat) (l0 : List (SOp)) : Option ((List (SElem))):=r4_Order.l0 k l0 ([] : List (SElem)) (([(⟨0,0,0⟩ : SElem)] : List (SElem)))
theorem r4_Order.calls (k : Nat) (A0 : Option Addr) (c0 : Nat) (l0 : List (SOp)) (r : List (SElem)) (w : World) (hr0 : Kd.C kOp w A0 l0.length l0) (hc0 : l0.length ≤ c0) (hT : GT w) (h : r4_Order.f k l0 = some r) :
  Calls Tryd.prog 17 #[.slice A0 l0.length c0] w fun e w' => ∃ v0_ : Value,e = .returned (v0_) ∧ Kd.R Qaq 43 w' w.heap.size (fun _ => True) v0_ r ∧ Below w.heap.size w w':=by
 have hu43:=Tryd.underlying43
 have HR0:=Aside0.mk hr0
 have HC0:=Aside0.mk hc0
 clear hr0 hc0
 have HB:=Aside0.mk (Below.refl w.heap.size w)
 unfold r4_Order.f at h; have H:=h
 clear h
 obtain ⟨y244,hy244⟩ : ∃ y_ : List (SElem),y_ = (([(⟨0,0,0⟩ : SElem)] : List (SElem))):=⟨_,rfl⟩
 first | rw [Option.bind_some,← hy244] at H | rw [← hy244] at H
 have Ny244:=Aside0.mk hy244
 clear hy244
 have H':=Aside0.mk H
 clear H
 go_enter Tryd.func17,Tryd.ntmps17
 go_wp2_with (first | ((with_reducible refine Qae (N:=9) rfl ?_); refine Kd.R_lit Qaq _ 43 ?hg (N:=9) ?hd (xs:=([(⟨0,0,0⟩ : SElem)] : List (SElem))) (inner:=[.int .i64 0, .int .i64 0, .int .i64 0]) (ok:=fun _ => True) (okp:=fun _ => True) ?hr ?hp (fun _ hk => hk) trivial (Below.refl _ _) (Nat.le_refl _) (by simp) ?_; (case hd => rfl); (case hg => rfl); (case hr => first | (go_simp; done) | (go_simp; rfl)); (case hp => exact (Reps.c3 (show Kd.M Qaq _ _ _ (⟨0,0,0⟩ : SElem) [.int .i64 0, .int .i64 0, .int .i64 0] from (Qbs _ _ _ (⟨0,0,0⟩ : SElem) )) (Reps.none _ _))); intro v245 w2 ho3 hb hg_ hnew_; clear hg_ hnew_; (first | rw [← Ny244.out] at ho3 | (simp only [Int.reduceToNat] at ho3; rw [← Ny244.out] at ho3)); have HO246:=Aside0.mk (Kd.R_lower ho3 (Qai (bw HB))); replace HB:=bs HB hb; clear hb ho3))
 go_loopg [3,4] k (fun kq v3 v4 w' => ∃ (x3_1 : List (SElem)) (x4_1 : List (SElem)),Aside0 (r4_Order.l0 kq l0 x3_1 x4_1 = some r) ∧ Aside0 (kq ≤ k) ∧ Aside0 (Kd.R Qaq 43 w' w.heap.size (fun k_ => some k_ ≠ (v4 : Value).ownBlock) v3 x3_1) ∧ Aside0 (Kd.R Qaq 43 w' w.heap.size (fun k_ => some k_ ≠ (v3 : Value).ownBlock) v4 x4_1) ∧ Aside0 (Below w.heap.size w w'))
 case atStart => exact ⟨(([] : List (SElem))),(y244),H',⟨Nat.le_refl _⟩,⟨by first | exact Kd.R_nil _ _ _ _ _ | exact Kd.N_nil _ _ _ _ _ | exact Kd.V_nil _ _ _ _ _ | exact Kd.Q_nil _ _ _ _ _ | exact Kd.S_nil _ _ _ _ _⟩,⟨by (with_reducible repeat (first | apply Kd.R_alloc | apply Kd.R_drewN | apply Kd.R_drew)); exact Kd.R_mono HO246.out (fun _ hk => (by simp [Value.ownBlock]))⟩,⟨bw HB⟩⟩
 case round =>
  clear H'
  obtain ⟨x3_1,x4_1,HA,HK1,HO_3,HO_4,HB⟩:=hrel
  cases gk with
  | zero => exact absurd HA.out (by simp [r4_Order.l0])
  | succ k1 =>
   have H:=HA.out
   clear HA
   simp only [r4_Order.l0] at H
   by_cases c4 : (x4_1.length : Int) > 0; rotate_left
   ·rw [if_neg c4] at H
    have c4b0:=decide_eq_false c4
    have c4b1 : decide (0 < x4_1.length) = false:=decide_eq_false (by omega)
    clear c4
    obtain rfl:=Option.some.inj H
    obtain ⟨Ao31,co31,eo31⟩:=Kd.R_slice HO_4.out
    subst eo31
    go_wp2
    go_ret
    exact ⟨_,re,by (with_reducible repeat (first | apply Kd.R_alloc | apply Kd.R_drewN | apply Kd.R_drew)); exact Kd.R_mono HO_3.out (fun _ hk => trivial),bw HB⟩
   rw [if_pos c4] at H
   have c4b0:=decide_eq_true c4
   have c4b1 : decide (0 < x4_1.length) = true:=decide_eq_true (by omega)
   clear c4
   obtain ⟨ji5,hji5⟩ : ∃ j_ : Int,(wrap64 ((x4_1.length : Int) - 1)) = j_:=⟨_,rfl⟩
   replace H : (if 0 ≤ (ji5) then (if (ji5) < (x4_1.length : Int) then (if (ji5) ≤ (x4_1.length : Int) then ((some (x4_1.take ((ji5) : Int).toNat : List (SElem))).bind fun y249 => ((r4_Begin.f ((Qaa x4_1 (ji5)).f0) ((Qaa x4_1 (ji5)).f1) ((Qaa x4_1 (ji5)).f2)).bind fun t252 => (if t252 = true then (r4_Order.j1 k1 l0 x3_1 y249 ((Qaa x4_1 (ji5)).f0) ((Qaa x4_1 (ji5)).f1) ((Qaa x4_1 (ji5)).f2)) else (if x3_1.length < 5864062014805 then (r4_Order.j1 k1 l0 (x3_1 ++ [(⟨(Qaa x4_1 (ji5)).f0,(Qaa x4_1 (ji5)).f1,(Qaa x4_1 (ji5)).f2⟩ : SElem)]) y249 ((Qaa x4_1 (ji5)).f0) ((Qaa x4_1 (ji5)).f1) ((Qaa x4_1 (ji5)).f2)) else (none))))) else (none)) else (none)) else (none)) = some r:=by first | (rw [hji5] at H; exact H) | (simp only [hji5] at H ⊢; exact H)
   have hji5w : (IntKind.i64.wrap ((x4_1.length : Int) - 1)) = ji5:=(Qaw _).trans hji5
   by_cases c6 : 0 ≤ (ji5); rotate_left
   ·rw [if_neg c6] at H
    exact absurd H (by simp)
   rw [if_pos c6] at H
   have c6b0:=decide_eq_true c6
   clear c6
   by_cases c7 : (ji5) < (x4_1.length : Int); rotate_left
   ·rw [if_neg c7] at H
    exact absurd H (by simp)
   rw [if_pos c7] at H
   have c7b0:=decide_eq_true c7
   clear c7
   by_cases c8 : (ji5) ≤ (x4_1.length : Int); rotate_left
   ·rw [if_neg c8] at H
    exact absurd H (by simp)
   rw [if_pos c8] at H
   have c8b0:=eq_true c8
   have c8b1:=decide_eq_true c8
   clear c8
   obtain ⟨y249,hy249⟩ : ∃ y_ : List (SElem),y_ = (x4_1.take ((ji5) : Int).toNat):=⟨_,rfl⟩
   first | rw [Option.bind_some,← hy249] at H | rw [← hy249] at H
   have Ny249:=Aside0.mk hy249
   clear hy249
   obtain ⟨t252,A9,H⟩:=bE H
   have HC10:=Aside0.mk H
   clear H
   obtain ⟨Ao11,co11,eo11⟩:=Kd.R_slice HO_4.out
   subst eo11
   have p247 : 0 ≤ ((ji5) : Int):=od
   have q247 : (ji5) < (x4_1.length : Int):=od
   obtain ⟨ad247,e247,hx247_0,hx247_1,hx247_2⟩:=Qba (Kd.R_reads' HO_4.out).2.2 (ji5) p247 q247
   cases e247
   replace p247:=eq_true p247
   replace q247:=eq_true q247
   go_upto_if 26 with (first | ((with_reducible refine Qae (N:=5) rfl ?_); refine bx 5 #[.int .i64 0, .int .i64 0, .int .i64 0] 43 (h := ?_); intro gb248 hg w12 hbox hb; have BK248:=Aside0.mk (hbox); have GW248:=bz HB hg; have GE248:=bz HB hg; replace HO_3:=Aside0.mk (Kd.R_below (Kd.R_elderB (rk HO_3) gb248 (Nat.le_of_eq hg.symm)) hb); replace HO_4:=Aside0.mk (Kd.R_below (Kd.R_elderB (rk HO_4) gb248 (Nat.le_of_eq hg.symm)) hb); replace HB:=bs HB hb; clear hb hbox hg; obtain ⟨_,_,_,_,_,_⟩:=kc3 BK248) | ((with_reducible refine gate_store (t:=43) (p:=5) rfl ?_); refine store_event (t:=43) (p:=5) (v := ?vo_w14) (w1:=(((w12.setCell ⟨gb248,0,none⟩ (.int .i64 ((Qaa x4_1 (ji5)).f0))).setCell ⟨gb248,1,none⟩ (.int .i64 ((Qaa x4_1 (ji5)).f1))).setCell ⟨gb248,2,none⟩ (.int .i64 ((Qaa x4_1 (ji5)).f2)))) ?hg ?ho ?hn ?hr ?_; (case ho => rfl); (case hg => rfl); (case hn => rfl); (case hr => first | (go_simp; done) | (go_simp; rfl)); intro w14 hw; have n0_ : Aside0 (Kd.R Qaq 43 w14 w.heap.size (fun k_ => some k_ ≠ (.slice (some ad247) x4_1.length co11 : Value).ownBlock ∧ k_ ≠ gb248) u3 x3_1):=⟨(by rw [hw]; exact (by (with_reducible repeat (first | apply Kd.R_alloc | apply Kd.R_drewN | apply Kd.R_drew)); exact Kd.R_mono (Kd.R_far (p:=⟨gb248,2,none⟩) (Kd.R_far (p:=⟨gb248,1,none⟩) (Kd.R_far (p:=⟨gb248,0,none⟩) (Kd.R_mono HO_3.out (fun k_ hk => (⟨hk,hk.2⟩ : _ ∧ k_ ≠ gb248))) (fun _ hk => hk.2) (.int .i64 ((Qaa x4_1 (ji5)).f0))) (fun _ hk => hk.2) (.int .i64 ((Qaa x4_1 (ji5)).f1))) (fun _ hk => hk.2) (.int .i64 ((Qaa x4_1 (ji5)).f2))) (fun _ hk => ⟨hk.1.1,hk.1.2⟩)))⟩; have n1_ : Aside0 (Kd.R Qaq 43 w14 w.heap.size (fun k_ => some k_ ≠ (u3 : Value).ownBlock ∧ k_ ≠ gb248) (.slice (some ad247) x4_1.length co11) x4_1):=⟨(by rw [hw]; exact (by (with_reducible repeat (first | apply Kd.R_alloc | apply Kd.R_drewN | apply Kd.R_drew)); exact Kd.R_mono (Kd.R_far (p:=⟨gb248,2,none⟩) (Kd.R_far (p:=⟨gb248,1,none⟩) (Kd.R_far (p:=⟨gb248,0,none⟩) (Kd.R_mono HO_4.out (fun k_ hk => (⟨hk,hk.2⟩ : _ ∧ k_ ≠ gb248))) (fun _ hk => hk.2) (.int .i64 ((Qaa x4_1 (ji5)).f0))) (fun _ hk => hk.2) (.int .i64 ((Qaa x4_1 (ji5)).f1))) (fun _ hk => hk.2) (.int .i64 ((Qaa x4_1 (ji5)).f2))) (fun _ hk => ⟨hk.1.1,hk.1.2⟩)))⟩; have n2_ : Aside0 (w14.heap[gb248]? = some (.cells #[.int .i64 ((Qaa x4_1 (ji5)).f0), .int .i64 ((Qaa x4_1 (ji5)).f1), .int .i64 ((Qaa x4_1 (ji5)).f2)] 43 (0,0))):=⟨(by rw [hw]; exact (bp (bp (bp (kk BK248) 0) 1) 2))⟩; have n3_ : Aside0 (Below w.heap.size w w14):=⟨(by rw [hw]; exact (bw HB))⟩; clear hw; clear HO_3; clear HO_4; clear BK248; clear HB; have HO_3:=n0_; have HO_4:=n1_; have BK248:=n2_; have HB:=n3_; clear n0_ n1_ n2_ n3_; have q15 : ((ji5) : Int) ≤ ((x4_1.length : Int) : Int):=od; obtain ⟨i015,hi015,_,hsz15,_⟩:=info_parts info43; have hcut15:=cut_to (P:=Tryd.prog) 23 43 .i64 Tryd.underlying23 hi015 (some ad247) x4_1.length co11 (ji5) (od) q15 (Kd.R_reads' HO_4.out).2.1; have hr15:=Kd.R_take (m:=((ji5) : Int).toNat) HO_4.out (by omega); have hy15 : y249.length = ((ji5) : Int).toNat:=(by rw [Ny249.out,List.length_take]; omega); rw [← Ny249.out] at hr15; rw [← hy15] at hr15 hcut15; clear hy15 hi015 hsz15 HO_4; have HO251:=Aside0.mk hr15; clear hr15; replace q15:=eq_true q15; obtain ⟨_,_,_,_,_,_⟩:=kc3 BK248) | ((with_reducible refine Qab (f:=62) rfl ?_); refine goesL_ (some 25) rfl rfl Tryd.func62 (by kernel_rfl) rfl #[.agg #[.int .i64 ((Qaa x4_1 (ji5)).f0), .int .i64 ((Qaa x4_1 (ji5)).f1), .int .i64 ((Qaa x4_1 (ji5)).f2)]] rfl (by (try simp only [List.map_toArray,List.map_cons,List.map_nil]); first | done | (simp only [hji5]; rfl) | rfl | (simp only [List.length_drop,List.length_take]; rfl)) ?_; (with_reducible refine (r4_Begin.calls ((Qaa x4_1 (ji5)).f0) ((Qaa x4_1 (ji5)).f1) ((Qaa x4_1 (ji5)).f2) t252 _ A9.out).mono ?_); rintro e w17 ⟨rfl,hb⟩; refine ⟨_,rfl, ?_⟩; replace HO_3:=rb HO_3 hb; replace HO251:=rb HO251 hb; replace BK248:=bl BK248 hb; replace HB:=bs HB hb; clear hb))
   (try simp only [Act.put,List.setIfInBounds_toArray,List.set_cons_zero,List.set_cons_succ])
   go_cut [3] (fun v3 wc => ∃ (kq : Nat) (x3_9 : List (SElem)),Aside0 (r4_Order.j1 kq l0 x3_9 y249 ((Qaa x4_1 (ji5)).f0) ((Qaa x4_1 (ji5)).f1) ((Qaa x4_1 (ji5)).f2) = some r) ∧ Aside0 (kq ≤ k1) ∧ Aside0 (Kd.R Qaq 43 wc w.heap.size (fun k_ => some k_ ≠ ((.slice (some ad247) y249.length co11) : Value).ownBlock ∧ k_ ≠ gb248) v3 x3_9) ∧ Aside0 (Kd.R Qaq 43 wc w.heap.size (fun k_ => some k_ ≠ (v3 : Value).ownBlock ∧ k_ ≠ gb248) (.slice (some ad247) y249.length co11) y249) ∧ Aside0 (wc.heap[gb248]? = some (.cells #[.int .i64 ((Qaa x4_1 (ji5)).f0), .int .i64 ((Qaa x4_1 (ji5)).f1), .int .i64 ((Qaa x4_1 (ji5)).f2)] 43 (0,0))) ∧ Aside0 (Below w.heap.size w wc))
   case first =>
    have H:=HC10.out
    clear HC10
    by_cases c18 : t252 = true
    ·subst c18
     rw [if_pos rfl] at H
     have H':=Aside0.mk H
     clear H
     go_wp2
     go_meet
     case rel => exact ⟨_,(x3_1),H',⟨by have:=HK1.out; first | omega | exact Nat.le_refl _⟩,⟨rk HO_3⟩,⟨rk HO251⟩,⟨kk BK248⟩,⟨bw HB⟩⟩
    replace c18:=Bool.eq_false_iff.mpr c18
    subst c18
    rw [if_neg nft] at H
    by_cases c19 : x3_1.length < 5864062014805; rotate_left
    ·rw [if_neg c19] at H
     exact absurd H (by simp)
    rw [if_pos c19] at H
    have LMc19:=Aside0.mk c19
    clear c19
    obtain ⟨y253,hy253⟩ : ∃ y_ : List (SElem),y_ = (x3_1 ++ [(⟨(Qaa x4_1 (ji5)).f0,(Qaa x4_1 (ji5)).f1,(Qaa x4_1 (ji5)).f2⟩ : SElem)]):=⟨_,rfl⟩
    first | rw [Option.bind_some,← hy253] at H | rw [← hy253] at H
    have Ny253:=Aside0.mk hy253
    clear hy253
    have H':=Aside0.mk H
    clear H
    obtain ⟨_,_,_,_,_,_⟩:=kc3 BK248
    go_wp2_with (first | ((with_reducible refine Qcf (b:=.append) (xs:=#[.tmp 27, .tmp 29]) rfl ?_); at_builtin; refine Kd.R_append Qaq (w0:=w) w.heap.size rfl (.tmp 27) (.tmp 29) 23 43 (.agg #[(.int .i64 0),(.int .i64 0),(.int .i64 0)]) 24 rfl Tryd.underlying23 info43 rfl (by decide) (by omega) u3 x3_1 (⟨(Qaa x4_1 (ji5)).f0,(Qaa x4_1 (ji5)).f1,(Qaa x4_1 (ji5)).f2⟩ : SElem) [.int .i64 ((Qaa x4_1 (ji5)).f0), .int .i64 ((Qaa x4_1 (ji5)).f1), .int .i64 ((Qaa x4_1 (ji5)).f2)] (fun k_ => some k_ ≠ (.slice (some ad247) y249.length co11 : Value).ownBlock ∧ k_ ≠ gb248) (fun _ => False) rfl rfl ?aP (fun _ hk => hk.elim) ?aF ?aO ?aB ?aS ?aL ?_; (case aP => exact Qbs _ _ _ (⟨(Qaa x4_1 (ji5)).f0,(Qaa x4_1 (ji5)).f1,(Qaa x4_1 (ji5)).f2⟩ : SElem)); (case aB => exact (bw HB)); (case aF => exact (fun k_ hk => ⟨Kd.fresh' (Kd.R_lt (rk HO251)) k_ hk,Kd.freshB (kk BK248) k_ hk⟩)); (case aO => exact (rk HO_3)); (case aS => exact (Qai (bw HB))); (case aL => have:=LMc19.out; omega); intro v254 w21 ho hb hg hat; rw [← Ny253.out] at ho; have n0_:=Aside0.mk (Kd.R_after (ok:=(fun k_ => k_ ≠ gb248)) (by (with_reducible repeat (first | apply Kd.R_alloc | apply Kd.R_drewN | apply Kd.R_drew)); exact Kd.R_mono HO251.out (fun _ hk => ⟨hk.2,hk.1⟩)) hg hat); have n1_:=Aside0.mk (Qcm (kk BK248) hg (Kd.R_away HO_3.out (fun _ hk => hk.2))); have n2_:=Aside0.mk (hb); have n3_:=Aside0.mk (ho); clear HO251; clear BK248; clear HB; clear HO_3; have HO251:=n0_; have BK248:=n1_; have HB:=n2_; have HO255:=n3_; clear n0_ n1_ n2_ n3_; clear ho hb hg hat))
    go_meet
    case rel => exact ⟨_,(y253),H',⟨by have:=HK1.out; first | omega | exact Nat.le_refl _⟩,⟨rk HO255⟩,⟨by (with_reducible repeat (first | apply Kd.R_alloc | apply Kd.R_drewN | apply Kd.R_drew)); exact Kd.R_mono HO251.out (fun _ hk => ⟨hk.2,hk.1⟩)⟩,⟨kk BK248⟩,⟨bw HB⟩⟩
   case rest =>
    clear HC10
    try clear c4b0; try clear c4b1; try clear c6b0; try clear c7b0; try clear c8b0; try clear c8b1; try clear q15; try clear hx247_0; try clear hx247_1; try clear hx247_2; try clear p247; try clear q15; try clear q247
    obtain ⟨kq,x3_9,HA,HJ9,HO_3,HO_4,BK248,HB⟩:=hcut
    cases kq with
    | zero => exact absurd HA.out (by simp [r4_Order.j1])
    | succ kj9 =>
     have H:=HA.out
     clear HA
     simp only [r4_Order.j1] at H
     obtain ⟨t256,A22,H⟩:=bE H
     have H':=Aside0.mk H
     clear H
     obtain ⟨_,_,_,_,_,_⟩:=kc3 BK248
     go_wp2_with (first | ((with_reducible refine Qab (f:=26) rfl ?_); refine goesL_ (some 33) rfl rfl Tryd.func26 (by kernel_rfl) rfl #[.slice A0 l0.length c0, .agg #[.int .i64 ((Qaa x4_1 (ji5)).f0), .int .i64 ((Qaa x4_1 (ji5)).f1), .int .i64 ((Qaa x4_1 (ji5)).f2)]] rfl (by (try simp only [List.map_toArray,List.map_cons,List.map_nil]); first | done | (simp only [hji5]; rfl) | rfl | (simp only [List.length_drop,List.length_take]; rfl)) ?_; (with_reducible refine (r4_Under.calls kj9 _ _ l0 ((Qaa x4_1 (ji5)).f0) ((Qaa x4_1 (ji5)).f1) ((Qaa x4_1 (ji5)).f2) t256 _ ?side1 ?side2 ?side3 A22.out).mono ?_); (case side1 => exact cb HR0 HB); (case side2 => exact HC0.out); (case side3 => exact (hT.below (bw HB))); rintro e w24 ⟨v257,rfl,ho0,hb⟩; refine ⟨_,rfl, ?_⟩; have HO258:=Aside0.mk (Kd.R_lower (Kd.R_newB (Kd.R_new' (Kd.R_new' ho0 (Kd.R_lt (rk HO_3))) (Kd.R_lt (rk HO_4))) (kk BK248)) (Qai (bw HB))); replace HO_3:=Aside0.mk (Kd.R_elder' (rk HO_3) (Kd.R_base ho0) hb); replace HO_4:=Aside0.mk (Kd.R_elder' (rk HO_4) (Kd.R_base ho0) hb); replace BK248:=bl BK248 hb; replace HB:=bs HB hb; clear hb; clear ho0; obtain ⟨Ao25,co25,eo25⟩:=Kd.R_slice HO258.out; subst eo25))
     go_loopg [4,7] kj9 (fun kq v4 v7 w' => ∃ (x4_3 : List (SElem)) (x7_3 : Int),v7 = .int .i64 x7_3 ∧ Aside0 (r4_Order.l1 kq l0 x3_9 x4_3 t256 x7_3 = some r) ∧ Aside0 (kq ≤ kj9) ∧ Aside0 (Kd.R Qaq 43 w' w.heap.size (fun k_ => some k_ ≠ (v4 : Value).ownBlock ∧ some k_ ≠ ((.slice Ao25 t256.length co25) : Value).ownBlock ∧ k_ ≠ gb248) u3 x3_9) ∧ Aside0 (Kd.R Qaq 43 w' w.heap.size (fun k_ => some k_ ≠ (u3 : Value).ownBlock ∧ some k_ ≠ ((.slice Ao25 t256.length co25) : Value).ownBlock ∧ k_ ≠ gb248) v4 x4_3) ∧ Aside0 (Kd.R Qaq 43 w' w.heap.size (fun k_ => some k_ ≠ (u3 : Value).ownBlock ∧ some k_ ≠ (v4 : Value).ownBlock ∧ k_ ≠ gb248) (.slice Ao25 t256.length co25) t256) ∧ Aside0 (w'.heap[gb248]? = some (.cells #[.int .i64 ((Qaa x4_1 (ji5)).f0), .int .i64 ((Qaa x4_1 (ji5)).f1), .int .i64 ((Qaa x4_1 (ji5)).f2)] 43 (0,0))) ∧ Aside0 (Below w.heap.size w w'))
     case atStart => exact ⟨(y249),(wrap64 ((t256.length : Int) - 1)),rf,H',⟨Nat.le_refl _⟩,⟨by (with_reducible repeat (first | apply Kd.R_alloc | apply Kd.R_drewN | apply Kd.R_drew)); exact Kd.R_mono HO_3.out (fun _ hk => ⟨hk.1.1,⟨hk.2,hk.1.2⟩⟩)⟩,⟨by (with_reducible repeat (first | apply Kd.R_alloc | apply Kd.R_drewN | apply Kd.R_drew)); exact Kd.R_mono HO_4.out (fun _ hk => ⟨hk.1.1,⟨hk.2,hk.1.2⟩⟩)⟩,⟨by (with_reducible repeat (first | apply Kd.R_alloc | apply Kd.R_drewN | apply Kd.R_drew)); exact Kd.R_mono HO258.out (fun _ hk => ⟨hk.1.1.2,⟨hk.1.2,hk.2⟩⟩)⟩,⟨kk BK248⟩,⟨bw HB⟩⟩
     case round =>
      clear H'
      obtain ⟨x4_3,x7_3,rfl,HA,HK3,HO_3,HO_4,HO_6,BK248,HB⟩:=hrel
      cases gk with
      | zero => exact absurd HA.out (by simp [r4_Order.l1])
      | succ k3 =>
       have H:=HA.out
       clear HA
       simp only [r4_Order.l1] at H
       by_cases c26 : x7_3 ≥ 0; rotate_left
       ·rw [if_neg c26] at H
        have c26b0:=decide_eq_false c26
        clear c26
        have H':=Aside0.mk H
        clear H
        go_wp2
        go_roundg k3
        case measure => have:=HK1.out; have:=HJ9.out; have:=HK3.out; omega
        case rel => exact ⟨(x3_9),(x4_3),H',⟨by have:=HK1.out; have:=HJ9.out; have:=HK3.out; omega⟩,⟨by (with_reducible repeat (first | apply Kd.R_alloc | apply Kd.R_drewN | apply Kd.R_drew)); exact Kd.R_mono HO_3.out (fun _ hk => hk.1)⟩,⟨by (with_reducible repeat (first | apply Kd.R_alloc | apply Kd.R_drewN | apply Kd.R_drew)); exact Kd.R_mono HO_4.out (fun _ hk => hk.1)⟩,⟨bw HB⟩⟩
       rw [if_pos c26] at H
       have c26b0:=decide_eq_true c26
       clear c26
       by_cases c27 : 0 ≤ x7_3; rotate_left
       ·rw [if_neg c27] at H
        exact absurd H (by simp)
       rw [if_pos c27] at H
       have c27b0:=decide_eq_true c27
       clear c27
       by_cases c28 : x7_3 < (t256.length : Int); rotate_left
       ·rw [if_neg c28] at H
        exact absurd H (by simp)
       rw [if_pos c28] at H
       have c28b0:=decide_eq_true c28
       clear c28
       by_cases c29 : x4_3.length < 5864062014805; rotate_left
       ·rw [if_neg c29] at H
        exact absurd H (by simp)
       rw [if_pos c29] at H
       have LMc29:=Aside0.mk c29
       clear c29
       obtain ⟨y260,hy260⟩ : ∃ y_ : List (SElem),y_ = (x4_3 ++ [(⟨(Qaa t256 x7_3).f0,(Qaa t256 x7_3).f1,(Qaa t256 x7_3).f2⟩ : SElem)]):=⟨_,rfl⟩
       first | rw [Option.bind_some,← hy260] at H | rw [← hy260] at H
       have Ny260:=Aside0.mk hy260
       clear hy260
       have H':=Aside0.mk H
       clear H
       have p259 : 0 ≤ (x7_3 : Int):=od
       have q259 : x7_3 < (t256.length : Int):=od
       obtain ⟨ad259,e259,hx259_0,hx259_1,hx259_2⟩:=Qba (Kd.R_reads' HO_6.out).2.2 x7_3 p259 q259
       cases e259
       replace p259:=eq_true p259
       replace q259:=eq_true q259
       go_wp2_with (first | ((with_reducible refine Qcf (b:=.append) (xs:=#[.tmp 41, .tmp 46]) rfl ?_); at_builtin; refine Kd.R_append Qaq (w0:=w) w.heap.size rfl (.tmp 41) (.tmp 46) 23 43 (.agg #[(.int .i64 0),(.int .i64 0),(.int .i64 0)]) 24 rfl Tryd.underlying23 info43 rfl (by decide) (by omega) u4 x4_3 (⟨(Qaa t256 x7_3).f0,(Qaa t256 x7_3).f1,(Qaa t256 x7_3).f2⟩ : SElem) [.int .i64 ((Qaa t256 x7_3).f0), .int .i64 ((Qaa t256 x7_3).f1), .int .i64 ((Qaa t256 x7_3).f2)] (fun k_ => some k_ ≠ (u3 : Value).ownBlock ∧ some k_ ≠ (.slice (some ad259) t256.length co25 : Value).ownBlock ∧ k_ ≠ gb248) (fun _ => False) rfl rfl ?aP (fun _ hk => hk.elim) ?aF ?aO ?aB ?aS ?aL ?_; (case aP => exact Qbs _ _ _ (⟨(Qaa t256 x7_3).f0,(Qaa t256 x7_3).f1,(Qaa t256 x7_3).f2⟩ : SElem)); (case aB => exact (bw HB)); (case aF => exact (fun k_ hk => ⟨Kd.fresh' (Kd.R_lt (rk HO_3)) k_ hk,Kd.fresh' (Kd.R_lt (rk HO_6)) k_ hk,Kd.freshB (kk BK248) k_ hk⟩)); (case aO => exact (rk HO_4)); (case aS => exact (Qai (bw HB))); (case aL => have:=LMc29.out; omega); intro v261 w30 ho hb hg hat; rw [← Ny260.out] at ho; have n0_:=Aside0.mk (Kd.R_after (ok:=(fun k_ => some k_ ≠ (.slice (some ad259) t256.length co25 : Value).ownBlock ∧ k_ ≠ gb248)) (by (with_reducible repeat (first | apply Kd.R_alloc | apply Kd.R_drewN | apply Kd.R_drew)); exact Kd.R_mono HO_3.out (fun _ hk => ⟨⟨hk.2.1,hk.2.2⟩,hk.1⟩)) hg hat); have n1_:=Aside0.mk (Kd.R_after (ok:=(fun k_ => some k_ ≠ (u3 : Value).ownBlock ∧ k_ ≠ gb248)) (by (with_reducible repeat (first | apply Kd.R_alloc | apply Kd.R_drewN | apply Kd.R_drew)); exact Kd.R_mono HO_6.out (fun _ hk => ⟨⟨hk.1,hk.2.2⟩,hk.2.1⟩)) hg hat); have n2_:=Aside0.mk (Qcm (kk BK248) hg (Kd.R_away HO_4.out (fun _ hk => hk.2.2))); have n3_:=Aside0.mk (hb); have n4_:=Aside0.mk (ho); clear HO_3; clear HO_6; clear BK248; clear HB; clear HO_4; have HO_3:=n0_; have HO_6:=n1_; have BK248:=n2_; have HB:=n3_; have HO262:=n4_; clear n0_ n1_ n2_ n3_ n4_; clear ho hb hg hat))
       go_roundg k3
       case measure => have:=HK1.out; have:=HJ9.out; have:=HK3.out; omega
       case rel => exact ⟨(y260),(wrap64 (x7_3 - 1)),rf,H',⟨by have:=HK1.out; have:=HJ9.out; have:=HK3.out; omega⟩,⟨by (with_reducible repeat (first | apply Kd.R_alloc | apply Kd.R_drewN | apply Kd.R_drew)); exact Kd.R_mono HO_3.out (fun _ hk => ⟨hk.2,⟨hk.1.1,hk.1.2⟩⟩)⟩,⟨rk HO262⟩,⟨by (with_reducible repeat (first | apply Kd.R_alloc | apply Kd.R_drewN | apply Kd.R_drew)); exact Kd.R_mono HO_6.out (fun _ hk => ⟨hk.1.1,⟨hk.2,hk.1.2⟩⟩)⟩,⟨kk BK248⟩,⟨bw HB⟩⟩
def r0_At.l0 : Nat → List (SElem) → Int → Int → Int → Int → Option (Int)
 | 0,_,_,_,_,_ => none
 | k + 1,x0,x5,x264000,x264001,x264002 => if x5 < (x0.length : Int) then (if 0 ≤ x5 then (if (((Qaa x0 x5).f0) == x264000 && (((Qaa x0 x5).f1) == x264001 && (((Qaa x0 x5).f2) == x264002))) = true then (some x5) else (r0_At.l0 k x0 (wrap64 (x5 + 1)) x264000 x264001 x264002)) else (none)) else (some (-1))
def r0_At.f (k : Nat) (l0 : List (SElem)) (a1_0 : Int) (a1_1 : Int) (a1_2 : Int) : Option (Int):=r0_At.l0 k l0 0 a1_0 a1_1 a1_2
theorem r0_At.calls (k : Nat) (A0 : Option Addr) (c0 : Nat) (l0 : List (SElem)) (a1_0 : Int) (a1_1 : Int) (a1_2 : Int) (r : Int) (w : World) (hr0 : Kd.C Qaq w A0 l0.length l0) (hc0 : l0.length ≤ c0) (h : r0_At.f k l0 a1_0 a1_1 a1_2 = some r) :
  Calls Tryd.prog 24 #[.slice A0 l0.length c0, .agg #[.int .i64 a1_0, .int .i64 a1_1, .int .i64 a1_2]] w fun e w' => e = .returned (.int .i64 r) ∧ Below w.heap.size w w':=by
 have hu43:=Tryd.underlying43
 have HR0:=Aside0.mk hr0
 have HC0:=Aside0.mk hc0
 clear hr0 hc0
 have HB:=Aside0.mk (Below.refl w.heap.size w)
 unfold r0_At.f at h; have H:=h
 clear h
 have H':=Aside0.mk H
 clear H
 go_enter Tryd.func24,Tryd.ntmps24
 go_wp2_with (first | ((with_reducible refine Qae (N:=3) rfl ?_); refine bx 3 #[.int .i64 a1_0, .int .i64 a1_1, .int .i64 a1_2] 43 (h := ?_); intro gb263 hg w3 hbox hb; have BK263:=Aside0.mk (hbox); have GW263:=bz HB hg; have GE263:=bz HB hg; replace HB:=bs HB hb; clear hb hbox hg))
 repeat (go_quiet (first | ((with_reducible refine Qae (N:=3) rfl ?_); refine bx 3 #[.int .i64 a1_0, .int .i64 a1_1, .int .i64 a1_2] 43 (h := ?_); intro gb263 hg w3 hbox hb; have BK263:=Aside0.mk (hbox); have GW263:=bz HB hg; have GE263:=bz HB hg; replace HB:=bs HB hb; clear hb hbox hg)); try go_wp2_with (first | ((with_reducible refine Qae (N:=3) rfl ?_); refine bx 3 #[.int .i64 a1_0, .int .i64 a1_1, .int .i64 a1_2] 43 (h := ?_); intro gb263 hg w3 hbox hb; have BK263:=Aside0.mk (hbox); have GW263:=bz HB hg; have GE263:=bz HB hg; replace HB:=bs HB hb; clear hb hbox hg)))
 go_loopg [5] k (fun kq v5 w' => ∃ (x5_1 : Int),v5 = .int .i64 x5_1 ∧ Aside0 (r0_At.l0 kq l0 x5_1 a1_0 a1_1 a1_2 = some r) ∧ Aside0 (kq ≤ k) ∧ Aside0 (w'.heap[gb263]? = some (.cells #[.int .i64 a1_0, .int .i64 a1_1, .int .i64 a1_2] 43 (0,0))) ∧ Aside0 (Below w.heap.size w w'))
 case atStart => exact ⟨(0),rf,H',⟨Nat.le_refl _⟩,⟨kk BK263⟩,⟨bw HB⟩⟩
 case round =>
  clear H'
  obtain ⟨x5_1,rfl,HA,HK1,BK263,HB⟩:=hrel
  cases gk with
  | zero => exact absurd HA.out (by simp [r0_At.l0])
  | succ k1 =>
   have H:=HA.out
   clear HA
   simp only [r0_At.l0] at H
   by_cases c4 : x5_1 < (l0.length : Int); rotate_left
   ·rw [if_neg c4] at H
    have c4b0:=decide_eq_false c4
    clear c4
    obtain rfl:=Option.some.inj H
    go_wp2
    repeat (go_quiet (fail); try go_wp2)
    go_ret
    exact ⟨re,bw HB⟩
   rw [if_pos c4] at H
   have c4b0:=decide_eq_true c4
   clear c4
   by_cases c5 : 0 ≤ x5_1; rotate_left
   ·rw [if_neg c5] at H
    exact absurd H (by simp)
   rw [if_pos c5] at H
   have c5b0:=decide_eq_true c5
   clear c5
   by_cases c6 : (((Qaa l0 x5_1).f0) == a1_0 && (((Qaa l0 x5_1).f1) == a1_1 && (((Qaa l0 x5_1).f2) == a1_2))) = true
   ·rw [if_pos c6] at H
    have c6b0 : (((Qaa l0 x5_1).f0) == a1_0 && (((Qaa l0 x5_1).f1) == a1_1 && (((Qaa l0 x5_1).f2) == a1_2))) = true:=c6
    (try (have c6b1 : decide (((Qaa l0 x5_1).f0) = a1_0 && (((Qaa l0 x5_1).f1) == a1_1 && (((Qaa l0 x5_1).f2) == a1_2))) = true:=by simpa using c6))
    (try (have c6b2 : (((Qaa l0 x5_1).f0) == a1_0 && (((Qaa l0 x5_1).f1) == a1_1 && (((Qaa l0 x5_1).f2) == a1_2))) = true:=by simpa using c6))
    clear c6
    obtain rfl:=Option.some.inj H
    have p264 : 0 ≤ (x5_1 : Int):=od
    have q264 : x5_1 < (l0.length : Int):=od
    obtain ⟨ad264,e264,hx264_0,hx264_1,hx264_2⟩:=Qba HR0.out x5_1 p264 q264
    cases e264
    replace hx264_0:=cl HB hx264_0
    replace hx264_1:=cl HB hx264_1
    replace hx264_2:=cl HB hx264_2
    replace p264:=eq_true p264
    replace q264:=eq_true q264
    obtain ⟨_,_,_,_,_,_⟩:=kc3 BK263
    go_wp2
    repeat (go_quiet (fail); try go_wp2)
    go_ret
    exact ⟨re,bw HB⟩
   rw [if_neg c6] at H
   have c6b0 : (((Qaa l0 x5_1).f0) == a1_0 && (((Qaa l0 x5_1).f1) == a1_1 && (((Qaa l0 x5_1).f2) == a1_2))) = false:=by simpa using c6
   (try (have c6b1 : decide (((Qaa l0 x5_1).f0) = a1_0 && (((Qaa l0 x5_1).f1) == a1_1 && (((Qaa l0 x5_1).f2) == a1_2))) = false:=by simpa using c6))
   (try (have c6b2 : (((Qaa l0 x5_1).f0) == a1_0 && (((Qaa l0 x5_1).f1) == a1_1 && (((Qaa l0 x5_1).f2) == a1_2))) = false:=by simpa using c6))
   (try (have c6b3 : ¬ (((Qaa l0 x5_1).f0) = a1_0 && (((Qaa l0 x5_1).f1) == a1_1 && (((Qaa l0 x5_1).f2) == a1_2))):=by simpa using c6))
   clear c6
   have H':=Aside0.mk H
   clear H
   have p264 : 0 ≤ (x5_1 : Int):=od
   have q264 : x5_1 < (l0.length : Int):=od
   obtain ⟨ad264,e264,hx264_0,hx264_1,hx264_2⟩:=Qba HR0.out x5_1 p264 q264
   cases e264
   replace hx264_0:=cl HB hx264_0
   replace hx264_1:=cl HB hx264_1
   replace hx264_2:=cl HB hx264_2
   replace p264:=eq_true p264
   replace q264:=eq_true q264
   obtain ⟨_,_,_,_,_,_⟩:=kc3 BK263
   go_wp2
   repeat (go_quiet (fail); try go_wp2)
   go_roundg k1
   case measure => have:=HK1.out; omega
   case rel => exact ⟨(wrap64 (x5_1 + 1)),rf,H',⟨by have:=HK1.out; omega⟩,⟨kk BK263⟩,⟨bw HB⟩⟩
def r4_Count.l0 : Nat → List (SOp) → Int → Int → Int → Int → Option (Int)
 | 0,_,_,_,_,_ => none
 | k + 1,x0,x1,x2,x7,x8 => if x8 < (x0.length : Int) then (if 0 ≤ x8 then (if ((Qad x0 x8).f2) = 2 then (if ((Qad x0 x8).f6) = x1 then (if ((Qad x0 x8).f7) = x2 then (if ((Qad x0 x8).f8) = x7 then (r4_Count.l0 k x0 x1 x2 (wrap64 (x7 + 1)) (wrap64 (x8 + 1))) else (r4_Count.l0 k x0 x1 x2 x7 (wrap64 (x8 + 1)))) else (r4_Count.l0 k x0 x1 x2 x7 (wrap64 (x8 + 1)))) else (r4_Count.l0 k x0 x1 x2 x7 (wrap64 (x8 + 1)))) else (r4_Count.l0 k x0 x1 x2 x7 (wrap64 (x8 + 1)))) else (none)) else (some x7)
def r4_Count.f (k : Nat) (l0 : List (SOp)) (a1 : Int) (a2 : Int) : Option (Int):=r4_Count.l0 k l0 a1 a2 0 0
theorem r4_Count.calls (k : Nat) (A0 : Option Addr) (c0 : Nat) (l0 : List (SOp)) (a1 : Int) (a2 : Int) (r : Int) (w : World) (hr0 : Kd.C kOp w A0 l0.length l0) (hc0 : l0.length ≤ c0) (h : r4_Count.f k l0 a1 a2 = some r) :
  Calls Tryd.prog 69 #[.slice A0 l0.length c0, .int .i64 a1, .int .i64 a2] w fun e w' => e = .returned (.int .i64 r) ∧ Drawn0 w w':=by
 have HR0:=Aside0.mk hr0
 have HC0:=Aside0.mk hc0
 clear hr0 hc0
 unfold r4_Count.f at h; have H:=h
 clear h
 have H':=Aside0.mk H
 clear H
 go_enter Tryd.func69,Tryd.ntmps69
 go_wp2
 go_loopg [7,8] k (fun kq v7 v8 w' => ∃ (x7_1 : Int) (x8_1 : Int),v7 = .int .i64 x7_1 ∧ v8 = .int .i64 x8_1 ∧ Aside0 (r4_Count.l0 kq l0 a1 a2 x7_1 x8_1 = some r) ∧ Aside0 (kq ≤ k) ∧ Drawn0 w w')
 case atStart => exact ⟨(0),(0),rf,rf,H',⟨Nat.le_refl _⟩,by repeat (first | exact Drawn0.refl _ | apply Drawn0.step)⟩
 case round =>
  clear H'
  obtain ⟨x7_1,x8_1,rfl,rfl,HA,HK1,⟨m1,rfl⟩⟩:=hrel
  cases gk with
  | zero => exact absurd HA.out (by simp [r4_Count.l0])
  | succ k1 =>
   have H:=HA.out
   clear HA
   simp only [r4_Count.l0] at H
   by_cases c4 : x8_1 < (l0.length : Int); rotate_left
   ·rw [if_neg c4] at H
    have c4b0:=decide_eq_false c4
    clear c4
    obtain rfl:=Option.some.inj H
    go_wp2
    go_ret
    exact ⟨rf,by repeat (first | exact Drawn0.refl _ | apply Drawn0.step)⟩
   rw [if_pos c4] at H
   have c4b0:=decide_eq_true c4
   clear c4
   by_cases c5 : 0 ≤ x8_1; rotate_left
   ·rw [if_neg c5] at H
    exact absurd H (by simp)
   rw [if_pos c5] at H
   have c5b0:=decide_eq_true c5
   clear c5
   by_cases c6 : ((Qad l0 x8_1).f2) = 2; rotate_left
   ·rw [if_neg c6] at H
    obtain ⟨c6b0,c6b1⟩:=bF c6
    have H':=Aside0.mk H
    clear H
    have p265 : 0 ≤ (x8_1 : Int):=od
    have q265 : x8_1 < (l0.length : Int):=od
    obtain ⟨ad265,A265_7,c265_7,e265,hx265_0,hx265_1,hx265_2,hx265_3,hx265_4,hx265_5,hx265_6,hx265_7,hx265_8,hx265_9,hx265_10,hl265_7,hi265_7⟩:=Qck HR0.out x8_1 p265 q265
    cases e265
    have HR265_7:=Aside0.mk hi265_7
    have HC265_7:=Aside0.mk hl265_7
    clear hi265_7 hl265_7
    replace p265:=eq_true p265
    replace q265:=eq_true q265
    go_wp2
    go_roundg k1
    case measure => have:=HK1.out; omega
    case rel => exact ⟨(x7_1),(wrap64 (x8_1 + 1)),rf,rf,H',⟨by have:=HK1.out; omega⟩,by repeat (first | exact Drawn0.refl _ | apply Drawn0.step)⟩
   rw [if_pos c6] at H
   obtain ⟨c6b0,c6b1⟩:=bT c6
   clear c6
   by_cases c7 : ((Qad l0 x8_1).f6) = a1; rotate_left
   ·rw [if_neg c7] at H
    obtain ⟨c7b0,c7b1⟩:=bF c7
    have H':=Aside0.mk H
    clear H
    have p265 : 0 ≤ (x8_1 : Int):=od
    have q265 : x8_1 < (l0.length : Int):=od
    obtain ⟨ad265,A265_7,c265_7,e265,hx265_0,hx265_1,hx265_2,hx265_3,hx265_4,hx265_5,hx265_6,hx265_7,hx265_8,hx265_9,hx265_10,hl265_7,hi265_7⟩:=Qck HR0.out x8_1 p265 q265
    cases e265
    have HR265_7:=Aside0.mk hi265_7
    have HC265_7:=Aside0.mk hl265_7
    clear hi265_7 hl265_7
    replace p265:=eq_true p265
    replace q265:=eq_true q265
    go_wp2
    go_roundg k1
    case measure => have:=HK1.out; omega
    case rel => exact ⟨(x7_1),(wrap64 (x8_1 + 1)),rf,rf,H',⟨by have:=HK1.out; omega⟩,by repeat (first | exact Drawn0.refl _ | apply Drawn0.step)⟩
   rw [if_pos c7] at H
   obtain ⟨c7b0,c7b1⟩:=bT c7
   clear c7
   by_cases c8 : ((Qad l0 x8_1).f7) = a2; rotate_left
   ·rw [if_neg c8] at H
    obtain ⟨c8b0,c8b1⟩:=bF c8
    have H':=Aside0.mk H
    clear H
    have p265 : 0 ≤ (x8_1 : Int):=od
    have q265 : x8_1 < (l0.length : Int):=od
    obtain ⟨ad265,A265_7,c265_7,e265,hx265_0,hx265_1,hx265_2,hx265_3,hx265_4,hx265_5,hx265_6,hx265_7,hx265_8,hx265_9,hx265_10,hl265_7,hi265_7⟩:=Qck HR0.out x8_1 p265 q265
    cases e265
    have HR265_7:=Aside0.mk hi265_7
    have HC265_7:=Aside0.mk hl265_7
    clear hi265_7 hl265_7
    replace p265:=eq_true p265
    replace q265:=eq_true q265
    go_wp2
    go_roundg k1
    case measure => have:=HK1.out; omega
    case rel => exact ⟨(x7_1),(wrap64 (x8_1 + 1)),rf,rf,H',⟨by have:=HK1.out; omega⟩,by repeat (first | exact Drawn0.refl _ | apply Drawn0.step)⟩
   rw [if_pos c8] at H
   obtain ⟨c8b0,c8b1⟩:=bT c8
   clear c8
   by_cases c9 : ((Qad l0 x8_1).f8) = x7_1
   ·rw [if_pos c9] at H
    obtain ⟨c9b0,c9b1⟩:=bT c9
    clear c9
    have H':=Aside0.mk H
    clear H
    have p265 : 0 ≤ (x8_1 : Int):=od
    have q265 : x8_1 < (l0.length : Int):=od
    obtain ⟨ad265,A265_7,c265_7,e265,hx265_0,hx265_1,hx265_2,hx265_3,hx265_4,hx265_5,hx265_6,hx265_7,hx265_8,hx265_9,hx265_10,hl265_7,hi265_7⟩:=Qck HR0.out x8_1 p265 q265
    cases e265
    have HR265_7:=Aside0.mk hi265_7
    have HC265_7:=Aside0.mk hl265_7
    clear hi265_7 hl265_7
    replace p265:=eq_true p265
    replace q265:=eq_true q265
    go_wp2
    go_roundg k1
    case measure => have:=HK1.out; omega
    case rel => exact ⟨(wrap64 (x7_1 + 1)),(wrap64 (x8_1 + 1)),rf,rf,H',⟨by have:=HK1.out; omega⟩,by repeat (first | exact Drawn0.refl _ | apply Drawn0.step)⟩
   rw [if_neg c9] at H
   obtain ⟨c9b0,c9b1⟩:=bF c9
   have H':=Aside0.mk H
   clear H
   have p265 : 0 ≤ (x8_1 : Int):=od
   have q265 : x8_1 < (l0.length : Int):=od
   obtain ⟨ad265,A265_7,c265_7,e265,hx265_0,hx265_1,hx265_2,hx265_3,hx265_4,hx265_5,hx265_6,hx265_7,hx265_8,hx265_9,hx265_10,hl265_7,hi265_7⟩:=Qck HR0.out x8_1 p265 q265
   cases e265
   have HR265_7:=Aside0.mk hi265_7
   have HC265_7:=Aside0.mk hl265_7
   clear hi265_7 hl265_7
   replace p265:=eq_true p265
   replace q265:=eq_true q265
   go_wp2
   go_roundg k1
   case measure => have:=HK1.out; omega
   case rel => exact ⟨(x7_1),(wrap64 (x8_1 + 1)),rf,rf,H',⟨by have:=HK1.out; omega⟩,by repeat (first | exact Drawn0.refl _ | apply Drawn0.step)⟩
def r4_Effective.f (k : Nat) (l0 : List (SOp)) (a1 : Int) (a2 : Int) : Option (Bool):=(r4_Count.f k l0 a1 a2).bind fun t269 => (some ((Int.tmod t269 2) == 0))
theorem r4_Effective.calls (k : Nat) (A0 : Option Addr) (c0 : Nat) (l0 : List (SOp)) (a1 : Int) (a2 : Int) (r : Bool) (w : World) (hr0 : Kd.C kOp w A0 l0.length l0) (hc0 : l0.length ≤ c0) (h : r4_Effective.f k l0 a1 a2 = some r) :
  Calls Tryd.prog 75 #[.slice A0 l0.length c0, .int .i64 a1, .int .i64 a2] w fun e w' => e = .returned (.bool r) ∧ Drawn0 w w':=by
 have HR0:=Aside0.mk hr0
 have HC0:=Aside0.mk hc0
 clear hr0 hc0
 unfold r4_Effective.f at h; have H:=h
 clear h
 obtain ⟨t269,A4,H⟩:=bE H
 obtain rfl:=Option.some.inj H
 go_enter Tryd.func75,Tryd.ntmps75
 go_wp2_with (first | ((with_reducible refine Qab (f:=69) rfl ?_); refine gl (some 10) Tryd.func69 #[.slice A0 l0.length c0, .int .i64 a1, .int .i64 a2] (h := ?_); (with_reducible refine (r4_Count.calls k _ _ l0 a1 a2 t269 _ ?side1 ?side2 A4.out).mono ?_); (case side1 => repeat (first | exact HR0.out | (with_reducible refine Kd.C_alloc ?_ _) | (with_reducible refine Kd.C_drewN ?_ _) | (with_reducible refine Kd.C_drew ?_))); (case side2 => exact HC0.out); rintro e w' ⟨rfl,⟨nd,rfl⟩⟩; refine ⟨_,rfl, ?_⟩))
 go_ret
 exact ⟨rf,by repeat (first | exact Drawn0.refl _ | apply Drawn0.step)⟩
end
section
attribute [local go_sem] Qbp Qbn Qby Qbx Qbc Qbb Qbo Qbm
mutual
def r4_Visible.l0 : Nat → List (SOp) → List Bool → Int → Option ((List (SElem)))
 | 0,_,_,_ => none
 | k + 1,x0,x3,x4 => if x4 < (x0.length : Int) then (if 0 ≤ x4 then (if ((Qad x0 x4).f2) = 1 then ((r4_Effective.f k x0 ((Qad x0 x4).f0) ((Qad x0 x4).f1)).bind fun t276 => (if x4 < (x3.length : Int) then (r4_Visible.l0 k x0 (x3.set (x4 : Int).toNat t276) (wrap64 (x4 + 1))) else (none))) else (if x4 < (x3.length : Int) then (r4_Visible.l0 k x0 (x3.set (x4 : Int).toNat false) (wrap64 (x4 + 1))) else (none))) else (none)) else ((r4_Order.f k x0).bind fun t279 => (r4_Visible.l1 k x0 x3 ([] : List (SElem)) t279 0))
def r4_Visible.l1 : Nat → List (SOp) → List Bool → List (SElem) → List (SElem) → Int → Option ((List (SElem)))
 | 0,_,_,_,_,_ => none
 | k + 1,x0,x3,x5,x6,x7 => if x7 < (x6.length : Int) then (if 0 ≤ x7 then ((r4_Find.f k x0 ((Qaa x6 x7).f0) ((Qaa x6 x7).f1)).bind fun t284 => (if 0 ≤ t284 then (if t284 < (x3.length : Int) then (r4_Visible.l2 k x0 x3 x5 x6 x7 (rdOf false x3 t284) 0) else (none)) else (none))) else (none)) else (some x5)
def r4_Visible.l2 : Nat → List (SOp) → List Bool → List (SElem) → List (SElem) → Int → Bool → Int → Option ((List (SElem)))
 | 0,_,_,_,_,_,_,_ => none
 | k + 1,x0,x3,x5,x6,x7,x8,x9 => if x9 < (x0.length : Int) then (if x8 = true then (if 0 ≤ x9 then (if x9 < (x3.length : Int) then (if rdOf false x3 x9 = true then (if 0 ≤ x7 then (if x7 < (x6.length : Int) then ((r0_At.f k ((Qad x0 x9).f5) ((Qaa x6 x7).f0) ((Qaa x6 x7).f1) ((Qaa x6 x7).f2)).bind fun t289 => (r4_Visible.l2 k x0 x3 x5 x6 x7 (decide (t289 < 0)) (wrap64 (x9 + 1)))) else (none)) else (none)) else (r4_Visible.l2 k x0 x3 x5 x6 x7 true (wrap64 (x9 + 1)))) else (none)) else (none)) else (r4_Visible.l1 k x0 x3 x5 x6 (wrap64 (x7 + 1)))) else (if x8 = true then (if 0 ≤ x7 then (if x7 < (x6.length : Int) then (if x5.length < 5864062014805 then (r4_Visible.l1 k x0 x3 (x5 ++ [(⟨(Qaa x6 x7).f0,(Qaa x6 x7).f1,(Qaa x6 x7).f2⟩ : SElem)]) x6 (wrap64 (x7 + 1))) else (none)) else (none)) else (none)) else (r4_Visible.l1 k x0 x3 x5 x6 (wrap64 (x7 + 1))))
end
def r4_Visible.f (k : Nat) (l0 : List (SOp)) : Option ((List (SElem))):=if 0 ≤ (l0.length : Int) then (if ((l0.length : Int) : Int).toNat ≤ 281474976710656 then (r4_Visible.l0 k l0 (List.replicate ((l0.length : Int) : Int).toNat false) 0) else (none)) else (none)
def r4_Visible.T5 : Bool × List (List Nat × List Nat):=(true,[([],[]),([],[]),([],[]),([],[]),([2,3],[2,3]),([4],[4]),([5],[5]),([6],[6]),([7],[7]),([8],[8]),([8],[8]),([8],[8]),([10,11,8],[8,10,11]),([12,8],[8,12]),([13,8],[8,13]),([8],[8]),([8],[8]),([15,16,8],[8,15,16]),([17,8],[8,17]),([18,8],[8,18]),([9,14,19,8,8],[8,9,14,19]),([8,20],[8,20]),([0,1,0,1,2,3,4,5,6,7,8,9,10,11,12,13,14,15,16,17,18,19,20,21],[0,1]),([22,21,20,0,1,2,3,4,5,6,7,8,9,10,11,12,13,14,15,16,17,18,19,20,21],[21,22])])
def r4_Visible.B5 : List Nat:=[0,0,0,0,12,28,60,124,252,508,508,508,3580,7676,15868,508,508,98812,229884,492028,1048572,2097148,4194303,8388607]
theorem r4_Visible.tab5 : rtab .any (Qcu Tryd.f31 5) = r4_Visible.T5:=by kernel_rfl
theorem r4_Visible.bits5 : Qax r4_Visible.T5.2 r4_Visible.B5 = true:=by kernel_rfl
def r4_Visible.T11 : Bool × List (List Nat × List Nat):=(true,[([],[]),([],[]),([],[]),([],[]),([2,3],[2,3]),([4],[4]),([5],[5]),([],[]),([],[]),([7,8],[7,8]),([9],[9]),([10],[10]),([1,6,11],[1,6,11]),([0,12],[0,12]),([13],[13]),([14,12,0,1,2,3,4,5,6,7,8,9,10,11,12,13,14],[14])])
def r4_Visible.B11 : List Nat:=[0,0,0,0,12,28,60,0,0,384,896,1920,4094,8191,16383,32767]
theorem r4_Visible.tab11 : rtab .any (Qcu Tryd.f31 11) = r4_Visible.T11:=by kernel_rfl
theorem r4_Visible.bits11 : Qax r4_Visible.T11.2 r4_Visible.B11 = true:=by kernel_rfl
def r4_Visible.T15 : Bool × List (List Nat × List Nat):=(true,[([],[]),([],[]),([0,1],[0,1]),([2],[2]),([3],[3]),([4],[4]),([5],[5]),([5],[5]),([6,7,5],[5,6,7]),([8,5],[5,8]),([9,5],[5,9]),([5],[5]),([5],[5]),([11,12,5],[5,11,12]),([13,5],[5,13]),([10,14,5,5],[5,10,14]),([15,5],[5,15]),([5,16],[5,16]),([17,15,0,1,2,3,4,5,6,7,8,9,10,11,12,13,14,15,16,17],[17])])
def r4_Visible.B15 : List Nat:=[0,0,3,7,15,31,63,63,255,511,1023,63,63,6207,14399,32767,65535,131071,262143]
theorem r4_Visible.tab15 : rtab .any (Qcu Tryd.f31 15) = r4_Visible.T15:=by kernel_rfl
theorem r4_Visible.bits15 : Qax r4_Visible.T15.2 r4_Visible.B15 = true:=by kernel_rfl
theorem r4_Visible.calls (k : Nat) (A0 : Option Addr) (c0 : Nat) (l0 : List (SOp)) (r : List (SElem)) (w : World) (hr0 : Kd.C kOp w A0 l0.length l0) (hc0 : l0.length ≤ c0) (hT : GT w) (h : r4_Visible.f k l0 = some r) :
  Calls Tryd.prog 31 #[.slice A0 l0.length c0] w fun e w' => ∃ v0_ : Value,e = .returned (v0_) ∧ Kd.R Qaq 43 w' w.heap.size (fun _ => True) v0_ r ∧ Below w.heap.size w w':=by
 have hu43:=Tryd.underlying43
 have HR0:=Aside0.mk hr0
 have HC0:=Aside0.mk hc0
 clear hr0 hc0
 have HB:=Aside0.mk (Below.refl w.heap.size w)
 unfold r4_Visible.f at h; have H:=h
 clear h
 by_cases c2 : 0 ≤ (l0.length : Int); rotate_left
 ·rw [if_neg c2] at H
  exact absurd H (by simp)
 rw [if_pos c2] at H
 have c2b0:=eq_true c2
 have c2b1:=decide_eq_true c2
 clear c2
 by_cases c3 : ((l0.length : Int) : Int).toNat ≤ 281474976710656; rotate_left
 ·rw [if_neg c3] at H
  exact absurd H (by simp)
 rw [if_pos c3] at H
 have c3b0:=eq_true c3
 have c3b1:=decide_eq_true c3
 clear c3
 obtain ⟨y270,hy270⟩ : ∃ y_ : List Bool,y_ = (List.replicate ((l0.length : Int) : Int).toNat false):=⟨_,rfl⟩
 first | rw [Option.bind_some,← hy270] at H | rw [← hy270] at H
 have Ny270:=Aside0.mk hy270
 clear hy270
 have H':=Aside0.mk H
 clear H
 go_enter Tryd.func31,Tryd.ntmps31
 go_wp2_with (first | ((with_reducible refine Qae (N:=12) rfl ?_); refine Kd.R_make Kd.bool _ 4 rfl (N:=12) rfl 85 _ _ rfl (l0.length : Int) rfl rfl Tryd.underlying85 (.bool false) 1 info4 rfl (by decide) (by omega) false (ok:=fun _ => True) (okp:=fun _ => True) rfl (fun _ hk => hk) trivial (od) (Nat.le_trans (Nat.mul_le_mul_right _ (od : (l0.length : Int).toNat ≤ 281474976710656)) (by omega)) (Below.refl _ _) (Nat.le_refl _) ?_; intro v271 w4 ho5 hb hg_ hnew_; clear hg_ hnew_; (first | rw [← Ny270.out] at ho5 | (simp only [Int.reduceToNat] at ho5; rw [← Ny270.out] at ho5)); have HO272:=Aside0.mk (Kd.R_lower ho5 (Qai (bw HB))); replace HB:=bs HB hb; clear hb ho5))
 go_loopg [4] k (fun kq v4 w' => ∃ (x3_1 : List Bool) (x4_1 : Int),v4 = .int .i64 x4_1 ∧ Aside0 (r4_Visible.l0 kq l0 x3_1 x4_1 = some r) ∧ Aside0 (kq ≤ k) ∧ Aside0 (Kd.R Kd.bool 4 w' w.heap.size (fun _ => True) v271 x3_1) ∧ Aside0 (Below w.heap.size w w'))
 case atStart => exact ⟨(y270),(0),rf,H',⟨Nat.le_refl _⟩,⟨rk HO272⟩,⟨bw HB⟩⟩
 case round =>
  clear H'
  try clear c2b0; try clear c2b1; try clear c3b0; try clear c3b1
  obtain ⟨x3_1,x4_1,rfl,HA,HK1,HO_3,HB⟩:=hrel
  cases gk with
  | zero => exact absurd HA.out (by simp [r4_Visible.l0])
  | succ k1 =>
   have H:=HA.out
   clear HA
   simp only [r4_Visible.l0] at H
   by_cases c6 : x4_1 < (l0.length : Int); rotate_left
   ·rw [if_neg c6] at H
    have c6b0:=decide_eq_false c6
    clear c6
    obtain ⟨t279,A18,H⟩:=bE H
    have H':=Aside0.mk H
    clear H
    go_wp2_with (first | ((with_reducible refine Qab (f:=17) rfl ?_); refine gl (some 43) Tryd.func17 #[.slice A0 l0.length c0] (h := ?_); (with_reducible refine (r4_Order.calls k1 _ _ l0 t279 _ ?side1 ?side2 ?side3 A18.out).mono ?_); (case side1 => exact cb HR0 HB); (case side2 => exact HC0.out); (case side3 => exact (hT.below (bw HB))); rintro e w19 ⟨v280,rfl,ho0,hb⟩; refine ⟨_,rfl, ?_⟩; have HO281:=Aside0.mk (Kd.R_lower ho0 (Qai (bw HB))); replace HO_3:=rb HO_3 hb; replace HB:=bs HB hb; clear hb; clear ho0))
    go_loopg [5,7] k1 (fun kq v5 v7 w' => ∃ (x5_2 : List (SElem)) (x7_2 : Int),v7 = .int .i64 x7_2 ∧ Aside0 (r4_Visible.l1 kq l0 x3_1 x5_2 t279 x7_2 = some r) ∧ Aside0 (kq ≤ k1) ∧ Aside0 (Kd.R Kd.bool 4 w' w.heap.size (fun _ => True) v271 x3_1) ∧ Aside0 (Kd.R Qaq 43 w' w.heap.size (fun k_ => some k_ ≠ (v280 : Value).ownBlock) v5 x5_2) ∧ Aside0 (Kd.R Qaq 43 w' w.heap.size (fun k_ => some k_ ≠ (v5 : Value).ownBlock) v280 t279) ∧ Aside0 (Below w.heap.size w w'))
    case atStart => exact ⟨(([] : List (SElem))),(0),rf,H',⟨Nat.le_refl _⟩,⟨rk HO_3⟩,⟨by first | exact Kd.R_nil _ _ _ _ _ | exact Kd.N_nil _ _ _ _ _ | exact Kd.V_nil _ _ _ _ _ | exact Kd.Q_nil _ _ _ _ _ | exact Kd.S_nil _ _ _ _ _⟩,⟨by (with_reducible repeat (first | apply Kd.R_alloc | apply Kd.R_drewN | apply Kd.R_drew)); exact Kd.R_mono HO281.out (fun _ hk => (by simp [Value.ownBlock]))⟩,⟨bw HB⟩⟩
    case round =>
     clear H'
     try clear c6b0
     obtain ⟨x5_2,x7_2,rfl,HA,HK2,HO_3,HO_5,HO_6,HB⟩:=hrel
     cases gk with
     | zero => exact absurd HA.out (by simp [r4_Visible.l1])
     | succ k2 =>
      have H:=HA.out
      clear HA
      simp only [r4_Visible.l1] at H
      by_cases c20 : x7_2 < (t279.length : Int); rotate_left
      ·rw [if_neg c20] at H
       have c20b0:=decide_eq_false c20
       clear c20
       obtain rfl:=Option.some.inj H
       obtain ⟨Ao45,co45,eo45⟩:=Kd.R_slice HO_6.out
       subst eo45
       go_wp2
       go_ret
       exact ⟨_,re,by (with_reducible repeat (first | apply Kd.R_alloc | apply Kd.R_drewN | apply Kd.R_drew)); exact Kd.R_mono HO_5.out (fun _ hk => trivial),bw HB⟩
      rw [if_pos c20] at H
      have c20b0:=decide_eq_true c20
      clear c20
      by_cases c21 : 0 ≤ x7_2; rotate_left
      ·rw [if_neg c21] at H
       exact absurd H (by simp)
      rw [if_pos c21] at H
      have c21b0:=decide_eq_true c21
      clear c21
      obtain ⟨t284,A22,H⟩:=bE H
      by_cases c23 : 0 ≤ t284; rotate_left
      ·rw [if_neg c23] at H
       exact absurd H (by simp)
      rw [if_pos c23] at H
      have c23b0:=decide_eq_true c23
      clear c23
      by_cases c24 : t284 < (x3_1.length : Int); rotate_left
      ·rw [if_neg c24] at H
       exact absurd H (by simp)
      rw [if_pos c24] at H
      have c24b0:=decide_eq_true c24
      clear c24
      have H':=Aside0.mk H
      clear H
      obtain ⟨Ao25,co25,eo25⟩:=Kd.R_slice HO_6.out
      subst eo25
      try go_wp2
      have n0_:=Aside0.mk (Kd.R_drew HO_3.out)
      have n1_:=Aside0.mk (Kd.R_drew HO_5.out)
      have n2_:=Aside0.mk (Kd.R_drew HO_6.out)
      have n3_:=Aside0.mk (Qaf HB.out)
      clear HO_3
      clear HO_5
      clear HO_6
      clear HB
      have HO_3:=n0_
      have HO_5:=n1_
      have HO_6:=n2_
      have HB:=n3_
      clear n0_ n1_ n2_ n3_
      have p282 : 0 ≤ (x7_2 : Int):=od
      have q282 : x7_2 < (t279.length : Int):=od
      obtain ⟨ad282,e282,hx282_0,hx282_1,hx282_2⟩:=Qba (Kd.R_reads' HO_6.out).2.2 x7_2 p282 q282
      cases e282
      replace p282:=eq_true p282
      replace q282:=eq_true q282
      try (obtain ⟨Ao3_,co3_,rfl⟩:=Kd.R_slice HO_3.out)
      have p285 : 0 ≤ (t284 : Int):=od
      have q285 : t284 < (x3_1.length : Int):=od
      obtain ⟨ad285,e285,hx285_0⟩:=Kd.at_bool (Kd.R_reads' HO_3.out).2.2 t284 p285 q285
      cases e285
      replace p285:=eq_true p285
      replace q285:=eq_true q285
      refine stP (fun w' => w'.cell? (ad282.add ((x7_2).toNat * 3)) = some (.int .i64 ((Qaa t279 x7_2).f0)) ∧ w'.cell? ⟨(ad282.add ((x7_2).toNat * 3)).block,(ad282.add ((x7_2).toNat * 3)).off + 1,none⟩ = some (.int .i64 ((Qaa t279 x7_2).f1)) ∧ w'.cell? ⟨(ad282.add ((x7_2).toNat * 3)).block,(ad282.add ((x7_2).toNat * 3)).off + 2,none⟩ = some (.int .i64 ((Qaa t279 x7_2).f2)) ∧ w'.cell? (ad285.add (t284).toNat) = some (.bool (rdOf false x3_1 t284))) 16 ⟨hx282_0,hx282_1,hx282_2,hx285_0⟩ (h:=fun hHeld => ?_); refine Qas r4_Visible.tab11 r4_Visible.bits11 (fun HT_ HW_ => ?_)
      generalize wr.drew = w26 at HO_3 HO_5 HO_6 HB hx282_0 hx282_1 hx282_2 hx282_0 hx282_1 hx282_2 hx285_0 hHeld ⊢
      refine pu HT_ 0 50 1 (h := ?_)
      refine pu HT_ 1 51 3 (h := ?_)
      refine pu HT_ 2 52 7 (h := ?_)
      refine pu HT_ 3 53 15 (h := ?_)
      refine pu HT_ 4 54 31 (h := ?_)
      refine pu HT_ 5 55 63 (h := ?_)
      refine pu HT_ 7 57 191 (h := ?_)
      refine pu HT_ 8 58 447 (h := ?_)
      refine pu HT_ 9 59 959 (h := ?_)
      refine pu HT_ 10 60 1983 (h := ?_)
      refine tk HT_ HW_ hHeld 6 56 2047 (h := ?_)
      refine tk HT_ HW_ hHeld 11 61 4095 (h := ?_)
      refine on HT_ 12 (some 62) 8191 (h:=fun K hK => ?_)
      refine gS Tryd.func76 #[.slice A0 l0.length c0, .int .i64 ((Qaa t279 x7_2).f0), .int .i64 ((Qaa t279 x7_2).f1)] (h := ?_)
      with_reducible refine (r4_Find.calls k2 _ _ l0 ((Qaa t279 x7_2).f0) ((Qaa t279 x7_2).f1) t284 _ ?side1 ?side2 A22.out).mono ?_
      (case side1 => exact cb HR0 HB)
      (case side2 => exact HC0.out)
      rintro e w' ⟨rfl,⟨nd,rfl⟩⟩
      refine ⟨_,rfl, ?_⟩
      obtain ⟨Ao27,co27,eo27⟩:=Kd.R_slice HO_3.out
      (first | subst eo27 | (injection eo27 with f1_ f2_ f3_; have f4_:=f1_.symm; have f5_:=f3_.symm; clear f1_ f2_ f3_; subst f4_; subst f5_))
      refine hK.out _ _ ⟨hHeld.1,hHeld.2.1,hHeld.2.2.1,hHeld.2.2.2⟩ (fun hHeld => ?_)
      clear hK K
      refine nn 62 (h := ?_)
      refine pu HT_ 13 63 16383 (h := ?_)
      refine tk HT_ HW_ hHeld 14 64 32767 (h := ?_)
      refine pu HT_ 15 8 65535 (h := ?_)
      refine dn HT_ (h := ?_)
      try go_wp2
      go_loopg [8,9] k2 (fun kq v8 v9 w' => ∃ (x8_3 : Bool) (x9_3 : Int),v8 = .bool x8_3 ∧ v9 = .int .i64 x9_3 ∧ Aside0 (r4_Visible.l2 kq l0 x3_1 x5_2 t279 x7_2 x8_3 x9_3 = some r) ∧ Aside0 (kq ≤ k2) ∧ Aside0 (Kd.R Kd.bool 4 w' w.heap.size (fun _ => True) (.slice (some ad285) x3_1.length co27) x3_1) ∧ Aside0 (Kd.R Qaq 43 w' w.heap.size (fun k_ => some k_ ≠ ((.slice (some ad282) t279.length co25) : Value).ownBlock) u5 x5_2) ∧ Aside0 (Kd.R Qaq 43 w' w.heap.size (fun k_ => some k_ ≠ (u5 : Value).ownBlock) (.slice (some ad282) t279.length co25) t279) ∧ Aside0 (Below w.heap.size w w'))
      case atStart => exact ⟨(rdOf false x3_1 t284),(0),rf,rf,H',⟨Nat.le_refl _⟩,⟨rk HO_3⟩,⟨rk HO_5⟩,⟨rk HO_6⟩,⟨bw HB⟩⟩
      case round =>
       clear H'
       try clear c20b0; try clear c21b0; try clear c23b0; try clear c24b0; try clear hx282_0; try clear hx282_1; try clear hx282_2; try clear hx282_0; try clear hx282_1; try clear hx282_2; try clear hx285_0; try clear p282; try clear p282; try clear p285; try clear q282; try clear q282; try clear q285
       obtain ⟨x8_3,x9_3,rfl,rfl,HA,HK3,HO_3,HO_5,HO_6,HB⟩:=hrel
       cases gk with
       | zero => exact absurd HA.out (by simp [r4_Visible.l2])
       | succ k3 =>
        have H:=HA.out
        clear HA
        simp only [r4_Visible.l2] at H
        by_cases c28 : x9_3 < (l0.length : Int); rotate_left
        ·rw [if_neg c28] at H
         have c28b0:=decide_eq_false c28
         clear c28
         by_cases c40 : x8_3 = true; rotate_left
         ·replace c40:=Bool.eq_false_iff.mpr c40
          subst c40
          rw [if_neg nft] at H
          have H':=Aside0.mk H
          clear H
          go_wp2
          go_roundg k3
          case measure => have:=HK1.out; have:=HK2.out; have:=HK3.out; omega
          case rel => exact ⟨(x5_2),(wrap64 (x7_2 + 1)),rf,H',⟨by have:=HK1.out; have:=HK2.out; have:=HK3.out; omega⟩,⟨rk HO_3⟩,⟨rk HO_5⟩,⟨rk HO_6⟩,⟨bw HB⟩⟩
         subst c40
         rw [if_pos rfl] at H
         by_cases c41 : 0 ≤ x7_2; rotate_left
         ·rw [if_neg c41] at H
          exact absurd H (by simp)
         rw [if_pos c41] at H
         have c41b0:=decide_eq_true c41
         clear c41
         by_cases c42 : x7_2 < (t279.length : Int); rotate_left
         ·rw [if_neg c42] at H
          exact absurd H (by simp)
         rw [if_pos c42] at H
         have c42b0:=decide_eq_true c42
         clear c42
         by_cases c43 : x5_2.length < 5864062014805; rotate_left
         ·rw [if_neg c43] at H
          exact absurd H (by simp)
         rw [if_pos c43] at H
         have LMc43:=Aside0.mk c43
         clear c43
         obtain ⟨y291,hy291⟩ : ∃ y_ : List (SElem),y_ = (x5_2 ++ [(⟨(Qaa t279 x7_2).f0,(Qaa t279 x7_2).f1,(Qaa t279 x7_2).f2⟩ : SElem)]):=⟨_,rfl⟩
         first | rw [Option.bind_some,← hy291] at H | rw [← hy291] at H
         have Ny291:=Aside0.mk hy291
         clear hy291
         have H':=Aside0.mk H
         clear H
         have p290 : 0 ≤ (x7_2 : Int):=od
         have q290 : x7_2 < (t279.length : Int):=od
         obtain ⟨ad290,e290,hx290_0,hx290_1,hx290_2⟩:=Qba (Kd.R_reads' HO_6.out).2.2 x7_2 p290 q290
         obtain rfl : ad282 = ad290:=(by injection e290)
         replace p290:=eq_true p290
         replace q290:=eq_true q290
         go_wp2_with (first | ((with_reducible refine Qcf (b:=.append) (xs:=#[.tmp 93, .tmp 98]) rfl ?_); at_builtin; refine Kd.R_append Qaq (w0:=w) w.heap.size rfl (.tmp 93) (.tmp 98) 23 43 (.agg #[(.int .i64 0),(.int .i64 0),(.int .i64 0)]) 24 rfl Tryd.underlying23 info43 rfl (by decide) (by omega) u5 x5_2 (⟨(Qaa t279 x7_2).f0,(Qaa t279 x7_2).f1,(Qaa t279 x7_2).f2⟩ : SElem) [.int .i64 ((Qaa t279 x7_2).f0), .int .i64 ((Qaa t279 x7_2).f1), .int .i64 ((Qaa t279 x7_2).f2)] (fun k_ => some k_ ≠ (.slice (some ad282) t279.length co25 : Value).ownBlock) (fun _ => False) rfl rfl ?aP (fun _ hk => hk.elim) ?aF ?aO ?aB ?aS ?aL ?_; (case aP => exact Qbs _ _ _ (⟨(Qaa t279 x7_2).f0,(Qaa t279 x7_2).f1,(Qaa t279 x7_2).f2⟩ : SElem)); (case aB => exact (bw HB)); (case aF => exact (fun k_ hk => Kd.fresh' (Kd.R_lt (rk HO_6)) k_ hk)); (case aO => exact (rk HO_5)); (case aS => exact (Qai (bw HB))); (case aL => have:=LMc43.out; omega); intro v292 w44 ho hb hg hat; rw [← Ny291.out] at ho; have n0_:=Aside0.mk (Kd.R_over' (rk HO_3) (Kd.R_typed (rk HO_5)) (by decide) hg); have n1_:=Aside0.mk (Kd.R_after (ok:=(fun _ => True)) (by (with_reducible repeat (first | apply Kd.R_alloc | apply Kd.R_drewN | apply Kd.R_drew)); exact Kd.R_mono HO_6.out (fun _ hk => ⟨trivial,hk⟩)) hg hat); have n2_:=Aside0.mk (hb); have n3_:=Aside0.mk (ho); clear HO_3; clear HO_6; clear HB; clear HO_5; have HO_3:=n0_; have HO_6:=n1_; have HB:=n2_; have HO293:=n3_; clear n0_ n1_ n2_ n3_; clear ho hb hg hat))
         go_roundg k3
         case measure => have:=HK1.out; have:=HK2.out; have:=HK3.out; omega
         case rel => exact ⟨(y291),(wrap64 (x7_2 + 1)),rf,H',⟨by have:=HK1.out; have:=HK2.out; have:=HK3.out; omega⟩,⟨rk HO_3⟩,⟨rk HO293⟩,⟨by (with_reducible repeat (first | apply Kd.R_alloc | apply Kd.R_drewN | apply Kd.R_drew)); exact Kd.R_mono HO_6.out (fun _ hk => hk.2)⟩,⟨bw HB⟩⟩
        rw [if_pos c28] at H
        have c28b0:=decide_eq_true c28
        clear c28
        by_cases c29 : x8_3 = true; rotate_left
        ·replace c29:=Bool.eq_false_iff.mpr c29
         subst c29
         rw [if_neg nft] at H
         have H':=Aside0.mk H
         clear H
         go_wp2
         go_roundg k3
         case measure => have:=HK1.out; have:=HK2.out; have:=HK3.out; omega
         case rel => exact ⟨(x5_2),(wrap64 (x7_2 + 1)),rf,H',⟨by have:=HK1.out; have:=HK2.out; have:=HK3.out; omega⟩,⟨rk HO_3⟩,⟨rk HO_5⟩,⟨rk HO_6⟩,⟨bw HB⟩⟩
        subst c29
        rw [if_pos rfl] at H
        by_cases c30 : 0 ≤ x9_3; rotate_left
        ·rw [if_neg c30] at H
         exact absurd H (by simp)
        rw [if_pos c30] at H
        have c30b0:=decide_eq_true c30
        clear c30
        by_cases c31 : x9_3 < (x3_1.length : Int); rotate_left
        ·rw [if_neg c31] at H
         exact absurd H (by simp)
        rw [if_pos c31] at H
        have c31b0:=decide_eq_true c31
        clear c31
        obtain ⟨bq32,hbq32⟩ : ∃ b_ : Bool,b_ = (rdOf false x3_1 x9_3):=⟨_,rfl⟩
        replace H : (if bq32 = true then (if 0 ≤ x7_2 then (if x7_2 < (t279.length : Int) then ((r0_At.f k3 ((Qad l0 x9_3).f5) ((Qaa t279 x7_2).f0) ((Qaa t279 x7_2).f1) ((Qaa t279 x7_2).f2)).bind fun t289 => (r4_Visible.l2 k3 l0 x3_1 x5_2 t279 x7_2 (decide (t289 < 0)) (wrap64 (x9_3 + 1)))) else (none)) else (none)) else (r4_Visible.l2 k3 l0 x3_1 x5_2 t279 x7_2 true (wrap64 (x9_3 + 1)))) = some r:=by rw [← hbq32] at H; exact H
        have Nbq32:=Aside0.mk hbq32
        clear hbq32
        by_cases c33 : bq32 = true; rotate_left
        ·replace c33:=Bool.eq_false_iff.mpr c33
         subst c33
         rw [if_neg nft] at H
         have H':=Aside0.mk H
         clear H
         try go_wp2
         have n0_:=Aside0.mk (Kd.R_drew HO_3.out)
         have n1_:=Aside0.mk (Kd.R_drew HO_5.out)
         have n2_:=Aside0.mk (Kd.R_drew HO_6.out)
         have n3_:=Aside0.mk (Qaf HB.out)
         clear HO_3
         clear HO_5
         clear HO_6
         clear HB
         have HO_3:=n0_
         have HO_5:=n1_
         have HO_6:=n2_
         have HB:=n3_
         clear n0_ n1_ n2_ n3_
         try (obtain ⟨Ao3_,co3_,rfl⟩:=Kd.R_slice HO_3.out)
         have p286 : 0 ≤ (x9_3 : Int):=od
         have q286 : x9_3 < (x3_1.length : Int):=od
         obtain ⟨ad286,e286,hx286_0⟩:=Kd.at_bool (Kd.R_reads' HO_3.out).2.2 x9_3 p286 q286
         (try rw [← Nbq32.out] at hx286_0)
         obtain rfl : ad285 = ad286:=(by injection e286)
         replace p286:=eq_true p286
         replace q286:=eq_true q286
         refine stP (fun w' => w'.cell? (ad285.add (x9_3).toNat) = some (.bool false)) 19 (hx286_0) (h:=fun hHeld => ?_); refine Qas r4_Visible.tab15 r4_Visible.bits15 (fun HT_ HW_ => ?_)
         generalize wr.drew = w39 at HO_3 HO_5 HO_6 HB hx286_0 hHeld ⊢
         refine pu HT_ 0 74 1 (h := ?_)
         refine pu HT_ 1 75 3 (h := ?_)
         refine pu HT_ 2 76 7 (h := ?_)
         refine tk HT_ HW_ hHeld 3 77 15 (h := ?_)
         refine pu HT_ 4 78 31 (h := ?_)
         refine pu HT_ 5 79 63 (h := ?_)
         refine off HT_ 6 80 127 (h := ?_)
         refine off HT_ 7 81 255 (h := ?_)
         refine off HT_ 8 82 511 (h := ?_)
         refine off HT_ 9 83 1023 (h := ?_)
         refine off HT_ 10 84 2047 (h := ?_)
         refine off HT_ 11 85 4095 (h := ?_)
         refine off HT_ 12 86 8191 (h := ?_)
         refine off HT_ 13 87 16383 (h := ?_)
         refine off HT_ 14 88 32767 (h := ?_)
         refine off HT_ 15 89 65535 (h := ?_)
         refine off HT_ 16 90 131071 (h := ?_)
         refine pu HT_ 17 91 262143 (h := ?_)
         refine pu HT_ 18 8 524287 (h := ?_)
         refine dn HT_ (h := ?_)
         try go_wp2
         go_roundg k3
         case measure => have:=HK1.out; have:=HK2.out; have:=HK3.out; omega
         case rel => exact ⟨(true),(wrap64 (x9_3 + 1)),rf,rf,H',⟨by have:=HK1.out; have:=HK2.out; have:=HK3.out; omega⟩,⟨rk HO_3⟩,⟨rk HO_5⟩,⟨rk HO_6⟩,⟨bw HB⟩⟩
        subst c33
        rw [if_pos rfl] at H
        by_cases c34 : 0 ≤ x7_2; rotate_left
        ·rw [if_neg c34] at H
         exact absurd H (by simp)
        rw [if_pos c34] at H
        have c34b0:=decide_eq_true c34
        clear c34
        by_cases c35 : x7_2 < (t279.length : Int); rotate_left
        ·rw [if_neg c35] at H
         exact absurd H (by simp)
        rw [if_pos c35] at H
        have c35b0:=decide_eq_true c35
        clear c35
        obtain ⟨t289,A36,H⟩:=bE H
        have H':=Aside0.mk H
        clear H
        try go_wp2
        have n0_:=Aside0.mk (Kd.R_drew HO_3.out)
        have n1_:=Aside0.mk (Kd.R_drew HO_5.out)
        have n2_:=Aside0.mk (Kd.R_drew HO_6.out)
        have n3_:=Aside0.mk (Qaf HB.out)
        clear HO_3
        clear HO_5
        clear HO_6
        clear HB
        have HO_3:=n0_
        have HO_5:=n1_
        have HO_6:=n2_
        have HB:=n3_
        clear n0_ n1_ n2_ n3_
        try (obtain ⟨Ao3_,co3_,rfl⟩:=Kd.R_slice HO_3.out)
        have p286 : 0 ≤ (x9_3 : Int):=od
        have q286 : x9_3 < (x3_1.length : Int):=od
        obtain ⟨ad286,e286,hx286_0⟩:=Kd.at_bool (Kd.R_reads' HO_3.out).2.2 x9_3 p286 q286
        (try rw [← Nbq32.out] at hx286_0)
        obtain rfl : ad285 = ad286:=(by injection e286)
        replace p286:=eq_true p286
        replace q286:=eq_true q286
        have p287 : 0 ≤ (x9_3 : Int):=od
        have q287 : x9_3 < (l0.length : Int):=od
        obtain ⟨ad287,A287_7,c287_7,e287,hx287_0,hx287_1,hx287_2,hx287_3,hx287_4,hx287_5,hx287_6,hx287_7,hx287_8,hx287_9,hx287_10,hl287_7,hi287_7⟩:=Qck HR0.out x9_3 p287 q287
        have hw287_10:=hx287_10
        have hw287_9:=hx287_9
        have hw287_8:=hx287_8
        have hw287_7:=hx287_7
        have hw287_6:=hx287_6
        have hw287_5:=hx287_5
        have hw287_4:=hx287_4
        have hw287_3:=hx287_3
        have hw287_2:=hx287_2
        have hw287_1:=hx287_1
        have hw287_0:=hx287_0
        cases e287
        replace hx287_0:=cl HB hx287_0
        replace hx287_1:=cl HB hx287_1
        replace hx287_2:=cl HB hx287_2
        replace hx287_3:=cl HB hx287_3
        replace hx287_4:=cl HB hx287_4
        replace hx287_5:=cl HB hx287_5
        replace hx287_6:=cl HB hx287_6
        replace hx287_7:=cl HB hx287_7
        replace hx287_8:=cl HB hx287_8
        replace hx287_9:=cl HB hx287_9
        replace hx287_10:=cl HB hx287_10
        have HR287_7:=Aside0.mk hi287_7
        have HC287_7:=Aside0.mk hl287_7
        clear hi287_7 hl287_7
        replace p287:=eq_true p287
        replace q287:=eq_true q287
        have p288 : 0 ≤ (x7_2 : Int):=od
        have q288 : x7_2 < (t279.length : Int):=od
        obtain ⟨ad288,e288,hx288_0,hx288_1,hx288_2⟩:=Qba (Kd.R_reads' HO_6.out).2.2 x7_2 p288 q288
        obtain rfl : ad282 = ad288:=(by injection e288)
        replace p288:=eq_true p288
        replace q288:=eq_true q288
        refine stP (fun w' => w'.cell? (ad285.add (x9_3).toNat) = some (.bool true) ∧ P11 w' (ad287.add ((x9_3).toNat * 11)) (Qad l0 x9_3) A287_7 c287_7 (w'.cell? (ad282.add ((x7_2).toNat * 3)) = some (.int .i64 ((Qaa t279 x7_2).f0)) ∧ w'.cell? ⟨(ad282.add ((x7_2).toNat * 3)).block,(ad282.add ((x7_2).toNat * 3)).off + 1,none⟩ = some (.int .i64 ((Qaa t279 x7_2).f1)) ∧ w'.cell? ⟨(ad282.add ((x7_2).toNat * 3)).block,(ad282.add ((x7_2).toNat * 3)).off + 2,none⟩ = some (.int .i64 ((Qaa t279 x7_2).f2)))) 19 ⟨hx286_0,(cW HB hw287_0),(cW HB hw287_1),(cW HB hw287_2),(cW HB hw287_3),(cW HB hw287_4),(cW HB hw287_5),(cW HB hw287_6),(cW HB hw287_7),(cW HB hw287_8),(cW HB hw287_9),(cW HB hw287_10),hx288_0,hx288_1,hx288_2⟩ (h:=fun hHeld => ?_); refine Qas r4_Visible.tab15 r4_Visible.bits15 (fun HT_ HW_ => ?_)
        generalize wr.drew = w37 at HO_3 HO_5 HO_6 HB HR287_7 hx286_0 hx287_0 hx287_1 hx287_10 hx287_2 hx287_3 hx287_4 hx287_5 hx287_6 hx287_7 hx287_8 hx287_9 hx288_0 hx288_1 hx288_2 hHeld ⊢
        refine pu HT_ 0 74 1 (h := ?_)
        refine pu HT_ 1 75 3 (h := ?_)
        refine pu HT_ 2 76 7 (h := ?_)
        refine tk HT_ HW_ hHeld 3 77 15 (h := ?_)
        refine pu HT_ 4 78 31 (h := ?_)
        refine pu HT_ 5 79 63 (h := ?_)
        refine pu HT_ 6 80 127 (h := ?_)
        refine pu HT_ 7 81 255 (h := ?_)
        refine pu HT_ 8 82 511 (h := ?_)
        refine pu HT_ 9 83 1023 (h := ?_)
        refine pu HT_ 11 85 3071 (h := ?_)
        refine pu HT_ 12 86 7167 (h := ?_)
        refine pu HT_ 13 87 15359 (h := ?_)
        refine tk HT_ HW_ hHeld 10 84 16383 (h := ?_)
        refine tk HT_ HW_ hHeld 14 88 32767 (h := ?_)
        refine on HT_ 15 (some 89) 65535 (h:=fun K hK => ?_)
        refine gS Tryd.func24 #[.slice A287_7 ((Qad l0 x9_3).f5).length c287_7, .agg #[.int .i64 ((Qaa t279 x7_2).f0), .int .i64 ((Qaa t279 x7_2).f1), .int .i64 ((Qaa t279 x7_2).f2)]] (h := ?_)
        with_reducible refine (r0_At.calls k3 _ _ ((Qad l0 x9_3).f5) ((Qaa t279 x7_2).f0) ((Qaa t279 x7_2).f1) ((Qaa t279 x7_2).f2) t289 _ ?side1 ?side2 A36.out).mono ?_
        (case side1 => exact cb HR287_7 HB)
        (case side2 => exact HC287_7.out)
        rintro e w38 ⟨rfl,hb⟩
        have HS0_:=(hb.cell (World.block_lt_of_cell? _ _ (hHeld.1))).trans (hHeld.1)
        have HS12_:=(hb.cell (World.block_lt_of_cell? _ _ (hHeld.2.2.2.2.2.2.2.2.2.2.2.2.1))).trans (hHeld.2.2.2.2.2.2.2.2.2.2.2.2.1)
        have HS13_:=(hb.cell (World.block_lt_of_cell? _ _ (hHeld.2.2.2.2.2.2.2.2.2.2.2.2.2.1))).trans (hHeld.2.2.2.2.2.2.2.2.2.2.2.2.2.1)
        have HS14_:=(hb.cell (World.block_lt_of_cell? _ _ (hHeld.2.2.2.2.2.2.2.2.2.2.2.2.2.2))).trans (hHeld.2.2.2.2.2.2.2.2.2.2.2.2.2.2)
        refine ⟨_,rfl, ?_⟩
        have n0_:=rb HO_3 hb
        have n1_:=rb HO_5 hb
        have n2_:=rb HO_6 hb
        have n3_:=bs HB hb
        clear HO_3
        clear HO_5
        clear HO_6
        clear HB
        have HO_3:=n0_
        have HO_5:=n1_
        have HO_6:=n2_
        have HB:=n3_
        clear n0_ n1_ n2_ n3_
        (try clear hb)
        (try clear hb2)
        (try clear hk)
        (try clear hi)
        refine hK.out _ _ ⟨HS0_,(cW HB hw287_0),(cW HB hw287_1),(cW HB hw287_2),(cW HB hw287_3),(cW HB hw287_4),(cW HB hw287_5),(cW HB hw287_6),(cW HB hw287_7),(cW HB hw287_8),(cW HB hw287_9),(cW HB hw287_10),HS12_,HS13_,HS14_⟩ (fun hHeld => ?_)
        clear hK K
        refine nn 89 (h := ?_)
        refine pu HT_ 16 90 131071 (h := ?_)
        refine pu HT_ 17 91 262143 (h := ?_)
        refine pu HT_ 18 8 524287 (h := ?_)
        refine dn HT_ (h := ?_)
        try go_wp2
        go_roundg k3
        case measure => have:=HK1.out; have:=HK2.out; have:=HK3.out; omega
        case rel => exact ⟨(decide (t289 < 0)),(wrap64 (x9_3 + 1)),rf,rf,H',⟨by have:=HK1.out; have:=HK2.out; have:=HK3.out; omega⟩,⟨rk HO_3⟩,⟨rk HO_5⟩,⟨rk HO_6⟩,⟨bw HB⟩⟩
   rw [if_pos c6] at H
   have c6b0:=decide_eq_true c6
   clear c6
   by_cases c7 : 0 ≤ x4_1; rotate_left
   ·rw [if_neg c7] at H
    exact absurd H (by simp)
   rw [if_pos c7] at H
   have c7b0:=decide_eq_true c7
   clear c7
   by_cases c8 : ((Qad l0 x4_1).f2) = 1; rotate_left
   ·rw [if_neg c8] at H
    obtain ⟨c8b0,c8b1⟩:=bF c8
    by_cases c14 : x4_1 < (x3_1.length : Int); rotate_left
    ·rw [if_neg c14] at H
     exact absurd H (by simp)
    rw [if_pos c14] at H
    have c14b0:=decide_eq_true c14
    clear c14
    obtain ⟨y278,hy278⟩ : ∃ y_ : List Bool,y_ = (x3_1.set (x4_1 : Int).toNat false):=⟨_,rfl⟩
    first | rw [Option.bind_some,← hy278] at H | rw [← hy278] at H
    have Ny278:=Aside0.mk hy278
    clear hy278
    have H':=Aside0.mk H
    clear H
    try go_wp2
    have n0_:=Aside0.mk (Kd.R_drew HO_3.out)
    have n1_:=Aside0.mk (Qaf HB.out)
    clear HO_3
    clear HB
    have HO_3:=n0_
    have HB:=n1_
    clear n0_ n1_
    have p273 : 0 ≤ (x4_1 : Int):=od
    have q273 : x4_1 < (l0.length : Int):=od
    obtain ⟨ad273,A273_7,c273_7,e273,hx273_0,hx273_1,hx273_2,hx273_3,hx273_4,hx273_5,hx273_6,hx273_7,hx273_8,hx273_9,hx273_10,hl273_7,hi273_7⟩:=Qck HR0.out x4_1 p273 q273
    have hw273_10:=hx273_10
    have hw273_9:=hx273_9
    have hw273_8:=hx273_8
    have hw273_7:=hx273_7
    have hw273_6:=hx273_6
    have hw273_5:=hx273_5
    have hw273_4:=hx273_4
    have hw273_3:=hx273_3
    have hw273_2:=hx273_2
    have hw273_1:=hx273_1
    have hw273_0:=hx273_0
    cases e273
    replace hx273_0:=cl HB hx273_0
    replace hx273_1:=cl HB hx273_1
    replace hx273_2:=cl HB hx273_2
    replace hx273_3:=cl HB hx273_3
    replace hx273_4:=cl HB hx273_4
    replace hx273_5:=cl HB hx273_5
    replace hx273_6:=cl HB hx273_6
    replace hx273_7:=cl HB hx273_7
    replace hx273_8:=cl HB hx273_8
    replace hx273_9:=cl HB hx273_9
    replace hx273_10:=cl HB hx273_10
    have HR273_7:=Aside0.mk hi273_7
    have HC273_7:=Aside0.mk hl273_7
    clear hi273_7 hl273_7
    replace p273:=eq_true p273
    replace q273:=eq_true q273
    have p15 : 0 ≤ (x4_1 : Int):=od
    have q15 : (x4_1 : Int) < ((x3_1.length : Int) : Int):=od
    obtain ⟨go15,co15,eo15,gb15,gl15,cl15,HG15⟩:=Kd.R_form HO_3.out (by omega)
    (first | cases eo15 | (injection eo15 with ea_ en_ ec_; (first | subst ea_ | (injection ea_ with ea_; subst ea_)); subst ec_; clear en_))
    have GB15:=Aside0.mk gb15
    have GG15:=Aside0.mk HG15
    clear gb15 gl15 HG15
    obtain ⟨hx15_0,hf15_0⟩:=Kd.R_celln false HO_3.out (x4_1 : Int) p15 q15
    replace p15:=eq_true p15
    replace q15:=eq_true q15
    have HP17:=Kd.R_putn HO_3.out (x4_1 : Int) false
    rw [← Ny278.out] at HP17
    have HQ17:=Aside0.mk HP17
    clear HP17
    refine start_ (n:=24) (S:=fun w' => Q11 w' (ad273.add ((x4_1).toNat * 11)) (Qad l0 x4_1) A273_7 c273_7) (ds:=[23]) #[false,false,false,false,false,false,false,false,false,false,false,false,false,false,false,false,false,false,false,false,false,false,false,false] (by kernel_rfl) rfl rfl ⟨(cW HB hw273_0),(cW HB hw273_1),(cW HB hw273_2),(cW HB hw273_3),(cW HB hw273_4),(cW HB hw273_5),(cW HB hw273_6),(cW HB hw273_7),(cW HB hw273_8),(cW HB hw273_9),(cW HB hw273_10)⟩ (fun hHeld => ?_); refine Qas r4_Visible.tab5 r4_Visible.bits5 (fun HT_ HW_ => ?_)
    generalize wr.drew = w16 at HO_3 HB GG15 HQ17 HR273_7 hf15_0 hx15_0 hx273_0 hx273_1 hx273_10 hx273_2 hx273_3 hx273_4 hx273_5 hx273_6 hx273_7 hx273_8 hx273_9 hHeld ⊢
    refine Qca (i:=0) (N:=some 19) (v := ?_) (a' := ?_) #[true,false,false,false,false,false,false,false,false,false,false,false,false,false,false,false,false,false,false,false,false,false,false,false] rfl rfl (Qbg HT_.out (by kernel_rfl)) (fun _ _ _ h => h) (Or.inl ⟨by rfl, ?_⟩) ?_ ?_
    rotate_left
    ·intro w'
     go_simp
     with_reducible rfl
    rotate_left
    ·simp only [Act.put,List.setIfInBounds_toArray,List.set_cons_zero,List.set_cons_succ,Qaw,Qay]
     rfl
    refine Qca (i:=1) (N:=some 20) (v := ?_) (a' := ?_) #[true,true,false,false,false,false,false,false,false,false,false,false,false,false,false,false,false,false,false,false,false,false,false,false] rfl rfl (Qbg HT_.out (by kernel_rfl)) (fun _ _ _ h => h) (Or.inl ⟨by rfl, ?_⟩) ?_ ?_
    rotate_left
    ·intro w'
     go_simp
     with_reducible rfl
    rotate_left
    ·simp only [Act.put,List.setIfInBounds_toArray,List.set_cons_zero,List.set_cons_succ,Qaw,Qay]
     rfl
    refine Qca (i:=2) (N:=some 21) (v := ?_) (a' := ?_) #[true,true,true,false,false,false,false,false,false,false,false,false,false,false,false,false,false,false,false,false,false,false,false,false] rfl rfl (Qbg HT_.out (by kernel_rfl)) (fun _ _ _ h => h) (Or.inl ⟨by rfl, ?_⟩) ?_ ?_
    rotate_left
    ·intro w'
     go_simp
     with_reducible rfl
    rotate_left
    ·simp only [Act.put,List.setIfInBounds_toArray,List.set_cons_zero,List.set_cons_succ,Qaw,Qay]
     rfl
    refine Qca (i:=3) (N:=some 22) (v := ?_) (a' := ?_) #[true,true,true,true,false,false,false,false,false,false,false,false,false,false,false,false,false,false,false,false,false,false,false,false] rfl rfl (Qbg HT_.out (by kernel_rfl)) (fun _ _ _ h => h) (Or.inl ⟨by rfl, ?_⟩) ?_ ?_
    rotate_left
    ·intro w'
     go_simp
     with_reducible rfl
    rotate_left
    ·simp only [Act.put,List.setIfInBounds_toArray,List.set_cons_zero,List.set_cons_succ,Qaw,Qay]
     rfl
    refine Qca (i:=4) (N:=some 23) (v := ?_) (a' := ?_) #[true,true,true,true,true,false,false,false,false,false,false,false,false,false,false,false,false,false,false,false,false,false,false,false] rfl rfl (Qbg HT_.out (by kernel_rfl)) (fun _ _ _ h => h) (Or.inl ⟨by rfl, ?_⟩) ?_ ?_
    rotate_left
    ·intro w'
     go_simp
     with_reducible rfl
    rotate_left
    ·simp only [Act.put,List.setIfInBounds_toArray,List.set_cons_zero,List.set_cons_succ,Qaw,Qay]
     rfl
    refine Qca (i:=5) (N:=some 24) (v := ?_) (a' := ?_) #[true,true,true,true,true,true,false,false,false,false,false,false,false,false,false,false,false,false,false,false,false,false,false,false] rfl rfl (Qbg HT_.out (by kernel_rfl)) (fun _ _ _ h => h) (Or.inl ⟨by rfl, ?_⟩) ?_ ?_
    rotate_left
    ·intro w'
     go_simp
     with_reducible rfl
    rotate_left
    ·simp only [Act.put,List.setIfInBounds_toArray,List.set_cons_zero,List.set_cons_succ,Qaw,Qay]
     rfl
    refine take_ (i:=6) (N:=some 25) (v := ?_) (a' := ?_) #[true,true,true,true,true,true,true,false,false,false,false,false,false,false,false,false,false,false,false,false,false,false,false,false] rfl rfl (take_ofW HT_.out HW_.out (by kernel_rfl)) (fun _ _ _ h => h) (Or.inl ⟨by rfl, ?_⟩) hHeld ?_ ?_
    rotate_left
    ·rintro w' ⟨s0,s1,s2,s3,s4,s5,s6,s7,s8,s9,s10⟩
     go_simp
     with_reducible rfl
    rotate_left
    ·simp only [Act.put,List.setIfInBounds_toArray,List.set_cons_zero,List.set_cons_succ,Qaw,Qay]
     rfl
    refine Qca (i:=7) (N:=some 26) (v := ?_) (a' := ?_) #[true,true,true,true,true,true,true,true,false,false,false,false,false,false,false,false,false,false,false,false,false,false,false,false] rfl rfl (Qbg HT_.out (by kernel_rfl)) (fun _ _ _ h => h) (Or.inl ⟨by rfl, ?_⟩) ?_ ?_
    rotate_left
    ·intro w'
     go_simp
     with_reducible rfl
    rotate_left
    ·simp only [Act.put,List.setIfInBounds_toArray,List.set_cons_zero,List.set_cons_succ,Qaw,Qay]
     rfl
    refine Qca (i:=8) (N:=some 27) (v := ?_) (a' := ?_) #[true,true,true,true,true,true,true,true,true,false,false,false,false,false,false,false,false,false,false,false,false,false,false,false] rfl rfl (Qbg HT_.out (by kernel_rfl)) (fun _ _ _ h => h) (Or.inl ⟨by rfl, ?_⟩) ?_ ?_
    rotate_left
    ·intro w'
     go_simp
     with_reducible rfl
    rotate_left
    ·simp only [Act.put,List.setIfInBounds_toArray,List.set_cons_zero,List.set_cons_succ,Qaw,Qay]
     rfl
    refine Qca (i:=9) (N:=some 28) (v:=undef) (a' := ?_) #[true,true,true,true,true,true,true,true,true,true,false,false,false,false,false,false,false,false,false,false,false,false,false,false] rfl rfl (Qbg HT_.out (by kernel_rfl)) (fun _ _ _ h => h) (Or.inr ⟨by rfl,rfl⟩) ?_ ?_
    rotate_left
    ·simp only [Act.put,List.setIfInBounds_toArray,List.set_cons_zero,List.set_cons_succ,Qaw,Qay]
     rfl
    refine Qca (i:=10) (N:=some 29) (v:=undef) (a' := ?_) #[true,true,true,true,true,true,true,true,true,true,true,false,false,false,false,false,false,false,false,false,false,false,false,false] rfl rfl (Qbg HT_.out (by kernel_rfl)) (fun _ _ _ h => h) (Or.inr ⟨by rfl,rfl⟩) ?_ ?_
    rotate_left
    ·simp only [Act.put,List.setIfInBounds_toArray,List.set_cons_zero,List.set_cons_succ,Qaw,Qay]
     rfl
    refine Qca (i:=11) (N:=some 30) (v:=undef) (a' := ?_) #[true,true,true,true,true,true,true,true,true,true,true,true,false,false,false,false,false,false,false,false,false,false,false,false] rfl rfl (Qbg HT_.out (by kernel_rfl)) (fun _ _ _ h => h) (Or.inr ⟨by rfl,rfl⟩) ?_ ?_
    rotate_left
    ·simp only [Act.put,List.setIfInBounds_toArray,List.set_cons_zero,List.set_cons_succ,Qaw,Qay]
     rfl
    refine Qca (i:=12) (N:=some 31) (v:=undef) (a' := ?_) #[true,true,true,true,true,true,true,true,true,true,true,true,true,false,false,false,false,false,false,false,false,false,false,false] rfl rfl (Qbg HT_.out (by kernel_rfl)) (fun _ _ _ h => h) (Or.inr ⟨by rfl,rfl⟩) ?_ ?_
    rotate_left
    ·simp only [Act.put,List.setIfInBounds_toArray,List.set_cons_zero,List.set_cons_succ,Qaw,Qay]
     rfl
    refine Qca (i:=13) (N:=some 32) (v:=undef) (a' := ?_) #[true,true,true,true,true,true,true,true,true,true,true,true,true,true,false,false,false,false,false,false,false,false,false,false] rfl rfl (Qbg HT_.out (by kernel_rfl)) (fun _ _ _ h => h) (Or.inr ⟨by rfl,rfl⟩) ?_ ?_
    rotate_left
    ·simp only [Act.put,List.setIfInBounds_toArray,List.set_cons_zero,List.set_cons_succ,Qaw,Qay]
     rfl
    refine Qca (i:=14) (N:=some 33) (v:=undef) (a' := ?_) #[true,true,true,true,true,true,true,true,true,true,true,true,true,true,true,false,false,false,false,false,false,false,false,false] rfl rfl (Qbg HT_.out (by kernel_rfl)) (fun _ _ _ h => h) (Or.inr ⟨by rfl,rfl⟩) ?_ ?_
    rotate_left
    ·simp only [Act.put,List.setIfInBounds_toArray,List.set_cons_zero,List.set_cons_succ,Qaw,Qay]
     rfl
    refine Qca (i:=15) (N:=some 34) (v:=undef) (a' := ?_) #[true,true,true,true,true,true,true,true,true,true,true,true,true,true,true,true,false,false,false,false,false,false,false,false] rfl rfl (Qbg HT_.out (by kernel_rfl)) (fun _ _ _ h => h) (Or.inr ⟨by rfl,rfl⟩) ?_ ?_
    rotate_left
    ·simp only [Act.put,List.setIfInBounds_toArray,List.set_cons_zero,List.set_cons_succ,Qaw,Qay]
     rfl
    refine Qca (i:=16) (N:=some 35) (v:=undef) (a' := ?_) #[true,true,true,true,true,true,true,true,true,true,true,true,true,true,true,true,true,false,false,false,false,false,false,false] rfl rfl (Qbg HT_.out (by kernel_rfl)) (fun _ _ _ h => h) (Or.inr ⟨by rfl,rfl⟩) ?_ ?_
    rotate_left
    ·simp only [Act.put,List.setIfInBounds_toArray,List.set_cons_zero,List.set_cons_succ,Qaw,Qay]
     rfl
    refine Qca (i:=17) (N:=some 36) (v:=undef) (a' := ?_) #[true,true,true,true,true,true,true,true,true,true,true,true,true,true,true,true,true,true,false,false,false,false,false,false] rfl rfl (Qbg HT_.out (by kernel_rfl)) (fun _ _ _ h => h) (Or.inr ⟨by rfl,rfl⟩) ?_ ?_
    rotate_left
    ·simp only [Act.put,List.setIfInBounds_toArray,List.set_cons_zero,List.set_cons_succ,Qaw,Qay]
     rfl
    refine Qca (i:=18) (N:=some 37) (v:=undef) (a' := ?_) #[true,true,true,true,true,true,true,true,true,true,true,true,true,true,true,true,true,true,true,false,false,false,false,false] rfl rfl (Qbg HT_.out (by kernel_rfl)) (fun _ _ _ h => h) (Or.inr ⟨by rfl,rfl⟩) ?_ ?_
    rotate_left
    ·simp only [Act.put,List.setIfInBounds_toArray,List.set_cons_zero,List.set_cons_succ,Qaw,Qay]
     rfl
    refine Qca (i:=19) (N:=some 38) (v:=undef) (a' := ?_) #[true,true,true,true,true,true,true,true,true,true,true,true,true,true,true,true,true,true,true,true,false,false,false,false] rfl rfl (Qbg HT_.out (by kernel_rfl)) (fun _ _ _ h => h) (Or.inr ⟨by rfl,rfl⟩) ?_ ?_
    rotate_left
    ·simp only [Act.put,List.setIfInBounds_toArray,List.set_cons_zero,List.set_cons_succ,Qaw,Qay]
     rfl
    refine Qca (i:=20) (N:=some 39) (v:=undef) (a' := ?_) #[true,true,true,true,true,true,true,true,true,true,true,true,true,true,true,true,true,true,true,true,true,false,false,false] rfl rfl (Qbg HT_.out (by kernel_rfl)) (fun _ _ _ h => h) (Or.inr ⟨by rfl,rfl⟩) ?_ ?_
    rotate_left
    ·simp only [Act.put,List.setIfInBounds_toArray,List.set_cons_zero,List.set_cons_succ,Qaw,Qay]
     rfl
    refine Qca (i:=21) (N:=some 40) (v := ?_) (a' := ?_) #[true,true,true,true,true,true,true,true,true,true,true,true,true,true,true,true,true,true,true,true,true,true,false,false] rfl rfl (Qbg HT_.out (by kernel_rfl)) (fun _ _ _ h => h) (Or.inl ⟨by rfl, ?_⟩) ?_ ?_
    rotate_left
    ·intro w'
     go_simp
     with_reducible rfl
    rotate_left
    ·simp only [Act.put,List.setIfInBounds_toArray,List.set_cons_zero,List.set_cons_succ,Qaw,Qay]
     rfl
    refine Qca (i:=22) (N:=some 41) (v := ?_) (a' := ?_) #[true,true,true,true,true,true,true,true,true,true,true,true,true,true,true,true,true,true,true,true,true,true,true,false] rfl rfl (Qbg HT_.out (by kernel_rfl)) (fun _ _ _ h => h) (Or.inl ⟨by rfl, ?_⟩) ?_ ?_
    rotate_left
    ·intro w'
     go_simp
     with_reducible rfl
    rotate_left
    ·simp only [Act.put,List.setIfInBounds_toArray,List.set_cons_zero,List.set_cons_succ,Qaw,Qay]
     rfl
    refine last_ (i:=23) (N:=none) #[true,true,true,true,true,true,true,true,true,true,true,true,true,true,true,true,true,true,true,true,true,true,true,true] rfl rfl (one_of HT_.out (by kernel_rfl)) (by decide) (fun K hK => ?_)
    refine skip_ (w1 := ?_) (by rfl) rfl ?_ ?_
    rotate_left
    ·go_simp
     rfl
    refine hK.out _ _ ?_
    clear hK K
    refine done_ (done_of HT_.out (by kernel_rfl)) ?_
    try go_wp2
    go_roundg k1
    case measure => have:=HK1.out; omega
    case rel => exact ⟨(y278),(wrap64 (x4_1 + 1)),rf,H',⟨by have:=HK1.out; omega⟩,⟨rk HQ17⟩,⟨by repeat (first | (with_reducible first | exact HB.out | apply Qag | apply Qbq | apply Qaf | refine Qda ?_ GB15.out) | exact HB.out)⟩⟩
   rw [if_pos c8] at H
   obtain ⟨c8b0,c8b1⟩:=bT c8
   clear c8
   obtain ⟨t276,A9,H⟩:=bE H
   by_cases c10 : x4_1 < (x3_1.length : Int); rotate_left
   ·rw [if_neg c10] at H
    exact absurd H (by simp)
   rw [if_pos c10] at H
   have c10b0:=decide_eq_true c10
   clear c10
   obtain ⟨y277,hy277⟩ : ∃ y_ : List Bool,y_ = (x3_1.set (x4_1 : Int).toNat t276):=⟨_,rfl⟩
   first | rw [Option.bind_some,← hy277] at H | rw [← hy277] at H
   have Ny277:=Aside0.mk hy277
   clear hy277
   have H':=Aside0.mk H
   clear H
   try go_wp2
   have n0_:=Aside0.mk (Kd.R_drew HO_3.out)
   have n1_:=Aside0.mk (Qaf HB.out)
   clear HO_3
   clear HB
   have HO_3:=n0_
   have HB:=n1_
   clear n0_ n1_
   have p273 : 0 ≤ (x4_1 : Int):=od
   have q273 : x4_1 < (l0.length : Int):=od
   obtain ⟨ad273,A273_7,c273_7,e273,hx273_0,hx273_1,hx273_2,hx273_3,hx273_4,hx273_5,hx273_6,hx273_7,hx273_8,hx273_9,hx273_10,hl273_7,hi273_7⟩:=Qck HR0.out x4_1 p273 q273
   have hw273_10:=hx273_10
   have hw273_9:=hx273_9
   have hw273_8:=hx273_8
   have hw273_7:=hx273_7
   have hw273_6:=hx273_6
   have hw273_5:=hx273_5
   have hw273_4:=hx273_4
   have hw273_3:=hx273_3
   have hw273_2:=hx273_2
   have hw273_1:=hx273_1
   have hw273_0:=hx273_0
   cases e273
   replace hx273_0:=cl HB hx273_0
   replace hx273_1:=cl HB hx273_1
   replace hx273_2:=cl HB hx273_2
   replace hx273_3:=cl HB hx273_3
   replace hx273_4:=cl HB hx273_4
   replace hx273_5:=cl HB hx273_5
   replace hx273_6:=cl HB hx273_6
   replace hx273_7:=cl HB hx273_7
   replace hx273_8:=cl HB hx273_8
   replace hx273_9:=cl HB hx273_9
   replace hx273_10:=cl HB hx273_10
   have HR273_7:=Aside0.mk hi273_7
   have HC273_7:=Aside0.mk hl273_7
   clear hi273_7 hl273_7
   replace p273:=eq_true p273
   replace q273:=eq_true q273
   refine start_ (n:=24) (S:=fun w' => Q11 w' (ad273.add ((x4_1).toNat * 11)) (Qad l0 x4_1) A273_7 c273_7) (ds:=[23]) #[false,false,false,false,false,false,false,false,false,false,false,false,false,false,false,false,false,false,false,false,false,false,false,false] (by kernel_rfl) rfl rfl ⟨(cW HB hw273_0),(cW HB hw273_1),(cW HB hw273_2),(cW HB hw273_3),(cW HB hw273_4),(cW HB hw273_5),(cW HB hw273_6),(cW HB hw273_7),(cW HB hw273_8),(cW HB hw273_9),(cW HB hw273_10)⟩ (fun hHeld => ?_); refine Qas r4_Visible.tab5 r4_Visible.bits5 (fun HT_ HW_ => ?_)
   generalize wr.drew = w12 at HO_3 HB HR273_7 HR273_7 HR273_7 hx273_0 hx273_1 hx273_10 hx273_2 hx273_3 hx273_4 hx273_5 hx273_6 hx273_7 hx273_8 hx273_9 hx273_0 hx273_1 hx273_10 hx273_2 hx273_3 hx273_4 hx273_5 hx273_6 hx273_7 hx273_8 hx273_9 hx273_0 hx273_1 hx273_10 hx273_2 hx273_3 hx273_4 hx273_5 hx273_6 hx273_7 hx273_8 hx273_9 hHeld ⊢
   refine Qca (i:=0) (N:=some 19) (v := ?_) (a' := ?_) #[true,false,false,false,false,false,false,false,false,false,false,false,false,false,false,false,false,false,false,false,false,false,false,false] rfl rfl (Qbg HT_.out (by kernel_rfl)) (fun _ _ _ h => h) (Or.inl ⟨by rfl, ?_⟩) ?_ ?_
   rotate_left
   ·intro w'
    go_simp
    with_reducible rfl
   rotate_left
   ·simp only [Act.put,List.setIfInBounds_toArray,List.set_cons_zero,List.set_cons_succ,Qaw,Qay]
    rfl
   refine Qca (i:=1) (N:=some 20) (v := ?_) (a' := ?_) #[true,true,false,false,false,false,false,false,false,false,false,false,false,false,false,false,false,false,false,false,false,false,false,false] rfl rfl (Qbg HT_.out (by kernel_rfl)) (fun _ _ _ h => h) (Or.inl ⟨by rfl, ?_⟩) ?_ ?_
   rotate_left
   ·intro w'
    go_simp
    with_reducible rfl
   rotate_left
   ·simp only [Act.put,List.setIfInBounds_toArray,List.set_cons_zero,List.set_cons_succ,Qaw,Qay]
    rfl
   refine Qca (i:=2) (N:=some 21) (v := ?_) (a' := ?_) #[true,true,true,false,false,false,false,false,false,false,false,false,false,false,false,false,false,false,false,false,false,false,false,false] rfl rfl (Qbg HT_.out (by kernel_rfl)) (fun _ _ _ h => h) (Or.inl ⟨by rfl, ?_⟩) ?_ ?_
   rotate_left
   ·intro w'
    go_simp
    with_reducible rfl
   rotate_left
   ·simp only [Act.put,List.setIfInBounds_toArray,List.set_cons_zero,List.set_cons_succ,Qaw,Qay]
    rfl
   refine Qca (i:=3) (N:=some 22) (v := ?_) (a' := ?_) #[true,true,true,true,false,false,false,false,false,false,false,false,false,false,false,false,false,false,false,false,false,false,false,false] rfl rfl (Qbg HT_.out (by kernel_rfl)) (fun _ _ _ h => h) (Or.inl ⟨by rfl, ?_⟩) ?_ ?_
   rotate_left
   ·intro w'
    go_simp
    with_reducible rfl
   rotate_left
   ·simp only [Act.put,List.setIfInBounds_toArray,List.set_cons_zero,List.set_cons_succ,Qaw,Qay]
    rfl
   refine Qca (i:=4) (N:=some 23) (v := ?_) (a' := ?_) #[true,true,true,true,true,false,false,false,false,false,false,false,false,false,false,false,false,false,false,false,false,false,false,false] rfl rfl (Qbg HT_.out (by kernel_rfl)) (fun _ _ _ h => h) (Or.inl ⟨by rfl, ?_⟩) ?_ ?_
   rotate_left
   ·intro w'
    go_simp
    with_reducible rfl
   rotate_left
   ·simp only [Act.put,List.setIfInBounds_toArray,List.set_cons_zero,List.set_cons_succ,Qaw,Qay]
    rfl
   refine Qca (i:=5) (N:=some 24) (v := ?_) (a' := ?_) #[true,true,true,true,true,true,false,false,false,false,false,false,false,false,false,false,false,false,false,false,false,false,false,false] rfl rfl (Qbg HT_.out (by kernel_rfl)) (fun _ _ _ h => h) (Or.inl ⟨by rfl, ?_⟩) ?_ ?_
   rotate_left
   ·intro w'
    go_simp
    with_reducible rfl
   rotate_left
   ·simp only [Act.put,List.setIfInBounds_toArray,List.set_cons_zero,List.set_cons_succ,Qaw,Qay]
    rfl
   refine take_ (i:=6) (N:=some 25) (v := ?_) (a' := ?_) #[true,true,true,true,true,true,true,false,false,false,false,false,false,false,false,false,false,false,false,false,false,false,false,false] rfl rfl (take_ofW HT_.out HW_.out (by kernel_rfl)) (fun _ _ _ h => h) (Or.inl ⟨by rfl, ?_⟩) hHeld ?_ ?_
   rotate_left
   ·rintro w' ⟨s0,s1,s2,s3,s4,s5,s6,s7,s8,s9,s10⟩
    go_simp
    with_reducible rfl
   rotate_left
   ·simp only [Act.put,List.setIfInBounds_toArray,List.set_cons_zero,List.set_cons_succ,Qaw,Qay]
    rfl
   refine Qca (i:=7) (N:=some 26) (v := ?_) (a' := ?_) #[true,true,true,true,true,true,true,true,false,false,false,false,false,false,false,false,false,false,false,false,false,false,false,false] rfl rfl (Qbg HT_.out (by kernel_rfl)) (fun _ _ _ h => h) (Or.inl ⟨by rfl, ?_⟩) ?_ ?_
   rotate_left
   ·intro w'
    go_simp
    with_reducible rfl
   rotate_left
   ·simp only [Act.put,List.setIfInBounds_toArray,List.set_cons_zero,List.set_cons_succ,Qaw,Qay]
    rfl
   refine Qca (i:=8) (N:=some 27) (v := ?_) (a' := ?_) #[true,true,true,true,true,true,true,true,true,false,false,false,false,false,false,false,false,false,false,false,false,false,false,false] rfl rfl (Qbg HT_.out (by kernel_rfl)) (fun _ _ _ h => h) (Or.inl ⟨by rfl, ?_⟩) ?_ ?_
   rotate_left
   ·intro w'
    go_simp
    with_reducible rfl
   rotate_left
   ·simp only [Act.put,List.setIfInBounds_toArray,List.set_cons_zero,List.set_cons_succ,Qaw,Qay]
    rfl
   refine Qca (i:=9) (N:=some 28) (v := ?_) (a' := ?_) #[true,true,true,true,true,true,true,true,true,true,false,false,false,false,false,false,false,false,false,false,false,false,false,false] rfl rfl (Qbg HT_.out (by kernel_rfl)) (fun _ _ _ h => h) (Or.inl ⟨by rfl, ?_⟩) ?_ ?_
   rotate_left
   ·intro w'
    go_simp
    with_reducible rfl
   rotate_left
   ·simp only [Act.put,List.setIfInBounds_toArray,List.set_cons_zero,List.set_cons_succ,Qaw,Qay]
    rfl
   refine Qca (i:=10) (N:=some 29) (v := ?_) (a' := ?_) #[true,true,true,true,true,true,true,true,true,true,true,false,false,false,false,false,false,false,false,false,false,false,false,false] rfl rfl (Qbg HT_.out (by kernel_rfl)) (fun _ _ _ h => h) (Or.inl ⟨by rfl, ?_⟩) ?_ ?_
   rotate_left
   ·intro w'
    go_simp
    with_reducible rfl
   rotate_left
   ·simp only [Act.put,List.setIfInBounds_toArray,List.set_cons_zero,List.set_cons_succ,Qaw,Qay]
    rfl
   refine Qca (i:=11) (N:=some 30) (v := ?_) (a' := ?_) #[true,true,true,true,true,true,true,true,true,true,true,true,false,false,false,false,false,false,false,false,false,false,false,false] rfl rfl (Qbg HT_.out (by kernel_rfl)) (fun _ _ _ h => h) (Or.inl ⟨by rfl, ?_⟩) ?_ ?_
   rotate_left
   ·intro w'
    go_simp
    with_reducible rfl
   rotate_left
   ·simp only [Act.put,List.setIfInBounds_toArray,List.set_cons_zero,List.set_cons_succ,Qaw,Qay]
    rfl
   refine Qca (i:=12) (N:=some 31) (v := ?_) (a' := ?_) #[true,true,true,true,true,true,true,true,true,true,true,true,true,false,false,false,false,false,false,false,false,false,false,false] rfl rfl (Qbg HT_.out (by kernel_rfl)) (fun _ _ _ h => h) (Or.inl ⟨by rfl, ?_⟩) ?_ ?_
   rotate_left
   ·intro w'
    go_simp
    with_reducible rfl
   rotate_left
   ·simp only [Act.put,List.setIfInBounds_toArray,List.set_cons_zero,List.set_cons_succ,Qaw,Qay]
    rfl
   refine Qca (i:=13) (N:=some 32) (v := ?_) (a' := ?_) #[true,true,true,true,true,true,true,true,true,true,true,true,true,true,false,false,false,false,false,false,false,false,false,false] rfl rfl (Qbg HT_.out (by kernel_rfl)) (fun _ _ _ h => h) (Or.inl ⟨by rfl, ?_⟩) ?_ ?_
   rotate_left
   ·intro w'
    go_simp
    with_reducible rfl
   rotate_left
   ·simp only [Act.put,List.setIfInBounds_toArray,List.set_cons_zero,List.set_cons_succ,Qaw,Qay]
    rfl
   refine Qca (i:=15) (N:=some 34) (v := ?_) (a' := ?_) #[true,true,true,true,true,true,true,true,true,true,true,true,true,true,false,true,false,false,false,false,false,false,false,false] rfl rfl (Qbg HT_.out (by kernel_rfl)) (fun _ _ _ h => h) (Or.inl ⟨by rfl, ?_⟩) ?_ ?_
   rotate_left
   ·intro w'
    go_simp
    with_reducible rfl
   rotate_left
   ·simp only [Act.put,List.setIfInBounds_toArray,List.set_cons_zero,List.set_cons_succ,Qaw,Qay]
    rfl
   refine Qca (i:=16) (N:=some 35) (v := ?_) (a' := ?_) #[true,true,true,true,true,true,true,true,true,true,true,true,true,true,false,true,true,false,false,false,false,false,false,false] rfl rfl (Qbg HT_.out (by kernel_rfl)) (fun _ _ _ h => h) (Or.inl ⟨by rfl, ?_⟩) ?_ ?_
   rotate_left
   ·intro w'
    go_simp
    with_reducible rfl
   rotate_left
   ·simp only [Act.put,List.setIfInBounds_toArray,List.set_cons_zero,List.set_cons_succ,Qaw,Qay]
    rfl
   refine Qca (i:=17) (N:=some 36) (v := ?_) (a' := ?_) #[true,true,true,true,true,true,true,true,true,true,true,true,true,true,false,true,true,true,false,false,false,false,false,false] rfl rfl (Qbg HT_.out (by kernel_rfl)) (fun _ _ _ h => h) (Or.inl ⟨by rfl, ?_⟩) ?_ ?_
   rotate_left
   ·intro w'
    go_simp
    with_reducible rfl
   rotate_left
   ·simp only [Act.put,List.setIfInBounds_toArray,List.set_cons_zero,List.set_cons_succ,Qaw,Qay]
    rfl
   refine Qca (i:=18) (N:=some 37) (v := ?_) (a' := ?_) #[true,true,true,true,true,true,true,true,true,true,true,true,true,true,false,true,true,true,true,false,false,false,false,false] rfl rfl (Qbg HT_.out (by kernel_rfl)) (fun _ _ _ h => h) (Or.inl ⟨by rfl, ?_⟩) ?_ ?_
   rotate_left
   ·intro w'
    go_simp
    with_reducible rfl
   rotate_left
   ·simp only [Act.put,List.setIfInBounds_toArray,List.set_cons_zero,List.set_cons_succ,Qaw,Qay]
    rfl
   refine take_ (i:=14) (N:=some 33) (v := ?_) (a' := ?_) #[true,true,true,true,true,true,true,true,true,true,true,true,true,true,true,true,true,true,true,false,false,false,false,false] rfl rfl (take_ofW HT_.out HW_.out (by kernel_rfl)) (fun _ _ _ h => h) (Or.inl ⟨by rfl, ?_⟩) hHeld ?_ ?_
   rotate_left
   ·rintro w' ⟨s0,s1,s2,s3,s4,s5,s6,s7,s8,s9,s10⟩
    go_simp
    with_reducible rfl
   rotate_left
   ·simp only [Act.put,List.setIfInBounds_toArray,List.set_cons_zero,List.set_cons_succ,Qaw,Qay]
    rfl
   refine take_ (i:=19) (N:=some 38) (v := ?_) (a' := ?_) #[true,true,true,true,true,true,true,true,true,true,true,true,true,true,true,true,true,true,true,true,false,false,false,false] rfl rfl (take_ofW HT_.out HW_.out (by kernel_rfl)) (fun _ _ _ h => h) (Or.inl ⟨by rfl, ?_⟩) hHeld ?_ ?_
   rotate_left
   ·rintro w' ⟨s0,s1,s2,s3,s4,s5,s6,s7,s8,s9,s10⟩
    go_simp
    with_reducible rfl
   rotate_left
   ·simp only [Act.put,List.setIfInBounds_toArray,List.set_cons_zero,List.set_cons_succ,Qaw,Qay]
    rfl
   refine one_ (i:=20) (N:=some 39) #[true,true,true,true,true,true,true,true,true,true,true,true,true,true,true,true,true,true,true,true,true,false,false,false] rfl rfl (one_of HT_.out (by kernel_rfl)) (by decide) (fun K hK => ?_)
   refine gS Tryd.func75 #[.slice (some ad273) l0.length c0, .int .i64 ((Qad l0 x4_1).f0), .int .i64 ((Qad l0 x4_1).f1)] (h := ?_)
   with_reducible refine (r4_Effective.calls k1 _ _ l0 ((Qad l0 x4_1).f0) ((Qad l0 x4_1).f1) t276 _ ?side1 ?side2 A9.out).mono ?_
   (case side1 => exact cb HR0 HB)
   (case side2 => exact HC0.out)
   rintro e w' ⟨rfl,⟨nd,rfl⟩⟩
   refine ⟨_,rfl, ?_⟩
   have p11 : 0 ≤ (x4_1 : Int):=od
   have q11 : (x4_1 : Int) < ((x3_1.length : Int) : Int):=od
   obtain ⟨go11,co11,eo11,gb11,gl11,cl11,HG11⟩:=Kd.R_form HO_3.out (by omega)
   (first | cases eo11 | (injection eo11 with ea_ en_ ec_; (first | subst ea_ | (injection ea_ with ea_; subst ea_)); subst ec_; clear en_))
   have GB11:=Aside0.mk gb11
   have GG11:=Aside0.mk HG11
   clear gb11 gl11 HG11
   obtain ⟨hx11_0,hf11_0⟩:=Kd.R_celln false HO_3.out (x4_1 : Int) p11 q11
   replace p11:=eq_true p11
   replace q11:=eq_true q11
   have HP13:=Kd.R_putn HO_3.out (x4_1 : Int) t276
   rw [← Ny277.out] at HP13
   have HQ13:=Aside0.mk HP13
   clear HP13
   refine hK.out _ _ ⟨(cW HB hw273_0),(cW HB hw273_1),(cW HB hw273_2),(cW HB hw273_3),(cW HB hw273_4),(cW HB hw273_5),(cW HB hw273_6),(cW HB hw273_7),(cW HB hw273_8),(cW HB hw273_9),(cW HB hw273_10)⟩ (fun hHeld => ?_)
   clear hK K
   refine norm_ (a' := ?_) ?_ ?_
   rotate_left
   ·show Act.put _ (some 39) _ = _
    simp only [Act.put,List.setIfInBounds_toArray,List.set_cons_zero,List.set_cons_succ,Qaw,Qay]
    rfl
   refine Qca (i:=21) (N:=some 40) (v := ?_) (a' := ?_) #[true,true,true,true,true,true,true,true,true,true,true,true,true,true,true,true,true,true,true,true,true,true,false,false] rfl rfl (Qbg HT_.out (by kernel_rfl)) (fun _ _ _ h => h) (Or.inl ⟨by rfl, ?_⟩) ?_ ?_
   rotate_left
   ·intro w'
    go_simp
    with_reducible rfl
   rotate_left
   ·simp only [Act.put,List.setIfInBounds_toArray,List.set_cons_zero,List.set_cons_succ,Qaw,Qay]
    rfl
   refine Qca (i:=22) (N:=some 41) (v := ?_) (a' := ?_) #[true,true,true,true,true,true,true,true,true,true,true,true,true,true,true,true,true,true,true,true,true,true,true,false] rfl rfl (Qbg HT_.out (by kernel_rfl)) (fun _ _ _ h => h) (Or.inl ⟨by rfl, ?_⟩) ?_ ?_
   rotate_left
   ·intro w'
    go_simp
    with_reducible rfl
   rotate_left
   ·simp only [Act.put,List.setIfInBounds_toArray,List.set_cons_zero,List.set_cons_succ,Qaw,Qay]
    rfl
   refine last_ (i:=23) (N:=none) #[true,true,true,true,true,true,true,true,true,true,true,true,true,true,true,true,true,true,true,true,true,true,true,true] rfl rfl (one_of HT_.out (by kernel_rfl)) (by decide) (fun K hK => ?_)
   refine skip_ (w1 := ?_) (by rfl) rfl ?_ ?_
   rotate_left
   ·go_simp
    rfl
   refine hK.out _ _ ?_
   clear hK K
   refine done_ (done_of HT_.out (by kernel_rfl)) ?_
   try go_wp2
   go_roundg k1
   case measure => have:=HK1.out; omega
   case rel => exact ⟨(y277),(wrap64 (x4_1 + 1)),rf,H',⟨by have:=HK1.out; omega⟩,⟨rk HQ13⟩,⟨by repeat (first | (with_reducible first | exact HB.out | apply Qag | apply Qbq | apply Qaf | refine Qda ?_ GB11.out) | exact HB.out)⟩⟩
end
end Go.Proofs.YtonoaflfobajcaaDoor.L
end
