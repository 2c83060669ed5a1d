/- Part 9 of the proof that for every argument the law TreeLimits answers true: as many ops, and as many runes, as may be are a row, one more is none, by rows made here; the card ties the two tables of unicode/utf8 that are listed; no other condition is laid. -/
import Derived.Test.YtdahgnalojekdaaDoorZTL8
section
namespace Go.Proofs.YtdahgnalojekdaaDoor.L
open Go.RowKit Go.Proofs.YtdahgnalojekdaaDoorW.PrintWords Go.Proofs.YtdahgnalojekdaaDoorW.PrintLast Go.Proofs.YtdahgnalojekdaaDoorW.PrintMore
attribute [local go_sem] max2_int min2_int max_two min_two max_three min_three max_four min_four
set_option linter.unusedVariables false
set_option linter.unusedSimpArgs false
def lectionaryref4_Edit.f (k : Nat) (l0 : List (SOp)) (a1 : Int) (a2 : Int) : Option (Bool) := (lectionaryref4_Find.f k l0 a1 a2).bind fun t202 => (if t202 ≥ 0 then (if 0 ≤ t202 then (if t202 < (l0.length : Int) then (some (((rd_Op l0 t202).f2) == 1)) else (none)) else (none)) else (some false))
set_option maxHeartbeats 8000000 in
set_option maxRecDepth 100000 in
theorem lectionaryref4_Edit.calls (k : Nat) (A0 : Option Addr) (c0 : Nat) (l0 : List (SOp)) (a1 : Int) (a2 : Int) (r : Bool) (w : World) (hr0 : Kd.C kOp w A0 l0.length l0) (hc0 : l0.length ≤ c0) (h : lectionaryref4_Edit.f k l0 a1 a2 = some r) :
    Calls Tryd.prog 96 #[.slice A0 l0.length c0, .int .i64 a1, .int .i64 a2] w fun e w' => e = .returned (.bool r) ∧ Drawn0 w w' := by
  have HR0 := Aside0.mk hr0
  have HC0 := Aside0.mk hc0
  clear hr0 hc0
  have H : ((lectionaryref4_Find.f k l0 a1 a2).bind fun t202 => (if t202 ≥ 0 then (if 0 ≤ t202 then (if t202 < (l0.length : Int) then (some (((rd_Op l0 t202).f2) == 1)) else (none)) else (none)) else (some false))) = some r := h
  clear h
  replace H := Option.bind_eq_some_iff.mp H
  obtain ⟨t202, A40, H⟩ := H
  replace H : (if t202 ≥ 0 then (if 0 ≤ t202 then (if t202 < (l0.length : Int) then (some (((rd_Op l0 t202).f2) == 1)) else (none)) else (none)) else (some false)) = some r := H
  have A4 := Aside0.mk A40
  clear A40
  by_cases c5 : t202 ≥ 0
  · rw [if_pos c5] at H
    have c5b0 : decide (0 ≤ t202) = true := decide_eq_true c5
    clear c5
    by_cases c6 : 0 ≤ t202
    · rw [if_pos c6] at H
      have c6b0 : decide (0 ≤ t202) = true := decide_eq_true c6
      clear c6
      by_cases c7 : t202 < (l0.length : Int)
      · rw [if_pos c7] at H
        have c7b0 : decide (t202 < (l0.length : Int)) = true := decide_eq_true c7
        clear c7
        obtain rfl := Option.some.inj H
        go_enter Tryd.func96, Tryd.ntmps96
        go_wp2_with (first | ((with_reducible refine gate_callee (f := 91) rfl ?_); refine goesL_ (some 11) rfl rfl Tryd.func91 (by kernel_rfl) rfl #[.slice A0 l0.length c0, .int .i64 a1, .int .i64 a2] rfl (by (try simp only [List.map_toArray, List.map_cons, List.map_nil]); first | done | rfl | (simp only [List.length_drop, List.length_take]; rfl)) ?_; (with_reducible refine (lectionaryref4_Find.calls k _ _ l0 a1 a2 t202 _ ?side1 ?side2 A4.out).mono ?_); (case side1 => repeat (first | exact HR0.out | (with_reducible refine Kd.C_alloc ?_ _) | (with_reducible refine Kd.C_drewN ?_ _) | (with_reducible refine Kd.C_drew ?_))); (case side2 => exact HC0.out); rintro e w' ⟨rfl, ⟨nd, rfl⟩⟩; refine ⟨_, rfl, ?_⟩; have p203 : 0 ≤ (t202 : Int) := of_decide_eq_true (by first | (with_reducible assumption) | assumption); have q203 : t202 < (l0.length : Int) := of_decide_eq_true (by first | (with_reducible assumption) | assumption); obtain ⟨ad203, A203_7, c203_7, e203, hx203_0, hx203_1, hx203_2, hx203_3, hx203_4, hx203_5, hx203_6, hx203_7, hx203_8, hx203_9, hx203_10, hl203_7, hi203_7⟩ := at_Op HR0.out t202 p203 q203; cases e203; have HR203_7 := Aside0.mk hi203_7; have HC203_7 := Aside0.mk hl203_7; clear hi203_7 hl203_7; replace p203 := eq_true p203; replace q203 := eq_true q203))
        go_ret
        exact ⟨by first | rfl | (simp; done) | (simp [*]; done), by repeat (first | exact Drawn0.refl _ | apply Drawn0.step)⟩
      rw [if_neg c7] at H
      exact absurd H (by simp)
    rw [if_neg c6] at H
    exact absurd H (by simp)
  rw [if_neg c5] at H
  have c5b0 : decide (0 ≤ t202) = false := decide_eq_false c5
  clear c5
  obtain rfl := Option.some.inj H
  go_enter Tryd.func96, Tryd.ntmps96
  go_wp2_with (first | ((with_reducible refine gate_callee (f := 91) rfl ?_); refine goesL_ (some 11) rfl rfl Tryd.func91 (by kernel_rfl) rfl #[.slice A0 l0.length c0, .int .i64 a1, .int .i64 a2] rfl (by (try simp only [List.map_toArray, List.map_cons, List.map_nil]); first | done | rfl | (simp only [List.length_drop, List.length_take]; rfl)) ?_; (with_reducible refine (lectionaryref4_Find.calls k _ _ l0 a1 a2 t202 _ ?side1 ?side2 A4.out).mono ?_); (case side1 => repeat (first | exact HR0.out | (with_reducible refine Kd.C_alloc ?_ _) | (with_reducible refine Kd.C_drewN ?_ _) | (with_reducible refine Kd.C_drew ?_))); (case side2 => exact HC0.out); rintro e w' ⟨rfl, ⟨nd, rfl⟩⟩; refine ⟨_, rfl, ?_⟩))
  go_ret
  exact ⟨by first | rfl | (simp; done) | (simp [*]; done), by repeat (first | exact Drawn0.refl _ | apply Drawn0.step)⟩
end Go.Proofs.YtdahgnalojekdaaDoor.L
end

section
namespace Go.Proofs.YtdahgnalojekdaaDoor.L
open Go.RowKit Go.Proofs.YtdahgnalojekdaaDoorW.PrintWords Go.Proofs.YtdahgnalojekdaaDoorW.PrintLast Go.Proofs.YtdahgnalojekdaaDoorW.PrintMore
attribute [local go_sem] max2_int min2_int max_two min_two max_three min_three max_four min_four
set_option linter.unusedVariables false
set_option linter.unusedSimpArgs false
mutual
def lectionaryref4_Goes.j0 : Nat → List (SOp) → Bool → Int → Int → Int → Int → Int → Int → ByteArray → List (SElem) → Int → Int → Int → Option (Bool)
  | 0, _, _, _, _, _, _, _, _, _, _, _, _, _ => none
  | k + 1, x0, x25, x205000, x205001, x205002, x205003, x205004, x205005, x205006, x205007, x205008, x205009, x205010 => if x25 = true then (some false) else (lectionaryref4_Goes.l0 k x0 0 x205000 x205001 x205002 x205003 x205004 x205005 x205006 x205007 x205008 x205009 x205010)
def lectionaryref4_Goes.l0 : Nat → List (SOp) → Int → Int → Int → Int → Int → Int → Int → ByteArray → List (SElem) → Int → Int → Int → Option (Bool)
  | 0, _, _, _, _, _, _, _, _, _, _, _, _, _ => none
  | k + 1, x0, x5, x205000, x205001, x205002, x205003, x205004, x205005, x205006, x205007, x205008, x205009, x205010 => if x5 < (x205007.length : Int) then (if 0 ≤ x5 then ((lectionaryref4_written.f k x0 ((rd_Elem x205007 x5).f0) ((rd_Elem x205007 x5).f1) ((rd_Elem x205007 x5).f2)).bind fun t209 => (if t209 = true then (lectionaryref4_Goes.l0 k x0 (wrap64 (x5 + 1)) x205000 x205001 x205002 x205003 x205004 x205005 x205006 x205007 x205008 x205009 x205010) else (some false))) else (none)) else (if x205002 = 1 then (some true) else ((lectionaryref4_Edit.f k x0 x205008 x205009).bind fun t210 => (some t210)))
end
def lectionaryref4_Goes.f (k : Nat) (l0 : List (SOp)) (a1_0 : Int) (a1_1 : Int) (a1_2 : Int) (a1_3 : Int) (a1_4 : Int) (a1_5 : Int) (a1_6 : ByteArray) (l1_7 : List (SElem)) (a1_8 : Int) (a1_9 : Int) (a1_10 : Int) : Option (Bool) := (lectionaryref4_Op.f k a1_0 a1_1 a1_2 a1_3 a1_4 a1_5 a1_6 l1_7 a1_8 a1_9 a1_10).bind fun t205 => (if t205 = true then ((lectionaryref4_Many.f k l0 a1_0).bind fun t206 => (if a1_1 = (wrap64 (t206 + 1)) then ((lectionaryref4_written.f k l0 a1_3 a1_4 a1_5).bind fun t207 => (lectionaryref4_Goes.j0 k l0 (!t207) a1_0 a1_1 a1_2 a1_3 a1_4 a1_5 a1_6 l1_7 a1_8 a1_9 a1_10)) else (lectionaryref4_Goes.j0 k l0 true a1_0 a1_1 a1_2 a1_3 a1_4 a1_5 a1_6 l1_7 a1_8 a1_9 a1_10))) else (lectionaryref4_Goes.j0 k l0 true a1_0 a1_1 a1_2 a1_3 a1_4 a1_5 a1_6 l1_7 a1_8 a1_9 a1_10))
def lectionaryref4_Goes.T1 : Bool × List (List Nat × List Nat) := (true, [([], []), ([0], [0]), ([1], [1]), ([2, 1], [2]), ([3], [3]), ([4, 3], [3, 4]), ([3], [3]), ([3], [3]), ([7, 3], [3, 7]), ([6, 8, 3, 3], [3, 6, 8]), ([9, 3], [3, 9]), ([5, 10, 3], [3, 5, 10]), ([3, 11], [3, 11]), ([12, 9], [12]), ([13], [13]), ([13], [13]), ([15, 13], [13, 15]), ([14, 16, 13, 13], [13, 14, 16]), ([17, 13], [13, 17]), ([13, 18], [13, 18])])
def lectionaryref4_Goes.B1 : List Nat := [0, 1, 3, 7, 15, 31, 15, 15, 143, 463, 975, 2047, 4095, 8191, 16383, 16383, 49151, 131071, 262143, 524287]
theorem lectionaryref4_Goes.tab1 : rtab .any (opsOf Tryd.f72 1) = lectionaryref4_Goes.T1 := by kernel_rfl
theorem lectionaryref4_Goes.bits1 : waitsOk lectionaryref4_Goes.T1.2 lectionaryref4_Goes.B1 = true := by kernel_rfl
set_option maxHeartbeats 8000000 in
set_option maxRecDepth 100000 in
theorem lectionaryref4_Goes.calls (k : Nat) (A0 : Option Addr) (c0 : Nat) (l0 : List (SOp)) (a1_0 : Int) (a1_1 : Int) (a1_2 : Int) (a1_3 : Int) (a1_4 : Int) (a1_5 : Int) (a1_6 : ByteArray) (A1_7 : Option Addr) (c1_7 : Nat) (l1_7 : List (SElem)) (a1_8 : Int) (a1_9 : Int) (a1_10 : Int) (r : Bool) (w : World) (hr0 : Kd.C kOp w A0 l0.length l0) (hc0 : l0.length ≤ c0) (hr1_7 : Kd.C kElem w A1_7 l1_7.length l1_7) (hc1_7 : l1_7.length ≤ c1_7) (hT : GT w) (h : lectionaryref4_Goes.f k l0 a1_0 a1_1 a1_2 a1_3 a1_4 a1_5 a1_6 l1_7 a1_8 a1_9 a1_10 = some r) :
    Calls Tryd.prog 72 #[.slice A0 l0.length c0, .agg #[.int .i64 a1_0, .int .i64 a1_1, .int .i64 a1_2, .int .i64 a1_3, .int .i64 a1_4, .int .i64 a1_5, .string a1_6, .slice A1_7 l1_7.length c1_7, .int .i64 a1_8, .int .i64 a1_9, .int .i64 a1_10]] w fun e w' => e = .returned (.bool r) ∧ Below w.heap.size w w' := by
  have hu31 := Tryd.underlying31
  have hu29 := Tryd.underlying29
  have HR0 := Aside0.mk hr0
  have HC0 := Aside0.mk hc0
  clear hr0 hc0
  have HR1_7 := Aside0.mk hr1_7
  have HC1_7 := Aside0.mk hc1_7
  clear hr1_7 hc1_7
  have HB := Aside0.mk (Below.refl w.heap.size w)
  have H : ((lectionaryref4_Op.f k a1_0 a1_1 a1_2 a1_3 a1_4 a1_5 a1_6 l1_7 a1_8 a1_9 a1_10).bind fun t205 => (if t205 = true then ((lectionaryref4_Many.f k l0 a1_0).bind fun t206 => (if a1_1 = (wrap64 (t206 + 1)) then ((lectionaryref4_written.f k l0 a1_3 a1_4 a1_5).bind fun t207 => (lectionaryref4_Goes.j0 k l0 (!t207) a1_0 a1_1 a1_2 a1_3 a1_4 a1_5 a1_6 l1_7 a1_8 a1_9 a1_10)) else (lectionaryref4_Goes.j0 k l0 true a1_0 a1_1 a1_2 a1_3 a1_4 a1_5 a1_6 l1_7 a1_8 a1_9 a1_10))) else (lectionaryref4_Goes.j0 k l0 true a1_0 a1_1 a1_2 a1_3 a1_4 a1_5 a1_6 l1_7 a1_8 a1_9 a1_10))) = some r := h
  clear h
  have HC3 := Aside0.mk H
  clear H
  go_enter Tryd.func72, Tryd.ntmps72
  go_upto_region 1 with (first | ((with_reducible refine gate_dst (N := 3) rfl ?_); refine box_event ?hg (N := 3) ?hd (cs := #[.int .i64 a1_0, .int .i64 a1_1, .int .i64 a1_2, .int .i64 a1_3, .int .i64 a1_4, .int .i64 a1_5, .string a1_6, .slice A1_7 l1_7.length c1_7, .int .i64 a1_8, .int .i64 a1_9, .int .i64 a1_10]) (t := 31) ?hr ?_; (case hd => rfl); (case hg => rfl); (case hr => first | (go_simp; done) | (go_simp; rfl)); intro gb204 hg w4 hbox hb; have n0_ := Aside0.mk (below_step (by repeat (first | (with_reducible first | exact HB.out | apply below_alloc | apply pw_below_drewN | apply below_drew1) | exact HB.out)) hb); have n1_ := Aside0.mk (hbox); have n2_ := Aside0.mk ((by rw [hg]; exact (below_size (by repeat (first | (with_reducible first | exact HB.out | apply below_alloc | apply pw_below_drewN | apply below_drew1) | exact HB.out))) : w.heap.size ≤ gb204)); have n3_ := Aside0.mk ((by rw [hg]; exact (below_size (by repeat (first | (with_reducible first | exact HB.out | apply below_alloc | apply pw_below_drewN | apply below_drew1) | exact HB.out))) : w.heap.size ≤ gb204)); clear HB; have HB := n0_; have BK204 := n1_; have GW204 := n2_; have GE204 := n3_; clear n0_ n1_ n2_ n3_; clear hb hbox hg))
  (try simp only [Act.put, List.setIfInBounds_toArray, List.set_cons_zero, List.set_cons_succ])
  go_cut [25] (fun v25 wc => ∃ (kq : Nat) (x25_2 : Bool), v25 = .bool x25_2 ∧ Aside0 (lectionaryref4_Goes.j0 kq l0 x25_2 a1_0 a1_1 a1_2 a1_3 a1_4 a1_5 a1_6 l1_7 a1_8 a1_9 a1_10 = some r) ∧ Aside0 (kq ≤ k) ∧ Aside0 (wc.heap[gb204]? = some (.cells #[.int .i64 a1_0, .int .i64 a1_1, .int .i64 a1_2, .int .i64 a1_3, .int .i64 a1_4, .int .i64 a1_5, .string a1_6, (.slice A1_7 l1_7.length c1_7), .int .i64 a1_8, .int .i64 a1_9, .int .i64 a1_10] 31 (0, 0))) ∧ Aside0 (Below w.heap.size w wc))
  case first =>
    have H := HC3.out
    clear HC3
    replace H := Option.bind_eq_some_iff.mp H
    obtain ⟨t205, A50, H⟩ := H
    replace H : (if t205 = true then ((lectionaryref4_Many.f k l0 a1_0).bind fun t206 => (if a1_1 = (wrap64 (t206 + 1)) then ((lectionaryref4_written.f k l0 a1_3 a1_4 a1_5).bind fun t207 => (lectionaryref4_Goes.j0 k l0 (!t207) a1_0 a1_1 a1_2 a1_3 a1_4 a1_5 a1_6 l1_7 a1_8 a1_9 a1_10)) else (lectionaryref4_Goes.j0 k l0 true a1_0 a1_1 a1_2 a1_3 a1_4 a1_5 a1_6 l1_7 a1_8 a1_9 a1_10))) else (lectionaryref4_Goes.j0 k l0 true a1_0 a1_1 a1_2 a1_3 a1_4 a1_5 a1_6 l1_7 a1_8 a1_9 a1_10)) = some r := H
    have A5 := Aside0.mk A50
    clear A50
    by_cases c6 : t205 = true
    · subst c6
      have H1 : ((lectionaryref4_Many.f k l0 a1_0).bind fun t206 => (if a1_1 = (wrap64 (t206 + 1)) then ((lectionaryref4_written.f k l0 a1_3 a1_4 a1_5).bind fun t207 => (lectionaryref4_Goes.j0 k l0 (!t207) a1_0 a1_1 a1_2 a1_3 a1_4 a1_5 a1_6 l1_7 a1_8 a1_9 a1_10)) else (lectionaryref4_Goes.j0 k l0 true a1_0 a1_1 a1_2 a1_3 a1_4 a1_5 a1_6 l1_7 a1_8 a1_9 a1_10))) = some r := by rw [if_pos rfl] at H; exact H
      clear H
      have H := H1
      clear H1
      replace H := Option.bind_eq_some_iff.mp H
      obtain ⟨t206, A70, H⟩ := H
      replace H : (if a1_1 = (wrap64 (t206 + 1)) then ((lectionaryref4_written.f k l0 a1_3 a1_4 a1_5).bind fun t207 => (lectionaryref4_Goes.j0 k l0 (!t207) a1_0 a1_1 a1_2 a1_3 a1_4 a1_5 a1_6 l1_7 a1_8 a1_9 a1_10)) else (lectionaryref4_Goes.j0 k l0 true a1_0 a1_1 a1_2 a1_3 a1_4 a1_5 a1_6 l1_7 a1_8 a1_9 a1_10)) = some r := H
      have A7 := Aside0.mk A70
      clear A70
      by_cases c8 : a1_1 = (wrap64 (t206 + 1))
      · rw [if_pos c8] at H
        have c8b0 : (a1_1 == (wrap64 (t206 + 1))) = true := beq_iff_eq.mpr c8
        have c8b1 : (a1_1 != (wrap64 (t206 + 1))) = false := bne_eq_false_iff_eq.mpr c8
        clear c8
        (first | rw [c8b0] | (simp only [i64_w, i32_w]; rw [c8b0]) | skip)
        replace H := Option.bind_eq_some_iff.mp H
        obtain ⟨t207, A90, H⟩ := H
        replace H : (lectionaryref4_Goes.j0 k l0 (!t207) a1_0 a1_1 a1_2 a1_3 a1_4 a1_5 a1_6 l1_7 a1_8 a1_9 a1_10) = some r := H
        have A9 := Aside0.mk A90
        clear A90
        have H' := Aside0.mk H
        clear H
        try go_wp2
        have n0_ := Aside0.mk (blk_drew BK204.out)
        have n1_ := Aside0.mk (below_drew1 HB.out)
        clear BK204
        clear HB
        have BK204 := n0_
        have HB := n1_
        clear n0_ n1_
        refine stP (fun w' => w'.cell? ⟨gb204, 0, none⟩ = some (.int .i64 a1_0) ∧ w'.cell? ⟨gb204, 1, none⟩ = some (.int .i64 a1_1) ∧ w'.cell? ⟨gb204, 2, none⟩ = some (.int .i64 a1_2) ∧ w'.cell? ⟨gb204, 3, none⟩ = some (.int .i64 a1_3) ∧ w'.cell? ⟨gb204, 4, none⟩ = some (.int .i64 a1_4) ∧ w'.cell? ⟨gb204, 5, none⟩ = some (.int .i64 a1_5) ∧ w'.cell? ⟨gb204, 6, none⟩ = some (.string a1_6) ∧ w'.cell? ⟨gb204, 7, none⟩ = some (.slice A1_7 l1_7.length c1_7) ∧ w'.cell? ⟨gb204, 8, none⟩ = some (.int .i64 a1_8) ∧ w'.cell? ⟨gb204, 9, none⟩ = some (.int .i64 a1_9) ∧ w'.cell? ⟨gb204, 10, none⟩ = some (.int .i64 a1_10)) 20 ⟨bc BK204 0, bc BK204 1, bc BK204 2, bc BK204 3, bc BK204 4, bc BK204 5, bc BK204 6, bc BK204 7, bc BK204 8, bc BK204 9, bc BK204 10⟩ (h := fun hHeld => ?_); refine with_tabW lectionaryref4_Goes.tab1 lectionaryref4_Goes.bits1 (fun HT_ HW_ => ?_)
        generalize w4.drew = w10 at BK204 HB hHeld ⊢
        refine tk HT_ HW_ hHeld 0 6 1 (h := ?_)
        refine on HT_ 1 (some 7) 3 (h := fun K hK => ?_)
        refine goes_ Tryd.func57 (by kernel_rfl) rfl #[.agg #[.int .i64 a1_0, .int .i64 a1_1, .int .i64 a1_2, .int .i64 a1_3, .int .i64 a1_4, .int .i64 a1_5, .string a1_6, .slice A1_7 l1_7.length c1_7, .int .i64 a1_8, .int .i64 a1_9, .int .i64 a1_10]] (by rfl) rfl rfl (by (try simp only [List.map_toArray, List.map_cons, List.map_nil]); first | done | rfl | (simp only [List.length_drop, List.length_take]; rfl)) ?_
        with_reducible refine (lectionaryref4_Op.calls k a1_0 a1_1 a1_2 a1_3 a1_4 a1_5 a1_6 _ _ l1_7 a1_8 a1_9 a1_10 true _ ?side1 ?side2 ?side3 A5.out).mono ?_
        (case side1 => repeat (first | exact (Kd.C_below HR1_7.out HB.out) | (with_reducible refine Kd.C_alloc ?_ _) | (with_reducible refine Kd.C_drewN ?_ _) | (with_reducible refine Kd.C_drew ?_)))
        (case side2 => exact HC1_7.out)
        (case side3 => exact (hT.below (by repeat (first | (with_reducible first | exact HB.out | apply below_alloc | apply pw_below_drewN | apply below_drew1 | refine below_set ?_ GE204.out) | exact HB.out))))
        rintro e w11 ⟨rfl, hb⟩
        refine ⟨_, rfl, ?_⟩
        have n0_ := Aside0.mk (blk_below (g := gb204) (o := .cells #[.int .i64 a1_0, .int .i64 a1_1, .int .i64 a1_2, .int .i64 a1_3, .int .i64 a1_4, .int .i64 a1_5, .string a1_6, .slice A1_7 l1_7.length c1_7, .int .i64 a1_8, .int .i64 a1_9, .int .i64 a1_10] 31 (0, 0)) (by (with_reducible repeat (first | refine blk_drewN ?_ _ | refine blk_drew ?_ | refine blk_alloc ?_ _)); exact BK204.out) hb)
        have n1_ := Aside0.mk (below_step (by repeat (first | (with_reducible first | exact HB.out | apply below_alloc | apply pw_below_drewN | apply below_drew1 | refine below_set ?_ GE204.out) | exact HB.out)) hb)
        clear BK204
        clear HB
        have BK204 := n0_
        have HB := n1_
        clear n0_ n1_
        (try clear hb)
        (try clear hb2)
        (try clear hk)
        (try clear hi)
        refine hK.out _ _ ⟨bc BK204 0, bc BK204 1, bc BK204 2, bc BK204 3, bc BK204 4, bc BK204 5, bc BK204 6, bc BK204 7, bc BK204 8, bc BK204 9, bc BK204 10⟩ (fun hHeld => ?_)
        clear hK K
        refine nm (h := ?_)
        refine pu HT_ 2 8 7 (h := ?_)
        refine pu HT_ 3 9 15 (h := ?_)
        refine pu HT_ 4 10 31 (h := ?_)
        refine pu HT_ 6 12 95 (h := ?_)
        refine pu HT_ 7 13 223 (h := ?_)
        refine tk HT_ HW_ hHeld 5 11 255 (h := ?_)
        refine tk HT_ HW_ hHeld 8 14 511 (h := ?_)
        refine on HT_ 9 (some 15) 1023 (h := fun K hK => ?_)
        refine goes_ Tryd.func84 (by kernel_rfl) rfl #[.slice A0 l0.length c0, .int .i64 a1_0] (by rfl) rfl rfl (by (try simp only [List.map_toArray, List.map_cons, List.map_nil]); first | done | rfl | (simp only [List.length_drop, List.length_take]; rfl)) ?_
        with_reducible refine (lectionaryref4_Many.calls k _ _ l0 a1_0 t206 _ ?side1 ?side2 A7.out).mono ?_
        (case side1 => repeat (first | exact (Kd.C_below HR0.out HB.out) | (with_reducible refine Kd.C_alloc ?_ _) | (with_reducible refine Kd.C_drewN ?_ _) | (with_reducible refine Kd.C_drew ?_)))
        (case side2 => exact HC0.out)
        rintro e w' ⟨rfl, ⟨nd, rfl⟩⟩
        refine ⟨_, rfl, ?_⟩
        refine hK.out _ _ ⟨bc BK204 0, bc BK204 1, bc BK204 2, bc BK204 3, bc BK204 4, bc BK204 5, bc BK204 6, bc BK204 7, bc BK204 8, bc BK204 9, bc BK204 10⟩ (fun hHeld => ?_)
        clear hK K
        refine nm (h := ?_)
        refine pu HT_ 10 16 2047 (h := ?_)
        refine pu HT_ 11 17 4095 (h := ?_)
        refine pu HT_ 12 18 8191 (h := ?_)
        refine pu HT_ 13 19 16383 (h := ?_)
        refine pu HT_ 14 20 32767 (h := ?_)
        refine pu HT_ 15 21 65535 (h := ?_)
        refine tk HT_ HW_ hHeld 16 22 131071 (h := ?_)
        refine on HT_ 17 (some 23) 262143 (h := fun K hK => ?_)
        refine goes_ Tryd.func82 (by kernel_rfl) rfl #[.slice A0 l0.length c0, .agg #[.int .i64 a1_3, .int .i64 a1_4, .int .i64 a1_5]] (by rfl) rfl rfl (by (try simp only [List.map_toArray, List.map_cons, List.map_nil]); first | done | rfl | (simp only [List.length_drop, List.length_take]; rfl)) ?_
        with_reducible refine (lectionaryref4_written.calls k _ _ l0 a1_3 a1_4 a1_5 t207 _ ?side1 ?side2 ?side3 A9.out).mono ?_
        (case side1 => repeat (first | exact (Kd.C_below HR0.out (by repeat (first | (with_reducible first | exact HB.out | apply below_alloc | apply pw_below_drewN | apply below_drew1 | refine below_set ?_ GE204.out) | exact HB.out))) | (with_reducible refine Kd.C_alloc ?_ _) | (with_reducible refine Kd.C_drewN ?_ _) | (with_reducible refine Kd.C_drew ?_)))
        (case side2 => exact HC0.out)
        (case side3 => exact (hT.below (by repeat (first | (with_reducible first | exact HB.out | apply below_alloc | apply pw_below_drewN | apply below_drew1 | refine below_set ?_ GE204.out) | exact HB.out))))
        rintro e w12 ⟨rfl, hb⟩
        refine ⟨_, rfl, ?_⟩
        have n0_ := Aside0.mk (blk_below (g := gb204) (o := .cells #[.int .i64 a1_0, .int .i64 a1_1, .int .i64 a1_2, .int .i64 a1_3, .int .i64 a1_4, .int .i64 a1_5, .string a1_6, .slice A1_7 l1_7.length c1_7, .int .i64 a1_8, .int .i64 a1_9, .int .i64 a1_10] 31 (0, 0)) (by (with_reducible repeat (first | refine blk_drewN ?_ _ | refine blk_drew ?_ | refine blk_alloc ?_ _)); exact BK204.out) hb)
        have n1_ := Aside0.mk (below_step (by repeat (first | (with_reducible first | exact HB.out | apply below_alloc | apply pw_below_drewN | apply below_drew1 | refine below_set ?_ GE204.out) | exact HB.out)) hb)
        clear BK204
        clear HB
        have BK204 := n0_
        have HB := n1_
        clear n0_ n1_
        (try clear hb)
        (try clear hb2)
        (try clear hk)
        (try clear hi)
        refine hK.out _ _ ⟨bc BK204 0, bc BK204 1, bc BK204 2, bc BK204 3, bc BK204 4, bc BK204 5, bc BK204 6, bc BK204 7, bc BK204 8, bc BK204 9, bc BK204 10⟩ (fun hHeld => ?_)
        clear hK K
        refine nm (h := ?_)
        refine pu HT_ 18 24 524287 (h := ?_)
        refine pu HT_ 19 25 1048575 (h := ?_)
        refine dn HT_ (h := ?_)
        try go_wp2
        go_meet
        case rel => exact ⟨_, (!t207), (by first | rfl | (simp; done) | (simp [*]; done)), H', ⟨by first | omega | exact Nat.le_refl _⟩, ⟨by (with_reducible repeat (first | refine blk_drewN ?_ _ | refine blk_drew ?_ | refine blk_alloc ?_ _)); exact BK204.out⟩, ⟨by repeat (first | (with_reducible first | exact HB.out | apply below_alloc | apply pw_below_drewN | apply below_drew1 | refine below_set ?_ GE204.out) | exact HB.out)⟩⟩
      rw [if_neg c8] at H
      have c8b0 : (a1_1 == (wrap64 (t206 + 1))) = false := beq_eq_false_iff_ne.mpr c8
      have c8b1 : (a1_1 != (wrap64 (t206 + 1))) = true := bne_iff_ne.mpr c8
      (first | rw [c8b0] | (simp only [i64_w, i32_w]; rw [c8b0]) | skip)
      have H' := Aside0.mk H
      clear H
      try go_wp2
      have n0_ := Aside0.mk (blk_drew BK204.out)
      have n1_ := Aside0.mk (below_drew1 HB.out)
      clear BK204
      clear HB
      have BK204 := n0_
      have HB := n1_
      clear n0_ n1_
      refine stP (fun w' => w'.cell? ⟨gb204, 0, none⟩ = some (.int .i64 a1_0) ∧ w'.cell? ⟨gb204, 1, none⟩ = some (.int .i64 a1_1) ∧ w'.cell? ⟨gb204, 2, none⟩ = some (.int .i64 a1_2) ∧ w'.cell? ⟨gb204, 3, none⟩ = some (.int .i64 a1_3) ∧ w'.cell? ⟨gb204, 4, none⟩ = some (.int .i64 a1_4) ∧ w'.cell? ⟨gb204, 5, none⟩ = some (.int .i64 a1_5) ∧ w'.cell? ⟨gb204, 6, none⟩ = some (.string a1_6) ∧ w'.cell? ⟨gb204, 7, none⟩ = some (.slice A1_7 l1_7.length c1_7) ∧ w'.cell? ⟨gb204, 8, none⟩ = some (.int .i64 a1_8) ∧ w'.cell? ⟨gb204, 9, none⟩ = some (.int .i64 a1_9) ∧ w'.cell? ⟨gb204, 10, none⟩ = some (.int .i64 a1_10)) 20 ⟨bc BK204 0, bc BK204 1, bc BK204 2, bc BK204 3, bc BK204 4, bc BK204 5, bc BK204 6, bc BK204 7, bc BK204 8, bc BK204 9, bc BK204 10⟩ (h := fun hHeld => ?_); refine with_tabW lectionaryref4_Goes.tab1 lectionaryref4_Goes.bits1 (fun HT_ HW_ => ?_)
      generalize w4.drew = w13 at BK204 HB hHeld ⊢
      refine tk HT_ HW_ hHeld 0 6 1 (h := ?_)
      refine on HT_ 1 (some 7) 3 (h := fun K hK => ?_)
      refine goes_ Tryd.func57 (by kernel_rfl) rfl #[.agg #[.int .i64 a1_0, .int .i64 a1_1, .int .i64 a1_2, .int .i64 a1_3, .int .i64 a1_4, .int .i64 a1_5, .string a1_6, .slice A1_7 l1_7.length c1_7, .int .i64 a1_8, .int .i64 a1_9, .int .i64 a1_10]] (by rfl) rfl rfl (by (try simp only [List.map_toArray, List.map_cons, List.map_nil]); first | done | rfl | (simp only [List.length_drop, List.length_take]; rfl)) ?_
      with_reducible refine (lectionaryref4_Op.calls k a1_0 a1_1 a1_2 a1_3 a1_4 a1_5 a1_6 _ _ l1_7 a1_8 a1_9 a1_10 true _ ?side1 ?side2 ?side3 A5.out).mono ?_
      (case side1 => repeat (first | exact (Kd.C_below HR1_7.out HB.out) | (with_reducible refine Kd.C_alloc ?_ _) | (with_reducible refine Kd.C_drewN ?_ _) | (with_reducible refine Kd.C_drew ?_)))
      (case side2 => exact HC1_7.out)
      (case side3 => exact (hT.below (by repeat (first | (with_reducible first | exact HB.out | apply below_alloc | apply pw_below_drewN | apply below_drew1 | refine below_set ?_ GE204.out) | exact HB.out))))
      rintro e w14 ⟨rfl, hb⟩
      refine ⟨_, rfl, ?_⟩
      have n0_ := Aside0.mk (blk_below (g := gb204) (o := .cells #[.int .i64 a1_0, .int .i64 a1_1, .int .i64 a1_2, .int .i64 a1_3, .int .i64 a1_4, .int .i64 a1_5, .string a1_6, .slice A1_7 l1_7.length c1_7, .int .i64 a1_8, .int .i64 a1_9, .int .i64 a1_10] 31 (0, 0)) (by (with_reducible repeat (first | refine blk_drewN ?_ _ | refine blk_drew ?_ | refine blk_alloc ?_ _)); exact BK204.out) hb)
      have n1_ := Aside0.mk (below_step (by repeat (first | (with_reducible first | exact HB.out | apply below_alloc | apply pw_below_drewN | apply below_drew1 | refine below_set ?_ GE204.out) | exact HB.out)) hb)
      clear BK204
      clear HB
      have BK204 := n0_
      have HB := n1_
      clear n0_ n1_
      (try clear hb)
      (try clear hb2)
      (try clear hk)
      (try clear hi)
      refine hK.out _ _ ⟨bc BK204 0, bc BK204 1, bc BK204 2, bc BK204 3, bc BK204 4, bc BK204 5, bc BK204 6, bc BK204 7, bc BK204 8, bc BK204 9, bc BK204 10⟩ (fun hHeld => ?_)
      clear hK K
      refine nm (h := ?_)
      refine pu HT_ 2 8 7 (h := ?_)
      refine pu HT_ 3 9 15 (h := ?_)
      refine pu HT_ 4 10 31 (h := ?_)
      refine pu HT_ 6 12 95 (h := ?_)
      refine pu HT_ 7 13 223 (h := ?_)
      refine tk HT_ HW_ hHeld 5 11 255 (h := ?_)
      refine tk HT_ HW_ hHeld 8 14 511 (h := ?_)
      refine on HT_ 9 (some 15) 1023 (h := fun K hK => ?_)
      refine goes_ Tryd.func84 (by kernel_rfl) rfl #[.slice A0 l0.length c0, .int .i64 a1_0] (by rfl) rfl rfl (by (try simp only [List.map_toArray, List.map_cons, List.map_nil]); first | done | rfl | (simp only [List.length_drop, List.length_take]; rfl)) ?_
      with_reducible refine (lectionaryref4_Many.calls k _ _ l0 a1_0 t206 _ ?side1 ?side2 A7.out).mono ?_
      (case side1 => repeat (first | exact (Kd.C_below HR0.out HB.out) | (with_reducible refine Kd.C_alloc ?_ _) | (with_reducible refine Kd.C_drewN ?_ _) | (with_reducible refine Kd.C_drew ?_)))
      (case side2 => exact HC0.out)
      rintro e w' ⟨rfl, ⟨nd, rfl⟩⟩
      refine ⟨_, rfl, ?_⟩
      refine hK.out _ _ ⟨bc BK204 0, bc BK204 1, bc BK204 2, bc BK204 3, bc BK204 4, bc BK204 5, bc BK204 6, bc BK204 7, bc BK204 8, bc BK204 9, bc BK204 10⟩ (fun hHeld => ?_)
      clear hK K
      refine nm (h := ?_)
      refine pu HT_ 10 16 2047 (h := ?_)
      refine pu HT_ 11 17 4095 (h := ?_)
      refine pu HT_ 12 18 8191 (h := ?_)
      refine pu HT_ 13 19 16383 (h := ?_)
      refine off HT_ 14 20 32767 (h := ?_)
      refine off HT_ 15 21 65535 (h := ?_)
      refine off HT_ 16 22 131071 (h := ?_)
      refine off HT_ 17 23 262143 (h := ?_)
      refine off HT_ 18 24 524287 (h := ?_)
      refine pu HT_ 19 25 1048575 (h := ?_)
      refine dn HT_ (h := ?_)
      try go_wp2
      go_meet
      case rel => exact ⟨_, (true), (by first | rfl | (simp; done) | (simp [*]; done)), H', ⟨by first | omega | exact Nat.le_refl _⟩, ⟨by (with_reducible repeat (first | refine blk_drewN ?_ _ | refine blk_drew ?_ | refine blk_alloc ?_ _)); exact BK204.out⟩, ⟨by repeat (first | (with_reducible first | exact HB.out | apply below_alloc | apply pw_below_drewN | apply below_drew1 | refine below_set ?_ GE204.out) | exact HB.out)⟩⟩
    replace c6 := Bool.eq_false_iff.mpr c6
    subst c6
    have H1 : (lectionaryref4_Goes.j0 k l0 true a1_0 a1_1 a1_2 a1_3 a1_4 a1_5 a1_6 l1_7 a1_8 a1_9 a1_10) = some r := by rw [if_neg (show ¬ (false = true) by decide)] at H; exact H
    clear H
    have H := H1
    clear H1
    have H' := Aside0.mk H
    clear H
    try go_wp2
    have n0_ := Aside0.mk (blk_drew BK204.out)
    have n1_ := Aside0.mk (below_drew1 HB.out)
    clear BK204
    clear HB
    have BK204 := n0_
    have HB := n1_
    clear n0_ n1_
    refine stP (fun w' => w'.cell? ⟨gb204, 0, none⟩ = some (.int .i64 a1_0) ∧ w'.cell? ⟨gb204, 1, none⟩ = some (.int .i64 a1_1) ∧ w'.cell? ⟨gb204, 2, none⟩ = some (.int .i64 a1_2) ∧ w'.cell? ⟨gb204, 3, none⟩ = some (.int .i64 a1_3) ∧ w'.cell? ⟨gb204, 4, none⟩ = some (.int .i64 a1_4) ∧ w'.cell? ⟨gb204, 5, none⟩ = some (.int .i64 a1_5) ∧ w'.cell? ⟨gb204, 6, none⟩ = some (.string a1_6) ∧ w'.cell? ⟨gb204, 7, none⟩ = some (.slice A1_7 l1_7.length c1_7) ∧ w'.cell? ⟨gb204, 8, none⟩ = some (.int .i64 a1_8) ∧ w'.cell? ⟨gb204, 9, none⟩ = some (.int .i64 a1_9) ∧ w'.cell? ⟨gb204, 10, none⟩ = some (.int .i64 a1_10)) 20 ⟨bc BK204 0, bc BK204 1, bc BK204 2, bc BK204 3, bc BK204 4, bc BK204 5, bc BK204 6, bc BK204 7, bc BK204 8, bc BK204 9, bc BK204 10⟩ (h := fun hHeld => ?_); refine with_tabW lectionaryref4_Goes.tab1 lectionaryref4_Goes.bits1 (fun HT_ HW_ => ?_)
    generalize w4.drew = w15 at BK204 HB hHeld ⊢
    refine tk HT_ HW_ hHeld 0 6 1 (h := ?_)
    refine on HT_ 1 (some 7) 3 (h := fun K hK => ?_)
    refine goes_ Tryd.func57 (by kernel_rfl) rfl #[.agg #[.int .i64 a1_0, .int .i64 a1_1, .int .i64 a1_2, .int .i64 a1_3, .int .i64 a1_4, .int .i64 a1_5, .string a1_6, .slice A1_7 l1_7.length c1_7, .int .i64 a1_8, .int .i64 a1_9, .int .i64 a1_10]] (by rfl) rfl rfl (by (try simp only [List.map_toArray, List.map_cons, List.map_nil]); first | done | rfl | (simp only [List.length_drop, List.length_take]; rfl)) ?_
    with_reducible refine (lectionaryref4_Op.calls k a1_0 a1_1 a1_2 a1_3 a1_4 a1_5 a1_6 _ _ l1_7 a1_8 a1_9 a1_10 false _ ?side1 ?side2 ?side3 A5.out).mono ?_
    (case side1 => repeat (first | exact (Kd.C_below HR1_7.out HB.out) | (with_reducible refine Kd.C_alloc ?_ _) | (with_reducible refine Kd.C_drewN ?_ _) | (with_reducible refine Kd.C_drew ?_)))
    (case side2 => exact HC1_7.out)
    (case side3 => exact (hT.below (by repeat (first | (with_reducible first | exact HB.out | apply below_alloc | apply pw_below_drewN | apply below_drew1 | refine below_set ?_ GE204.out) | exact HB.out))))
    rintro e w16 ⟨rfl, hb⟩
    refine ⟨_, rfl, ?_⟩
    have n0_ := Aside0.mk (blk_below (g := gb204) (o := .cells #[.int .i64 a1_0, .int .i64 a1_1, .int .i64 a1_2, .int .i64 a1_3, .int .i64 a1_4, .int .i64 a1_5, .string a1_6, .slice A1_7 l1_7.length c1_7, .int .i64 a1_8, .int .i64 a1_9, .int .i64 a1_10] 31 (0, 0)) (by (with_reducible repeat (first | refine blk_drewN ?_ _ | refine blk_drew ?_ | refine blk_alloc ?_ _)); exact BK204.out) hb)
    have n1_ := Aside0.mk (below_step (by repeat (first | (with_reducible first | exact HB.out | apply below_alloc | apply pw_below_drewN | apply below_drew1 | refine below_set ?_ GE204.out) | exact HB.out)) hb)
    clear BK204
    clear HB
    have BK204 := n0_
    have HB := n1_
    clear n0_ n1_
    (try clear hb)
    (try clear hb2)
    (try clear hk)
    (try clear hi)
    refine hK.out _ _ ⟨bc BK204 0, bc BK204 1, bc BK204 2, bc BK204 3, bc BK204 4, bc BK204 5, bc BK204 6, bc BK204 7, bc BK204 8, bc BK204 9, bc BK204 10⟩ (fun hHeld => ?_)
    clear hK K
    refine nm (h := ?_)
    refine pu HT_ 2 8 7 (h := ?_)
    refine pu HT_ 3 9 15 (h := ?_)
    refine off HT_ 4 10 31 (h := ?_)
    refine off HT_ 5 11 63 (h := ?_)
    refine off HT_ 6 12 127 (h := ?_)
    refine off HT_ 7 13 255 (h := ?_)
    refine off HT_ 8 14 511 (h := ?_)
    refine off HT_ 9 15 1023 (h := ?_)
    refine off HT_ 10 16 2047 (h := ?_)
    refine off HT_ 11 17 4095 (h := ?_)
    refine pu HT_ 12 18 8191 (h := ?_)
    refine pu HT_ 13 19 16383 (h := ?_)
    refine off HT_ 14 20 32767 (h := ?_)
    refine off HT_ 15 21 65535 (h := ?_)
    refine off HT_ 16 22 131071 (h := ?_)
    refine off HT_ 17 23 262143 (h := ?_)
    refine off HT_ 18 24 524287 (h := ?_)
    refine pu HT_ 19 25 1048575 (h := ?_)
    refine dn HT_ (h := ?_)
    try go_wp2
    go_meet
    case rel => exact ⟨_, (true), (by first | rfl | (simp; done) | (simp [*]; done)), H', ⟨by first | omega | exact Nat.le_refl _⟩, ⟨by (with_reducible repeat (first | refine blk_drewN ?_ _ | refine blk_drew ?_ | refine blk_alloc ?_ _)); exact BK204.out⟩, ⟨by repeat (first | (with_reducible first | exact HB.out | apply below_alloc | apply pw_below_drewN | apply below_drew1 | refine below_set ?_ GE204.out) | exact HB.out)⟩⟩
  case rest =>
    clear HC3
    obtain ⟨kq, x25_2, rfl, HA, HJ2, BK204, HB⟩ := hcut
    cases kq with
    | zero => exact absurd HA.out (by simp [lectionaryref4_Goes.j0])
    | succ kj2 =>
      have H := HA.out
      clear HA
      simp only [lectionaryref4_Goes.j0] at H
      by_cases c17 : x25_2 = true
      · subst c17
        have H1 : (some false) = some r := by rw [if_pos rfl] at H; exact H
        clear H
        have H := H1
        clear H1
        obtain rfl := Option.some.inj H
        go_wp2
        go_ret
        exact ⟨by first | rfl | (simp [errW_none, errW_some] <;> rfl) | (simp [*, errW_none, errW_some] <;> rfl), by repeat (first | (with_reducible first | exact HB.out | apply below_alloc | apply pw_below_drewN | apply below_drew1 | refine below_set ?_ GE204.out) | exact HB.out)⟩
      replace c17 := Bool.eq_false_iff.mpr c17
      subst c17
      have H1 : (lectionaryref4_Goes.l0 kj2 l0 0 a1_0 a1_1 a1_2 a1_3 a1_4 a1_5 a1_6 l1_7 a1_8 a1_9 a1_10) = some r := by rw [if_neg (show ¬ (false = true) by decide)] at H; exact H
      clear H
      have H := H1
      clear H1
      have H' := Aside0.mk H
      clear H
      go_wp2
      go_loopg [5] kj2 (fun kq v5 w' => ∃ (x5_2 : Int), v5 = .int .i64 x5_2 ∧ Aside0 (lectionaryref4_Goes.l0 kq l0 x5_2 a1_0 a1_1 a1_2 a1_3 a1_4 a1_5 a1_6 l1_7 a1_8 a1_9 a1_10 = some r) ∧ Aside0 (kq ≤ kj2) ∧ Aside0 (w'.heap[gb204]? = some (.cells #[.int .i64 a1_0, .int .i64 a1_1, .int .i64 a1_2, .int .i64 a1_3, .int .i64 a1_4, .int .i64 a1_5, .string a1_6, (.slice A1_7 l1_7.length c1_7), .int .i64 a1_8, .int .i64 a1_9, .int .i64 a1_10] 31 (0, 0))) ∧ Aside0 (Below w.heap.size w w'))
      case atStart => exact ⟨(0), (by first | rfl | (simp; done) | (simp [*]; done)), H', ⟨Nat.le_refl _⟩, ⟨by (with_reducible repeat (first | refine blk_drewN ?_ _ | refine blk_drew ?_ | refine blk_alloc ?_ _)); exact BK204.out⟩, ⟨by repeat (first | (with_reducible first | exact HB.out | apply below_alloc | apply pw_below_drewN | apply below_drew1 | refine below_set ?_ GE204.out) | exact HB.out)⟩⟩
      case round =>
        clear H'
        try clear c17
        obtain ⟨x5_2, rfl, HA, HK2, BK204, HB⟩ := hrel
        cases gk with
        | zero => exact absurd HA.out (by simp [lectionaryref4_Goes.l0])
        | succ k2 =>
          have H := HA.out
          clear HA
          simp only [lectionaryref4_Goes.l0] at H
          by_cases c18 : x5_2 < (l1_7.length : Int)
          · rw [if_pos c18] at H
            have c18b0 : decide (x5_2 < (l1_7.length : Int)) = true := decide_eq_true c18
            clear c18
            by_cases c19 : 0 ≤ x5_2
            · rw [if_pos c19] at H
              have c19b0 : decide (0 ≤ x5_2) = true := decide_eq_true c19
              clear c19
              replace H := Option.bind_eq_some_iff.mp H
              obtain ⟨t209, A200, H⟩ := H
              replace H : (if t209 = true then (lectionaryref4_Goes.l0 k2 l0 (wrap64 (x5_2 + 1)) a1_0 a1_1 a1_2 a1_3 a1_4 a1_5 a1_6 l1_7 a1_8 a1_9 a1_10) else (some false)) = some r := H
              have A20 := Aside0.mk A200
              clear A200
              by_cases c21 : t209 = true
              · subst c21
                have H1 : (lectionaryref4_Goes.l0 k2 l0 (wrap64 (x5_2 + 1)) a1_0 a1_1 a1_2 a1_3 a1_4 a1_5 a1_6 l1_7 a1_8 a1_9 a1_10) = some r := by rw [if_pos rfl] at H; exact H
                clear H
                have H := H1
                clear H1
                have H' := Aside0.mk H
                clear H
                have hcz22_0 : wr.cell? ⟨gb204, 0, none⟩ = some (.int .i64 a1_0) := bc BK204 0
                have hcz22_1 : wr.cell? ⟨gb204, 1, none⟩ = some (.int .i64 a1_1) := bc BK204 1
                have hcz22_2 : wr.cell? ⟨gb204, 2, none⟩ = some (.int .i64 a1_2) := bc BK204 2
                have hcz22_3 : wr.cell? ⟨gb204, 3, none⟩ = some (.int .i64 a1_3) := bc BK204 3
                have hcz22_4 : wr.cell? ⟨gb204, 4, none⟩ = some (.int .i64 a1_4) := bc BK204 4
                have hcz22_5 : wr.cell? ⟨gb204, 5, none⟩ = some (.int .i64 a1_5) := bc BK204 5
                have hcz22_6 : wr.cell? ⟨gb204, 6, none⟩ = some (.string a1_6) := bc BK204 6
                have hcz22_7 : wr.cell? ⟨gb204, 7, none⟩ = some (.slice A1_7 l1_7.length c1_7) := bc BK204 7
                have hcz22_8 : wr.cell? ⟨gb204, 8, none⟩ = some (.int .i64 a1_8) := bc BK204 8
                have hcz22_9 : wr.cell? ⟨gb204, 9, none⟩ = some (.int .i64 a1_9) := bc BK204 9
                have hcz22_10 : wr.cell? ⟨gb204, 10, none⟩ = some (.int .i64 a1_10) := bc BK204 10
                have hfz22_0 := bf BK204 0
                have hfz22_1 := bf BK204 1
                have hfz22_2 := bf BK204 2
                have hfz22_3 := bf BK204 3
                have hfz22_4 := bf BK204 4
                have hfz22_5 := bf BK204 5
                have hfz22_6 := bf BK204 6
                have hfz22_7 := bf BK204 7
                have hfz22_8 := bf BK204 8
                have hfz22_9 := bf BK204 9
                have hfz22_10 := bf BK204 10
                have p208 : 0 ≤ (x5_2 : Int) := of_decide_eq_true (by first | (with_reducible assumption) | assumption)
                have q208 : x5_2 < (l1_7.length : Int) := of_decide_eq_true (by first | (with_reducible assumption) | assumption)
                obtain ⟨ad208, e208, hx208_0, hx208_1, hx208_2⟩ := at_Elem HR1_7.out x5_2 p208 q208
                cases e208
                replace hx208_0 := cl HB hx208_0
                replace hx208_1 := cl HB hx208_1
                replace hx208_2 := cl HB hx208_2
                replace p208 := eq_true p208
                replace q208 := eq_true q208
                go_wp2_with (first | ((with_reducible refine gate_callee (f := 82) rfl ?_); refine goesL_ (some 39) rfl rfl Tryd.func82 (by kernel_rfl) rfl #[.slice A0 l0.length c0, .agg #[.int .i64 ((rd_Elem l1_7 x5_2).f0), .int .i64 ((rd_Elem l1_7 x5_2).f1), .int .i64 ((rd_Elem l1_7 x5_2).f2)]] rfl (by (try simp only [List.map_toArray, List.map_cons, List.map_nil]); first | done | rfl | (simp only [List.length_drop, List.length_take]; rfl)) ?_; (with_reducible refine (lectionaryref4_written.calls k2 _ _ l0 ((rd_Elem l1_7 x5_2).f0) ((rd_Elem l1_7 x5_2).f1) ((rd_Elem l1_7 x5_2).f2) true _ ?side1 ?side2 ?side3 A20.out).mono ?_); (case side1 => repeat (first | exact (Kd.C_below HR0.out HB.out) | (with_reducible refine Kd.C_alloc ?_ _) | (with_reducible refine Kd.C_drewN ?_ _) | (with_reducible refine Kd.C_drew ?_))); (case side2 => exact HC0.out); (case side3 => exact (hT.below (by repeat (first | (with_reducible first | exact HB.out | apply below_alloc | apply pw_below_drewN | apply below_drew1 | refine below_set ?_ GE204.out) | exact HB.out)))); rintro e w23 ⟨rfl, hb⟩; refine ⟨_, rfl, ?_⟩; have n0_ := Aside0.mk (blk_below (g := gb204) (o := .cells #[.int .i64 a1_0, .int .i64 a1_1, .int .i64 a1_2, .int .i64 a1_3, .int .i64 a1_4, .int .i64 a1_5, .string a1_6, .slice (some ad208) l1_7.length c1_7, .int .i64 a1_8, .int .i64 a1_9, .int .i64 a1_10] 31 (0, 0)) (by (with_reducible repeat (first | refine blk_drewN ?_ _ | refine blk_drew ?_ | refine blk_alloc ?_ _)); exact BK204.out) hb); have n1_ := Aside0.mk (below_step (by repeat (first | (with_reducible first | exact HB.out | apply below_alloc | apply pw_below_drewN | apply below_drew1 | refine below_set ?_ GE204.out) | exact HB.out)) hb); clear BK204; clear HB; have BK204 := n0_; have HB := n1_; clear n0_ n1_; (try clear hb); (try clear hb2); (try clear hk); (try clear hi)))
                go_roundg k2
                case measure => have := HJ2.out; have := HK2.out; omega
                case rel => exact ⟨(wrap64 (x5_2 + 1)), (by first | rfl | (simp; done) | (simp [*]; done)), H', ⟨by have := HJ2.out; have := HK2.out; omega⟩, ⟨by (with_reducible repeat (first | refine blk_drewN ?_ _ | refine blk_drew ?_ | refine blk_alloc ?_ _)); exact BK204.out⟩, ⟨by repeat (first | (with_reducible first | exact HB.out | apply below_alloc | apply pw_below_drewN | apply below_drew1 | refine below_set ?_ GE204.out) | exact HB.out)⟩⟩
              replace c21 := Bool.eq_false_iff.mpr c21
              subst c21
              have H1 : (some false) = some r := by rw [if_neg (show ¬ (false = true) by decide)] at H; exact H
              clear H
              have H := H1
              clear H1
              obtain rfl := Option.some.inj H
              have hcz24_0 : wr.cell? ⟨gb204, 0, none⟩ = some (.int .i64 a1_0) := bc BK204 0
              have hcz24_1 : wr.cell? ⟨gb204, 1, none⟩ = some (.int .i64 a1_1) := bc BK204 1
              have hcz24_2 : wr.cell? ⟨gb204, 2, none⟩ = some (.int .i64 a1_2) := bc BK204 2
              have hcz24_3 : wr.cell? ⟨gb204, 3, none⟩ = some (.int .i64 a1_3) := bc BK204 3
              have hcz24_4 : wr.cell? ⟨gb204, 4, none⟩ = some (.int .i64 a1_4) := bc BK204 4
              have hcz24_5 : wr.cell? ⟨gb204, 5, none⟩ = some (.int .i64 a1_5) := bc BK204 5
              have hcz24_6 : wr.cell? ⟨gb204, 6, none⟩ = some (.string a1_6) := bc BK204 6
              have hcz24_7 : wr.cell? ⟨gb204, 7, none⟩ = some (.slice A1_7 l1_7.length c1_7) := bc BK204 7
              have hcz24_8 : wr.cell? ⟨gb204, 8, none⟩ = some (.int .i64 a1_8) := bc BK204 8
              have hcz24_9 : wr.cell? ⟨gb204, 9, none⟩ = some (.int .i64 a1_9) := bc BK204 9
              have hcz24_10 : wr.cell? ⟨gb204, 10, none⟩ = some (.int .i64 a1_10) := bc BK204 10
              have hfz24_0 := bf BK204 0
              have hfz24_1 := bf BK204 1
              have hfz24_2 := bf BK204 2
              have hfz24_3 := bf BK204 3
              have hfz24_4 := bf BK204 4
              have hfz24_5 := bf BK204 5
              have hfz24_6 := bf BK204 6
              have hfz24_7 := bf BK204 7
              have hfz24_8 := bf BK204 8
              have hfz24_9 := bf BK204 9
              have hfz24_10 := bf BK204 10
              have p208 : 0 ≤ (x5_2 : Int) := of_decide_eq_true (by first | (with_reducible assumption) | assumption)
              have q208 : x5_2 < (l1_7.length : Int) := of_decide_eq_true (by first | (with_reducible assumption) | assumption)
              obtain ⟨ad208, e208, hx208_0, hx208_1, hx208_2⟩ := at_Elem HR1_7.out x5_2 p208 q208
              cases e208
              replace hx208_0 := cl HB hx208_0
              replace hx208_1 := cl HB hx208_1
              replace hx208_2 := cl HB hx208_2
              replace p208 := eq_true p208
              replace q208 := eq_true q208
              go_wp2_with (first | ((with_reducible refine gate_callee (f := 82) rfl ?_); refine goesL_ (some 39) rfl rfl Tryd.func82 (by kernel_rfl) rfl #[.slice A0 l0.length c0, .agg #[.int .i64 ((rd_Elem l1_7 x5_2).f0), .int .i64 ((rd_Elem l1_7 x5_2).f1), .int .i64 ((rd_Elem l1_7 x5_2).f2)]] rfl (by (try simp only [List.map_toArray, List.map_cons, List.map_nil]); first | done | rfl | (simp only [List.length_drop, List.length_take]; rfl)) ?_; (with_reducible refine (lectionaryref4_written.calls k2 _ _ l0 ((rd_Elem l1_7 x5_2).f0) ((rd_Elem l1_7 x5_2).f1) ((rd_Elem l1_7 x5_2).f2) false _ ?side1 ?side2 ?side3 A20.out).mono ?_); (case side1 => repeat (first | exact (Kd.C_below HR0.out HB.out) | (with_reducible refine Kd.C_alloc ?_ _) | (with_reducible refine Kd.C_drewN ?_ _) | (with_reducible refine Kd.C_drew ?_))); (case side2 => exact HC0.out); (case side3 => exact (hT.below (by repeat (first | (with_reducible first | exact HB.out | apply below_alloc | apply pw_below_drewN | apply below_drew1 | refine below_set ?_ GE204.out) | exact HB.out)))); rintro e w25 ⟨rfl, hb⟩; refine ⟨_, rfl, ?_⟩; have n0_ := Aside0.mk (blk_below (g := gb204) (o := .cells #[.int .i64 a1_0, .int .i64 a1_1, .int .i64 a1_2, .int .i64 a1_3, .int .i64 a1_4, .int .i64 a1_5, .string a1_6, .slice (some ad208) l1_7.length c1_7, .int .i64 a1_8, .int .i64 a1_9, .int .i64 a1_10] 31 (0, 0)) (by (with_reducible repeat (first | refine blk_drewN ?_ _ | refine blk_drew ?_ | refine blk_alloc ?_ _)); exact BK204.out) hb); have n1_ := Aside0.mk (below_step (by repeat (first | (with_reducible first | exact HB.out | apply below_alloc | apply pw_below_drewN | apply below_drew1 | refine below_set ?_ GE204.out) | exact HB.out)) hb); clear BK204; clear HB; have BK204 := n0_; have HB := n1_; clear n0_ n1_; (try clear hb); (try clear hb2); (try clear hk); (try clear hi)))
              go_ret
              exact ⟨by first | rfl | (simp [errW_none, errW_some] <;> rfl) | (simp [*, errW_none, errW_some] <;> rfl), by repeat (first | (with_reducible first | exact HB.out | apply below_alloc | apply pw_below_drewN | apply below_drew1 | refine below_set ?_ GE204.out) | exact HB.out)⟩
            rw [if_neg c19] at H
            exact absurd H (by simp)
          rw [if_neg c18] at H
          have c18b0 : decide (x5_2 < (l1_7.length : Int)) = false := decide_eq_false c18
          clear c18
          by_cases c26 : a1_2 = 1
          · rw [if_pos c26] at H
            have c26b0 : (a1_2 == 1) = true := beq_iff_eq.mpr c26
            have c26b1 : (a1_2 != 1) = false := bne_eq_false_iff_eq.mpr c26
            clear c26
            obtain rfl := Option.some.inj H
            have hcz27_0 : wr.cell? ⟨gb204, 0, none⟩ = some (.int .i64 a1_0) := bc BK204 0
            have hcz27_1 : wr.cell? ⟨gb204, 1, none⟩ = some (.int .i64 a1_1) := bc BK204 1
            have hcz27_2 : wr.cell? ⟨gb204, 2, none⟩ = some (.int .i64 a1_2) := bc BK204 2
            have hcz27_3 : wr.cell? ⟨gb204, 3, none⟩ = some (.int .i64 a1_3) := bc BK204 3
            have hcz27_4 : wr.cell? ⟨gb204, 4, none⟩ = some (.int .i64 a1_4) := bc BK204 4
            have hcz27_5 : wr.cell? ⟨gb204, 5, none⟩ = some (.int .i64 a1_5) := bc BK204 5
            have hcz27_6 : wr.cell? ⟨gb204, 6, none⟩ = some (.string a1_6) := bc BK204 6
            have hcz27_7 : wr.cell? ⟨gb204, 7, none⟩ = some (.slice A1_7 l1_7.length c1_7) := bc BK204 7
            have hcz27_8 : wr.cell? ⟨gb204, 8, none⟩ = some (.int .i64 a1_8) := bc BK204 8
            have hcz27_9 : wr.cell? ⟨gb204, 9, none⟩ = some (.int .i64 a1_9) := bc BK204 9
            have hcz27_10 : wr.cell? ⟨gb204, 10, none⟩ = some (.int .i64 a1_10) := bc BK204 10
            have hfz27_0 := bf BK204 0
            have hfz27_1 := bf BK204 1
            have hfz27_2 := bf BK204 2
            have hfz27_3 := bf BK204 3
            have hfz27_4 := bf BK204 4
            have hfz27_5 := bf BK204 5
            have hfz27_6 := bf BK204 6
            have hfz27_7 := bf BK204 7
            have hfz27_8 := bf BK204 8
            have hfz27_9 := bf BK204 9
            have hfz27_10 := bf BK204 10
            go_wp2
            go_ret
            exact ⟨by first | rfl | (simp [errW_none, errW_some] <;> rfl) | (simp [*, errW_none, errW_some] <;> rfl), by repeat (first | (with_reducible first | exact HB.out | apply below_alloc | apply pw_below_drewN | apply below_drew1 | refine below_set ?_ GE204.out) | exact HB.out)⟩
          rw [if_neg c26] at H
          have c26b0 : (a1_2 == 1) = false := beq_eq_false_iff_ne.mpr c26
          have c26b1 : (a1_2 != 1) = true := bne_iff_ne.mpr c26
          replace H := Option.bind_eq_some_iff.mp H
          obtain ⟨t210, A280, H⟩ := H
          replace H : (some t210) = some r := H
          have A28 := Aside0.mk A280
          clear A280
          obtain rfl := Option.some.inj H
          have hcz29_0 : wr.cell? ⟨gb204, 0, none⟩ = some (.int .i64 a1_0) := bc BK204 0
          have hcz29_1 : wr.cell? ⟨gb204, 1, none⟩ = some (.int .i64 a1_1) := bc BK204 1
          have hcz29_2 : wr.cell? ⟨gb204, 2, none⟩ = some (.int .i64 a1_2) := bc BK204 2
          have hcz29_3 : wr.cell? ⟨gb204, 3, none⟩ = some (.int .i64 a1_3) := bc BK204 3
          have hcz29_4 : wr.cell? ⟨gb204, 4, none⟩ = some (.int .i64 a1_4) := bc BK204 4
          have hcz29_5 : wr.cell? ⟨gb204, 5, none⟩ = some (.int .i64 a1_5) := bc BK204 5
          have hcz29_6 : wr.cell? ⟨gb204, 6, none⟩ = some (.string a1_6) := bc BK204 6
          have hcz29_7 : wr.cell? ⟨gb204, 7, none⟩ = some (.slice A1_7 l1_7.length c1_7) := bc BK204 7
          have hcz29_8 : wr.cell? ⟨gb204, 8, none⟩ = some (.int .i64 a1_8) := bc BK204 8
          have hcz29_9 : wr.cell? ⟨gb204, 9, none⟩ = some (.int .i64 a1_9) := bc BK204 9
          have hcz29_10 : wr.cell? ⟨gb204, 10, none⟩ = some (.int .i64 a1_10) := bc BK204 10
          have hfz29_0 := bf BK204 0
          have hfz29_1 := bf BK204 1
          have hfz29_2 := bf BK204 2
          have hfz29_3 := bf BK204 3
          have hfz29_4 := bf BK204 4
          have hfz29_5 := bf BK204 5
          have hfz29_6 := bf BK204 6
          have hfz29_7 := bf BK204 7
          have hfz29_8 := bf BK204 8
          have hfz29_9 := bf BK204 9
          have hfz29_10 := bf BK204 10
          go_wp2_with (first | (go_at_call 96; (with_reducible refine (lectionaryref4_Edit.calls k2 _ _ l0 a1_8 a1_9 t210 _ ?side1 ?side2 A28.out).mono ?_); (case side1 => repeat (first | exact (Kd.C_below HR0.out HB.out) | (with_reducible refine Kd.C_alloc ?_ _) | (with_reducible refine Kd.C_drewN ?_ _) | (with_reducible refine Kd.C_drew ?_))); (case side2 => exact HC0.out); rintro e w' ⟨rfl, ⟨nd, rfl⟩⟩))
          go_ret
          exact ⟨by first | rfl | (simp [errW_none, errW_some] <;> rfl) | (simp [*, errW_none, errW_some] <;> rfl), by repeat (first | (with_reducible first | exact HB.out | apply below_alloc | apply pw_below_drewN | apply below_drew1 | refine below_set ?_ GE204.out) | exact HB.out)⟩
end Go.Proofs.YtdahgnalojekdaaDoor.L
end

section
namespace Go.Proofs.YtdahgnalojekdaaDoor.L
open Go.RowKit Go.Proofs.YtdahgnalojekdaaDoorW.PrintWords Go.Proofs.YtdahgnalojekdaaDoorW.PrintLast Go.Proofs.YtdahgnalojekdaaDoorW.PrintMore
attribute [local go_sem] max2_int min2_int max_two min_two max_three min_three max_four min_four
set_option linter.unusedVariables false
set_option linter.unusedSimpArgs false
def lectionaryref4_Fits.l0 : Nat → List (SOp) → Int → Int → Option (Bool)
  | 0, _, _, _ => none
  | k + 1, x0, x3, x4 => if x4 < (x0.length : Int) then (if x4 ≤ 40 then (if 0 ≤ x4 then ((lectionaryref4_Runes.f k ((rd_Op x0 x4).f0) ((rd_Op x0 x4).f1) ((rd_Op x0 x4).f2) ((rd_Op x0 x4).f3.f0) ((rd_Op x0 x4).f3.f1) ((rd_Op x0 x4).f3.f2) ((rd_Op x0 x4).f4) ((rd_Op x0 x4).f5) ((rd_Op x0 x4).f6) ((rd_Op x0 x4).f7) ((rd_Op x0 x4).f8)).bind fun t212 => (lectionaryref4_Fits.l0 k x0 (wrap64 (x3 + t212)) (wrap64 (x4 + 1)))) else (none)) else (if (x0.length : Int) ≤ 40 then (some (decide (x3 ≤ 200))) else (some false))) else (if (x0.length : Int) ≤ 40 then (some (decide (x3 ≤ 200))) else (some false))
def lectionaryref4_Fits.f (k : Nat) (l0 : List (SOp)) : Option (Bool) := lectionaryref4_Fits.l0 k l0 0 0
set_option maxHeartbeats 8000000 in
set_option maxRecDepth 100000 in
theorem lectionaryref4_Fits.calls (k : Nat) (A0 : Option Addr) (c0 : Nat) (l0 : List (SOp)) (r : Bool) (w : World) (hr0 : Kd.C kOp w A0 l0.length l0) (hc0 : l0.length ≤ c0) (hT : GT w) (h : lectionaryref4_Fits.f k l0 = some r) :
    Calls Tryd.prog 73 #[.slice A0 l0.length c0] w fun e w' => e = .returned (.bool r) ∧ Below w.heap.size w w' := by
  have hu31 := Tryd.underlying31
  have HR0 := Aside0.mk hr0
  have HC0 := Aside0.mk hc0
  clear hr0 hc0
  have HB := Aside0.mk (Below.refl w.heap.size w)
  have H : (lectionaryref4_Fits.l0 k l0 0 0) = some r := h
  clear h
  have H' := Aside0.mk H
  clear H
  go_enter Tryd.func73, Tryd.ntmps73
  go_wp2
  go_loopg [3, 4] k (fun kq v3 v4 w' => ∃ (x3_1 : Int) (x4_1 : Int), v3 = .int .i64 x3_1 ∧ v4 = .int .i64 x4_1 ∧ Aside0 (lectionaryref4_Fits.l0 kq l0 x3_1 x4_1 = some r) ∧ Aside0 (kq ≤ k) ∧ Aside0 (Below w.heap.size w w'))
  case atStart => exact ⟨(0), (0), (by first | rfl | (simp; done) | (simp [*]; done)), (by first | rfl | (simp; done) | (simp [*]; done)), H', ⟨Nat.le_refl _⟩, ⟨by repeat (first | (with_reducible first | exact HB.out | apply below_alloc | apply pw_below_drewN | apply below_drew1) | exact HB.out)⟩⟩
  case round =>
    clear H'
    obtain ⟨x3_1, x4_1, rfl, rfl, HA, HK1, HB⟩ := hrel
    cases gk with
    | zero => exact absurd HA.out (by simp [lectionaryref4_Fits.l0])
    | succ k1 =>
      have H := HA.out
      clear HA
      simp only [lectionaryref4_Fits.l0] at H
      by_cases c2 : x4_1 < (l0.length : Int)
      · rw [if_pos c2] at H
        have c2b0 : decide (x4_1 < (l0.length : Int)) = true := decide_eq_true c2
        clear c2
        by_cases c3 : x4_1 ≤ 40
        · rw [if_pos c3] at H
          have c3b0 : decide (x4_1 ≤ 40) = true := decide_eq_true c3
          clear c3
          by_cases c4 : 0 ≤ x4_1
          · rw [if_pos c4] at H
            have c4b0 : decide (0 ≤ x4_1) = true := decide_eq_true c4
            clear c4
            replace H := Option.bind_eq_some_iff.mp H
            obtain ⟨t212, A50, H⟩ := H
            replace H : (lectionaryref4_Fits.l0 k1 l0 (wrap64 (x3_1 + t212)) (wrap64 (x4_1 + 1))) = some r := H
            have A5 := Aside0.mk A50
            clear A50
            have H' := Aside0.mk H
            clear H
            have p211 : 0 ≤ (x4_1 : Int) := of_decide_eq_true (by first | (with_reducible assumption) | assumption)
            have q211 : x4_1 < (l0.length : Int) := of_decide_eq_true (by first | (with_reducible assumption) | assumption)
            obtain ⟨ad211, A211_7, c211_7, e211, hx211_0, hx211_1, hx211_2, hx211_3, hx211_4, hx211_5, hx211_6, hx211_7, hx211_8, hx211_9, hx211_10, hl211_7, hi211_7⟩ := at_Op HR0.out x4_1 p211 q211
            cases e211
            replace hx211_0 := cl HB hx211_0
            replace hx211_1 := cl HB hx211_1
            replace hx211_2 := cl HB hx211_2
            replace hx211_3 := cl HB hx211_3
            replace hx211_4 := cl HB hx211_4
            replace hx211_5 := cl HB hx211_5
            replace hx211_6 := cl HB hx211_6
            replace hx211_7 := cl HB hx211_7
            replace hx211_8 := cl HB hx211_8
            replace hx211_9 := cl HB hx211_9
            replace hx211_10 := cl HB hx211_10
            have HR211_7 := Aside0.mk hi211_7
            have HC211_7 := Aside0.mk hl211_7
            clear hi211_7 hl211_7
            replace p211 := eq_true p211
            replace q211 := eq_true q211
            go_wp2_with (first | ((with_reducible refine gate_callee (f := 116) rfl ?_); refine goesL_ (some 20) rfl rfl Tryd.func116 (by kernel_rfl) rfl #[.agg #[.int .i64 ((rd_Op l0 x4_1).f0), .int .i64 ((rd_Op l0 x4_1).f1), .int .i64 ((rd_Op l0 x4_1).f2), .int .i64 ((rd_Op l0 x4_1).f3.f0), .int .i64 ((rd_Op l0 x4_1).f3.f1), .int .i64 ((rd_Op l0 x4_1).f3.f2), .string ((rd_Op l0 x4_1).f4), .slice A211_7 ((rd_Op l0 x4_1).f5).length c211_7, .int .i64 ((rd_Op l0 x4_1).f6), .int .i64 ((rd_Op l0 x4_1).f7), .int .i64 ((rd_Op l0 x4_1).f8)]] rfl (by (try simp only [List.map_toArray, List.map_cons, List.map_nil]); first | done | rfl | (simp only [List.length_drop, List.length_take]; rfl)) ?_; (with_reducible refine (lectionaryref4_Runes.calls k1 ((rd_Op l0 x4_1).f0) ((rd_Op l0 x4_1).f1) ((rd_Op l0 x4_1).f2) ((rd_Op l0 x4_1).f3.f0) ((rd_Op l0 x4_1).f3.f1) ((rd_Op l0 x4_1).f3.f2) ((rd_Op l0 x4_1).f4) _ _ ((rd_Op l0 x4_1).f5) ((rd_Op l0 x4_1).f6) ((rd_Op l0 x4_1).f7) ((rd_Op l0 x4_1).f8) t212 _ ?side1 ?side2 ?side3 A5.out).mono ?_); (case side1 => repeat (first | exact (Kd.C_below HR211_7.out HB.out) | (with_reducible refine Kd.C_alloc ?_ _) | (with_reducible refine Kd.C_drewN ?_ _) | (with_reducible refine Kd.C_drew ?_))); (case side2 => exact HC211_7.out); (case side3 => exact (hT.below (by repeat (first | (with_reducible first | exact HB.out | apply below_alloc | apply pw_below_drewN | apply below_drew1) | exact HB.out)))); rintro e w6 ⟨rfl, hb⟩; refine ⟨_, rfl, ?_⟩; have n0_ := Aside0.mk (below_step (by repeat (first | (with_reducible first | exact HB.out | apply below_alloc | apply pw_below_drewN | apply below_drew1) | exact HB.out)) hb); clear HB; have HB := n0_; clear n0_; (try clear hb); (try clear hb2); (try clear hk); (try clear hi)))
            go_roundg k1
            case measure => have := HK1.out; omega
            case rel => exact ⟨(wrap64 (x3_1 + t212)), (wrap64 (x4_1 + 1)), (by first | rfl | (simp; done) | (simp [*]; done)), (by first | rfl | (simp; done) | (simp [*]; done)), H', ⟨by have := HK1.out; omega⟩, ⟨by repeat (first | (with_reducible first | exact HB.out | apply below_alloc | apply pw_below_drewN | apply below_drew1) | exact HB.out)⟩⟩
          rw [if_neg c4] at H
          exact absurd H (by simp)
        rw [if_neg c3] at H
        have c3b0 : decide (x4_1 ≤ 40) = false := decide_eq_false c3
        clear c3
        by_cases c7 : (l0.length : Int) ≤ 40
        · rw [if_pos c7] at H
          have c7b0 : decide ((l0.length : Int) ≤ 40) = true := decide_eq_true c7
          have c7b1 : decide (l0.length ≤ 40) = true := decide_eq_true (by omega)
          clear c7
          obtain rfl := Option.some.inj H
          go_wp2
          go_ret
          exact ⟨by first | rfl | (simp [errW_none, errW_some] <;> rfl) | (simp [*, errW_none, errW_some] <;> rfl), by repeat (first | (with_reducible first | exact HB.out | apply below_alloc | apply pw_below_drewN | apply below_drew1) | exact HB.out)⟩
        rw [if_neg c7] at H
        have c7b0 : decide ((l0.length : Int) ≤ 40) = false := decide_eq_false c7
        have c7b1 : decide (l0.length ≤ 40) = false := decide_eq_false (by omega)
        clear c7
        obtain rfl := Option.some.inj H
        go_wp2
        go_ret
        exact ⟨by first | rfl | (simp [errW_none, errW_some] <;> rfl) | (simp [*, errW_none, errW_some] <;> rfl), by repeat (first | (with_reducible first | exact HB.out | apply below_alloc | apply pw_below_drewN | apply below_drew1) | exact HB.out)⟩
      rw [if_neg c2] at H
      have c2b0 : decide (x4_1 < (l0.length : Int)) = false := decide_eq_false c2
      clear c2
      by_cases c8 : (l0.length : Int) ≤ 40
      · rw [if_pos c8] at H
        have c8b0 : decide ((l0.length : Int) ≤ 40) = true := decide_eq_true c8
        have c8b1 : decide (l0.length ≤ 40) = true := decide_eq_true (by omega)
        clear c8
        obtain rfl := Option.some.inj H
        go_wp2
        go_ret
        exact ⟨by first | rfl | (simp [errW_none, errW_some] <;> rfl) | (simp [*, errW_none, errW_some] <;> rfl), by repeat (first | (with_reducible first | exact HB.out | apply below_alloc | apply pw_below_drewN | apply below_drew1) | exact HB.out)⟩
      rw [if_neg c8] at H
      have c8b0 : decide ((l0.length : Int) ≤ 40) = false := decide_eq_false c8
      have c8b1 : decide (l0.length ≤ 40) = false := decide_eq_false (by omega)
      clear c8
      obtain rfl := Option.some.inj H
      go_wp2
      go_ret
      exact ⟨by first | rfl | (simp [errW_none, errW_some] <;> rfl) | (simp [*, errW_none, errW_some] <;> rfl), by repeat (first | (with_reducible first | exact HB.out | apply below_alloc | apply pw_below_drewN | apply below_drew1) | exact HB.out)⟩
def lectionaryref4_Row.l0 : Nat → List (SOp) → Int → Option (Bool)
  | 0, _, _ => none
  | k + 1, x0, x3 => if x3 < (x0.length : Int) then (if 0 ≤ x3 then (if x3 ≤ (x0.length : Int) then ((lectionaryref4_Goes.f k (x0.take (x3 : Int).toNat) ((rd_Op x0 x3).f0) ((rd_Op x0 x3).f1) ((rd_Op x0 x3).f2) ((rd_Op x0 x3).f3.f0) ((rd_Op x0 x3).f3.f1) ((rd_Op x0 x3).f3.f2) ((rd_Op x0 x3).f4) ((rd_Op x0 x3).f5) ((rd_Op x0 x3).f6) ((rd_Op x0 x3).f7) ((rd_Op x0 x3).f8)).bind fun t218 => (if t218 = true then (lectionaryref4_Row.l0 k x0 (wrap64 (x3 + 1))) else (some false))) else (none)) else (none)) else ((lectionaryref4_Fits.f k x0).bind fun t219 => (some t219))
def lectionaryref4_Row.f (k : Nat) (l0 : List (SOp)) : Option (Bool) := if (l0.length : Int) > 40 then (some false) else (lectionaryref4_Row.l0 k l0 0)
def lectionaryref4_Row.T6 : Bool × List (List Nat × List Nat) := (true, [([], []), ([], []), ([0, 1], [0, 1]), ([], []), ([], []), ([3, 4], [3, 4]), ([5], [5]), ([2, 6], [2, 6]), ([7], [7])])
def lectionaryref4_Row.B6 : List Nat := [0, 0, 3, 0, 0, 24, 56, 127, 255]
theorem lectionaryref4_Row.tab6 : rtab .any (opsOf Tryd.f20 6) = lectionaryref4_Row.T6 := by kernel_rfl
theorem lectionaryref4_Row.bits6 : waitsOk lectionaryref4_Row.T6.2 lectionaryref4_Row.B6 = true := by kernel_rfl
set_option maxHeartbeats 8000000 in
set_option maxRecDepth 100000 in
theorem lectionaryref4_Row.calls (k : Nat) (A0 : Option Addr) (c0 : Nat) (l0 : List (SOp)) (r : Bool) (w : World) (hr0 : Kd.C kOp w A0 l0.length l0) (hc0 : l0.length ≤ c0) (hT : GT w) (h : lectionaryref4_Row.f k l0 = some r) :
    Calls Tryd.prog 20 #[.slice A0 l0.length c0] w fun e w' => e = .returned (.bool r) ∧ Below w.heap.size w w' := by
  have hu31 := Tryd.underlying31
  have HR0 := Aside0.mk hr0
  have HC0 := Aside0.mk hc0
  clear hr0 hc0
  have HB := Aside0.mk (Below.refl w.heap.size w)
  have H : (if (l0.length : Int) > 40 then (some false) else (lectionaryref4_Row.l0 k l0 0)) = some r := h
  clear h
  by_cases c2 : (l0.length : Int) > 40
  · rw [if_pos c2] at H
    have c2b0 : decide (40 < (l0.length : Int)) = true := decide_eq_true c2
    have c2b1 : decide (40 < l0.length) = true := decide_eq_true (by omega)
    clear c2
    obtain rfl := Option.some.inj H
    go_enter Tryd.func20, Tryd.ntmps20
    go_wp2
    go_ret
    exact ⟨by first | rfl | (simp [errW_none, errW_some] <;> rfl) | (simp [*, errW_none, errW_some] <;> rfl), by repeat (first | (with_reducible first | exact HB.out | apply below_alloc | apply pw_below_drewN | apply below_drew1) | exact HB.out)⟩
  rw [if_neg c2] at H
  have c2b0 : decide (40 < (l0.length : Int)) = false := decide_eq_false c2
  have c2b1 : decide (40 < l0.length) = false := decide_eq_false (by omega)
  clear c2
  have H' := Aside0.mk H
  clear H
  go_enter Tryd.func20, Tryd.ntmps20
  go_wp2
  go_loopg [3] k (fun kq v3 w' => ∃ (x3_1 : Int), v3 = .int .i64 x3_1 ∧ Aside0 (lectionaryref4_Row.l0 kq l0 x3_1 = some r) ∧ Aside0 (kq ≤ k) ∧ Aside0 (Below w.heap.size w w'))
  case atStart => exact ⟨(0), (by first | rfl | (simp; done) | (simp [*]; done)), H', ⟨Nat.le_refl _⟩, ⟨by repeat (first | (with_reducible first | exact HB.out | apply below_alloc | apply pw_below_drewN | apply below_drew1) | exact HB.out)⟩⟩
  case round =>
    clear H'
    try clear c2b0; try clear c2b1
    obtain ⟨x3_1, rfl, HA, HK1, HB⟩ := hrel
    cases gk with
    | zero => exact absurd HA.out (by simp [lectionaryref4_Row.l0])
    | succ k1 =>
      have H := HA.out
      clear HA
      simp only [lectionaryref4_Row.l0] at H
      by_cases c3 : x3_1 < (l0.length : Int)
      · rw [if_pos c3] at H
        have c3b0 : decide (x3_1 < (l0.length : Int)) = true := decide_eq_true c3
        clear c3
        by_cases c4 : 0 ≤ x3_1
        · rw [if_pos c4] at H
          have c4b0 := eq_true c4
          have c4b1 : decide (0 ≤ x3_1) = true := decide_eq_true c4
          clear c4
          by_cases c5 : x3_1 ≤ (l0.length : Int)
          · rw [if_pos c5] at H
            have c5b0 := eq_true c5
            have c5b1 : decide (x3_1 ≤ (l0.length : Int)) = true := decide_eq_true c5
            clear c5
            obtain ⟨y213, hy213⟩ : ∃ y_ : List (SOp), y_ = (l0.take (x3_1 : Int).toNat) := ⟨_, rfl⟩
            replace H : ((lectionaryref4_Goes.f k1 y213 ((rd_Op l0 x3_1).f0) ((rd_Op l0 x3_1).f1) ((rd_Op l0 x3_1).f2) ((rd_Op l0 x3_1).f3.f0) ((rd_Op l0 x3_1).f3.f1) ((rd_Op l0 x3_1).f3.f2) ((rd_Op l0 x3_1).f4) ((rd_Op l0 x3_1).f5) ((rd_Op l0 x3_1).f6) ((rd_Op l0 x3_1).f7) ((rd_Op l0 x3_1).f8)).bind fun t218 => (if t218 = true then (lectionaryref4_Row.l0 k1 l0 (wrap64 (x3_1 + 1))) else (some false))) = some r := by first | (rw [hy213]; with_reducible exact H) | (have H2_ := (Option.bind_some _ _).symm.trans H; rw [hy213]; with_reducible exact H2_) | (have H2_ := (Option.bind_some _ _).symm.trans H; with_reducible exact H2_) | with_reducible exact H | (rw [hy213]; exact H) | exact H
            have Ny213 := Aside0.mk hy213
            clear hy213
            replace H := Option.bind_eq_some_iff.mp H
            obtain ⟨t218, A60, H⟩ := H
            replace H : (if t218 = true then (lectionaryref4_Row.l0 k1 l0 (wrap64 (x3_1 + 1))) else (some false)) = some r := H
            have A6 := Aside0.mk A60
            clear A60
            by_cases c7 : t218 = true
            · subst c7
              have H1 : (lectionaryref4_Row.l0 k1 l0 (wrap64 (x3_1 + 1))) = some r := by rw [if_pos rfl] at H; exact H
              clear H
              have H := H1
              clear H1
              have H' := Aside0.mk H
              clear H
              try go_wp2
              have n0_ := Aside0.mk (below_drew1 HB.out)
              clear HB
              have HB := n0_
              clear n0_
              have q9 : (x3_1 : Int) ≤ ((l0.length : Int) : Int) := of_decide_eq_true (by first | (with_reducible assumption) | assumption)
              obtain ⟨i09, hi09, _, hsz9, _⟩ := info_parts info31
              have hroom9 : l0.length ≤ c0 := HC0.out
              have hC9 : Kd.C kOp _ A0 l0.length l0 := HR0.out
              have hcut9 := cut_to (P := Tryd.prog) 24 31 .i64 Tryd.underlying24 hi09 A0 l0.length c0 x3_1 (of_decide_eq_true (by first | (with_reducible assumption) | assumption)) q9 hroom9
              have hr9 := Kd.C_take (m := (x3_1 : Int).toNat) hC9 (by omega)
              have hy9 : y213.length = (x3_1 : Int).toNat := (by rw [Ny213.out, List.length_take]; omega)
              rw [← Ny213.out] at hr9
              rw [← hy9] at hcut9
              have HR216 := Aside0.mk hr9
              have HC216 := Aside0.mk (show y213.length ≤ c0 from by omega)
              clear hr9 hC9 hroom9 hi09 hsz9
              have KY9 := Aside0.mk hy9
              clear hy9
              replace q9 := eq_true q9
              have p217 : 0 ≤ (x3_1 : Int) := of_decide_eq_true (by first | (with_reducible assumption) | assumption)
              have q217 : x3_1 < (l0.length : Int) := of_decide_eq_true (by first | (with_reducible assumption) | assumption)
              obtain ⟨ad217, A217_7, c217_7, e217, hx217_0, hx217_1, hx217_2, hx217_3, hx217_4, hx217_5, hx217_6, hx217_7, hx217_8, hx217_9, hx217_10, hl217_7, hi217_7⟩ := at_Op HR0.out x3_1 p217 q217
              have hw217_10 := hx217_10
              have hw217_9 := hx217_9
              have hw217_8 := hx217_8
              have hw217_7 := hx217_7
              have hw217_6 := hx217_6
              have hw217_5 := hx217_5
              have hw217_4 := hx217_4
              have hw217_3 := hx217_3
              have hw217_2 := hx217_2
              have hw217_1 := hx217_1
              have hw217_0 := hx217_0
              cases e217
              replace hx217_0 := cl HB hx217_0
              replace hx217_1 := cl HB hx217_1
              replace hx217_2 := cl HB hx217_2
              replace hx217_3 := cl HB hx217_3
              replace hx217_4 := cl HB hx217_4
              replace hx217_5 := cl HB hx217_5
              replace hx217_6 := cl HB hx217_6
              replace hx217_7 := cl HB hx217_7
              replace hx217_8 := cl HB hx217_8
              replace hx217_9 := cl HB hx217_9
              replace hx217_10 := cl HB hx217_10
              have HR217_7 := Aside0.mk hi217_7
              have HC217_7 := Aside0.mk hl217_7
              clear hi217_7 hl217_7
              replace p217 := eq_true p217
              replace q217 := eq_true q217
              refine stP (fun w' => w'.cell? (ad217.add ((x3_1).toNat * 11)) = some (.int .i64 ((rd_Op l0 x3_1).f0)) ∧ w'.cell? ⟨(ad217.add ((x3_1).toNat * 11)).block, (ad217.add ((x3_1).toNat * 11)).off + 1, none⟩ = some (.int .i64 ((rd_Op l0 x3_1).f1)) ∧ w'.cell? ⟨(ad217.add ((x3_1).toNat * 11)).block, (ad217.add ((x3_1).toNat * 11)).off + 2, none⟩ = some (.int .i64 ((rd_Op l0 x3_1).f2)) ∧ w'.cell? ⟨(ad217.add ((x3_1).toNat * 11)).block, (ad217.add ((x3_1).toNat * 11)).off + 3, none⟩ = some (.int .i64 ((rd_Op l0 x3_1).f3.f0)) ∧ w'.cell? ⟨(ad217.add ((x3_1).toNat * 11)).block, (ad217.add ((x3_1).toNat * 11)).off + 4, none⟩ = some (.int .i64 ((rd_Op l0 x3_1).f3.f1)) ∧ w'.cell? ⟨(ad217.add ((x3_1).toNat * 11)).block, (ad217.add ((x3_1).toNat * 11)).off + 5, none⟩ = some (.int .i64 ((rd_Op l0 x3_1).f3.f2)) ∧ w'.cell? ⟨(ad217.add ((x3_1).toNat * 11)).block, (ad217.add ((x3_1).toNat * 11)).off + 6, none⟩ = some (.string ((rd_Op l0 x3_1).f4)) ∧ w'.cell? ⟨(ad217.add ((x3_1).toNat * 11)).block, (ad217.add ((x3_1).toNat * 11)).off + 7, none⟩ = some (.slice A217_7 ((rd_Op l0 x3_1).f5).length c217_7) ∧ w'.cell? ⟨(ad217.add ((x3_1).toNat * 11)).block, (ad217.add ((x3_1).toNat * 11)).off + 8, none⟩ = some (.int .i64 ((rd_Op l0 x3_1).f6)) ∧ w'.cell? ⟨(ad217.add ((x3_1).toNat * 11)).block, (ad217.add ((x3_1).toNat * 11)).off + 9, none⟩ = some (.int .i64 ((rd_Op l0 x3_1).f7)) ∧ w'.cell? ⟨(ad217.add ((x3_1).toNat * 11)).block, (ad217.add ((x3_1).toNat * 11)).off + 10, none⟩ = some (.int .i64 ((rd_Op l0 x3_1).f8))) 9 ⟨(cl HB hw217_0), (cl HB hw217_1), (cl HB hw217_2), (cl HB hw217_3), (cl HB hw217_4), (cl HB hw217_5), (cl HB hw217_6), (cl HB hw217_7), (cl HB hw217_8), (cl HB hw217_9), (cl HB hw217_10)⟩ (h := fun hHeld => ?_); refine with_tabW lectionaryref4_Row.tab6 lectionaryref4_Row.bits6 (fun HT_ HW_ => ?_)
              generalize wr.drew = w8 at HB HR216 HR217_7 hx217_0 hx217_1 hx217_10 hx217_2 hx217_3 hx217_4 hx217_5 hx217_6 hx217_7 hx217_8 hx217_9 hHeld ⊢
              refine pu HT_ 0 13 1 (h := ?_)
              refine pu HT_ 1 14 3 (h := ?_)
              refine pu HT_ 2 15 7 (h := ?_)
              refine pu HT_ 3 16 15 (h := ?_)
              refine pu HT_ 4 17 31 (h := ?_)
              refine pu HT_ 5 18 63 (h := ?_)
              refine tk HT_ HW_ hHeld 6 19 127 (h := ?_)
              refine on HT_ 7 (some 20) 255 (h := fun K hK => ?_)
              refine goes_ Tryd.func72 (by kernel_rfl) rfl #[.slice (some ad217) y213.length c0, .agg #[.int .i64 ((rd_Op l0 x3_1).f0), .int .i64 ((rd_Op l0 x3_1).f1), .int .i64 ((rd_Op l0 x3_1).f2), .int .i64 ((rd_Op l0 x3_1).f3.f0), .int .i64 ((rd_Op l0 x3_1).f3.f1), .int .i64 ((rd_Op l0 x3_1).f3.f2), .string ((rd_Op l0 x3_1).f4), .slice A217_7 ((rd_Op l0 x3_1).f5).length c217_7, .int .i64 ((rd_Op l0 x3_1).f6), .int .i64 ((rd_Op l0 x3_1).f7), .int .i64 ((rd_Op l0 x3_1).f8)]] (by rfl) rfl rfl (by (try simp only [List.map_toArray, List.map_cons, List.map_nil]); first | done | rfl | (simp only [List.length_drop, List.length_take]; rfl)) ?_
              with_reducible refine (lectionaryref4_Goes.calls k1 _ _ y213 ((rd_Op l0 x3_1).f0) ((rd_Op l0 x3_1).f1) ((rd_Op l0 x3_1).f2) ((rd_Op l0 x3_1).f3.f0) ((rd_Op l0 x3_1).f3.f1) ((rd_Op l0 x3_1).f3.f2) ((rd_Op l0 x3_1).f4) _ _ ((rd_Op l0 x3_1).f5) ((rd_Op l0 x3_1).f6) ((rd_Op l0 x3_1).f7) ((rd_Op l0 x3_1).f8) true _ ?side1 ?side2 ?side3 ?side4 ?side5 A6.out).mono ?_
              (case side1 => repeat (first | exact (Kd.C_below HR216.out HB.out) | (with_reducible refine Kd.C_alloc ?_ _) | (with_reducible refine Kd.C_drewN ?_ _) | (with_reducible refine Kd.C_drew ?_)))
              (case side2 => exact HC216.out)
              (case side3 => repeat (first | exact (Kd.C_below HR217_7.out HB.out) | (with_reducible refine Kd.C_alloc ?_ _) | (with_reducible refine Kd.C_drewN ?_ _) | (with_reducible refine Kd.C_drew ?_)))
              (case side4 => exact HC217_7.out)
              (case side5 => exact (hT.below (by repeat (first | (with_reducible first | exact HB.out | apply below_alloc | apply pw_below_drewN | apply below_drew1) | exact HB.out))))
              rintro e w10 ⟨rfl, hb⟩
              refine ⟨_, rfl, ?_⟩
              have n0_ := Aside0.mk (below_step (by repeat (first | (with_reducible first | exact HB.out | apply below_alloc | apply pw_below_drewN | apply below_drew1) | exact HB.out)) hb)
              clear HB
              have HB := n0_
              clear n0_
              (try clear hb)
              (try clear hb2)
              (try clear hk)
              (try clear hi)
              refine hK.out _ _ ⟨(cl HB hw217_0), (cl HB hw217_1), (cl HB hw217_2), (cl HB hw217_3), (cl HB hw217_4), (cl HB hw217_5), (cl HB hw217_6), (cl HB hw217_7), (cl HB hw217_8), (cl HB hw217_9), (cl HB hw217_10)⟩ (fun hHeld => ?_)
              clear hK K
              refine nm (h := ?_)
              refine pu HT_ 8 21 511 (h := ?_)
              refine dn HT_ (h := ?_)
              try go_wp2
              go_roundg k1
              case measure => have := HK1.out; omega
              case rel => exact ⟨(wrap64 (x3_1 + 1)), (by first | rfl | (simp; done) | (simp [*]; done)), H', ⟨by have := HK1.out; omega⟩, ⟨by repeat (first | (with_reducible first | exact HB.out | apply below_alloc | apply pw_below_drewN | apply below_drew1) | exact HB.out)⟩⟩
            replace c7 := Bool.eq_false_iff.mpr c7
            subst c7
            have H1 : (some false) = some r := by rw [if_neg (show ¬ (false = true) by decide)] at H; exact H
            clear H
            have H := H1
            clear H1
            obtain rfl := Option.some.inj H
            try go_wp2
            have n0_ := Aside0.mk (below_drew1 HB.out)
            clear HB
            have HB := n0_
            clear n0_
            have q12 : (x3_1 : Int) ≤ ((l0.length : Int) : Int) := of_decide_eq_true (by first | (with_reducible assumption) | assumption)
            obtain ⟨i012, hi012, _, hsz12, _⟩ := info_parts info31
            have hroom12 : l0.length ≤ c0 := HC0.out
            have hC12 : Kd.C kOp _ A0 l0.length l0 := HR0.out
            have hcut12 := cut_to (P := Tryd.prog) 24 31 .i64 Tryd.underlying24 hi012 A0 l0.length c0 x3_1 (of_decide_eq_true (by first | (with_reducible assumption) | assumption)) q12 hroom12
            have hr12 := Kd.C_take (m := (x3_1 : Int).toNat) hC12 (by omega)
            have hy12 : y213.length = (x3_1 : Int).toNat := (by rw [Ny213.out, List.length_take]; omega)
            rw [← Ny213.out] at hr12
            rw [← hy12] at hcut12
            have HR216 := Aside0.mk hr12
            have HC216 := Aside0.mk (show y213.length ≤ c0 from by omega)
            clear hr12 hC12 hroom12 hi012 hsz12
            have KY12 := Aside0.mk hy12
            clear hy12
            replace q12 := eq_true q12
            have p217 : 0 ≤ (x3_1 : Int) := of_decide_eq_true (by first | (with_reducible assumption) | assumption)
            have q217 : x3_1 < (l0.length : Int) := of_decide_eq_true (by first | (with_reducible assumption) | assumption)
            obtain ⟨ad217, A217_7, c217_7, e217, hx217_0, hx217_1, hx217_2, hx217_3, hx217_4, hx217_5, hx217_6, hx217_7, hx217_8, hx217_9, hx217_10, hl217_7, hi217_7⟩ := at_Op HR0.out x3_1 p217 q217
            have hw217_10 := hx217_10
            have hw217_9 := hx217_9
            have hw217_8 := hx217_8
            have hw217_7 := hx217_7
            have hw217_6 := hx217_6
            have hw217_5 := hx217_5
            have hw217_4 := hx217_4
            have hw217_3 := hx217_3
            have hw217_2 := hx217_2
            have hw217_1 := hx217_1
            have hw217_0 := hx217_0
            cases e217
            replace hx217_0 := cl HB hx217_0
            replace hx217_1 := cl HB hx217_1
            replace hx217_2 := cl HB hx217_2
            replace hx217_3 := cl HB hx217_3
            replace hx217_4 := cl HB hx217_4
            replace hx217_5 := cl HB hx217_5
            replace hx217_6 := cl HB hx217_6
            replace hx217_7 := cl HB hx217_7
            replace hx217_8 := cl HB hx217_8
            replace hx217_9 := cl HB hx217_9
            replace hx217_10 := cl HB hx217_10
            have HR217_7 := Aside0.mk hi217_7
            have HC217_7 := Aside0.mk hl217_7
            clear hi217_7 hl217_7
            replace p217 := eq_true p217
            replace q217 := eq_true q217
            refine stP (fun w' => w'.cell? (ad217.add ((x3_1).toNat * 11)) = some (.int .i64 ((rd_Op l0 x3_1).f0)) ∧ w'.cell? ⟨(ad217.add ((x3_1).toNat * 11)).block, (ad217.add ((x3_1).toNat * 11)).off + 1, none⟩ = some (.int .i64 ((rd_Op l0 x3_1).f1)) ∧ w'.cell? ⟨(ad217.add ((x3_1).toNat * 11)).block, (ad217.add ((x3_1).toNat * 11)).off + 2, none⟩ = some (.int .i64 ((rd_Op l0 x3_1).f2)) ∧ w'.cell? ⟨(ad217.add ((x3_1).toNat * 11)).block, (ad217.add ((x3_1).toNat * 11)).off + 3, none⟩ = some (.int .i64 ((rd_Op l0 x3_1).f3.f0)) ∧ w'.cell? ⟨(ad217.add ((x3_1).toNat * 11)).block, (ad217.add ((x3_1).toNat * 11)).off + 4, none⟩ = some (.int .i64 ((rd_Op l0 x3_1).f3.f1)) ∧ w'.cell? ⟨(ad217.add ((x3_1).toNat * 11)).block, (ad217.add ((x3_1).toNat * 11)).off + 5, none⟩ = some (.int .i64 ((rd_Op l0 x3_1).f3.f2)) ∧ w'.cell? ⟨(ad217.add ((x3_1).toNat * 11)).block, (ad217.add ((x3_1).toNat * 11)).off + 6, none⟩ = some (.string ((rd_Op l0 x3_1).f4)) ∧ w'.cell? ⟨(ad217.add ((x3_1).toNat * 11)).block, (ad217.add ((x3_1).toNat * 11)).off + 7, none⟩ = some (.slice A217_7 ((rd_Op l0 x3_1).f5).length c217_7) ∧ w'.cell? ⟨(ad217.add ((x3_1).toNat * 11)).block, (ad217.add ((x3_1).toNat * 11)).off + 8, none⟩ = some (.int .i64 ((rd_Op l0 x3_1).f6)) ∧ w'.cell? ⟨(ad217.add ((x3_1).toNat * 11)).block, (ad217.add ((x3_1).toNat * 11)).off + 9, none⟩ = some (.int .i64 ((rd_Op l0 x3_1).f7)) ∧ w'.cell? ⟨(ad217.add ((x3_1).toNat * 11)).block, (ad217.add ((x3_1).toNat * 11)).off + 10, none⟩ = some (.int .i64 ((rd_Op l0 x3_1).f8))) 9 ⟨(cl HB hw217_0), (cl HB hw217_1), (cl HB hw217_2), (cl HB hw217_3), (cl HB hw217_4), (cl HB hw217_5), (cl HB hw217_6), (cl HB hw217_7), (cl HB hw217_8), (cl HB hw217_9), (cl HB hw217_10)⟩ (h := fun hHeld => ?_); refine with_tabW lectionaryref4_Row.tab6 lectionaryref4_Row.bits6 (fun HT_ HW_ => ?_)
            generalize wr.drew = w11 at HB HR216 HR217_7 hx217_0 hx217_1 hx217_10 hx217_2 hx217_3 hx217_4 hx217_5 hx217_6 hx217_7 hx217_8 hx217_9 hHeld ⊢
            refine pu HT_ 0 13 1 (h := ?_)
            refine pu HT_ 1 14 3 (h := ?_)
            refine pu HT_ 2 15 7 (h := ?_)
            refine pu HT_ 3 16 15 (h := ?_)
            refine pu HT_ 4 17 31 (h := ?_)
            refine pu HT_ 5 18 63 (h := ?_)
            refine tk HT_ HW_ hHeld 6 19 127 (h := ?_)
            refine on HT_ 7 (some 20) 255 (h := fun K hK => ?_)
            refine goes_ Tryd.func72 (by kernel_rfl) rfl #[.slice (some ad217) y213.length c0, .agg #[.int .i64 ((rd_Op l0 x3_1).f0), .int .i64 ((rd_Op l0 x3_1).f1), .int .i64 ((rd_Op l0 x3_1).f2), .int .i64 ((rd_Op l0 x3_1).f3.f0), .int .i64 ((rd_Op l0 x3_1).f3.f1), .int .i64 ((rd_Op l0 x3_1).f3.f2), .string ((rd_Op l0 x3_1).f4), .slice A217_7 ((rd_Op l0 x3_1).f5).length c217_7, .int .i64 ((rd_Op l0 x3_1).f6), .int .i64 ((rd_Op l0 x3_1).f7), .int .i64 ((rd_Op l0 x3_1).f8)]] (by rfl) rfl rfl (by (try simp only [List.map_toArray, List.map_cons, List.map_nil]); first | done | rfl | (simp only [List.length_drop, List.length_take]; rfl)) ?_
            with_reducible refine (lectionaryref4_Goes.calls k1 _ _ y213 ((rd_Op l0 x3_1).f0) ((rd_Op l0 x3_1).f1) ((rd_Op l0 x3_1).f2) ((rd_Op l0 x3_1).f3.f0) ((rd_Op l0 x3_1).f3.f1) ((rd_Op l0 x3_1).f3.f2) ((rd_Op l0 x3_1).f4) _ _ ((rd_Op l0 x3_1).f5) ((rd_Op l0 x3_1).f6) ((rd_Op l0 x3_1).f7) ((rd_Op l0 x3_1).f8) false _ ?side1 ?side2 ?side3 ?side4 ?side5 A6.out).mono ?_
            (case side1 => repeat (first | exact (Kd.C_below HR216.out HB.out) | (with_reducible refine Kd.C_alloc ?_ _) | (with_reducible refine Kd.C_drewN ?_ _) | (with_reducible refine Kd.C_drew ?_)))
            (case side2 => exact HC216.out)
            (case side3 => repeat (first | exact (Kd.C_below HR217_7.out HB.out) | (with_reducible refine Kd.C_alloc ?_ _) | (with_reducible refine Kd.C_drewN ?_ _) | (with_reducible refine Kd.C_drew ?_)))
            (case side4 => exact HC217_7.out)
            (case side5 => exact (hT.below (by repeat (first | (with_reducible first | exact HB.out | apply below_alloc | apply pw_below_drewN | apply below_drew1) | exact HB.out))))
            rintro e w13 ⟨rfl, hb⟩
            refine ⟨_, rfl, ?_⟩
            have n0_ := Aside0.mk (below_step (by repeat (first | (with_reducible first | exact HB.out | apply below_alloc | apply pw_below_drewN | apply below_drew1) | exact HB.out)) hb)
            clear HB
            have HB := n0_
            clear n0_
            (try clear hb)
            (try clear hb2)
            (try clear hk)
            (try clear hi)
            refine hK.out _ _ ⟨(cl HB hw217_0), (cl HB hw217_1), (cl HB hw217_2), (cl HB hw217_3), (cl HB hw217_4), (cl HB hw217_5), (cl HB hw217_6), (cl HB hw217_7), (cl HB hw217_8), (cl HB hw217_9), (cl HB hw217_10)⟩ (fun hHeld => ?_)
            clear hK K
            refine nm (h := ?_)
            refine pu HT_ 8 21 511 (h := ?_)
            refine dn HT_ (h := ?_)
            try go_wp2
            go_ret
            exact ⟨by first | rfl | (simp [errW_none, errW_some] <;> rfl) | (simp [*, errW_none, errW_some] <;> rfl), by repeat (first | (with_reducible first | exact HB.out | apply below_alloc | apply pw_below_drewN | apply below_drew1) | exact HB.out)⟩
          rw [if_neg c5] at H
          exact absurd H (by simp)
        rw [if_neg c4] at H
        exact absurd H (by simp)
      rw [if_neg c3] at H
      have c3b0 : decide (x3_1 < (l0.length : Int)) = false := decide_eq_false c3
      clear c3
      replace H := Option.bind_eq_some_iff.mp H
      obtain ⟨t219, A140, H⟩ := H
      replace H : (some t219) = some r := H
      have A14 := Aside0.mk A140
      clear A140
      obtain rfl := Option.some.inj H
      go_wp2_with (first | ((with_reducible refine gate_callee (f := 73) rfl ?_); refine goesL_ (some 23) rfl rfl Tryd.func73 (by kernel_rfl) rfl #[.slice A0 l0.length c0] rfl (by (try simp only [List.map_toArray, List.map_cons, List.map_nil]); first | done | rfl | (simp only [List.length_drop, List.length_take]; rfl)) ?_; (with_reducible refine (lectionaryref4_Fits.calls k1 _ _ l0 t219 _ ?side1 ?side2 ?side3 A14.out).mono ?_); (case side1 => repeat (first | exact (Kd.C_below HR0.out HB.out) | (with_reducible refine Kd.C_alloc ?_ _) | (with_reducible refine Kd.C_drewN ?_ _) | (with_reducible refine Kd.C_drew ?_))); (case side2 => exact HC0.out); (case side3 => exact (hT.below (by repeat (first | (with_reducible first | exact HB.out | apply below_alloc | apply pw_below_drewN | apply below_drew1) | exact HB.out)))); rintro e w15 ⟨rfl, hb⟩; refine ⟨_, rfl, ?_⟩; have n0_ := Aside0.mk (below_step (by repeat (first | (with_reducible first | exact HB.out | apply below_alloc | apply pw_below_drewN | apply below_drew1) | exact HB.out)) hb); clear HB; have HB := n0_; clear n0_; (try clear hb); (try clear hb2); (try clear hk); (try clear hi)))
      go_ret
      exact ⟨by first | rfl | (simp [errW_none, errW_some] <;> rfl) | (simp [*, errW_none, errW_some] <;> rfl), by repeat (first | (with_reducible first | exact HB.out | apply below_alloc | apply pw_below_drewN | apply below_drew1) | exact HB.out)⟩
end Go.Proofs.YtdahgnalojekdaaDoor.L
end

section
namespace Go.Proofs.YtdahgnalojekdaaDoor.L
open Go.RowKit Go.Proofs.YtdahgnalojekdaaDoorW.PrintWords Go.Proofs.YtdahgnalojekdaaDoorW.PrintLast Go.Proofs.YtdahgnalojekdaaDoorW.PrintMore
attribute [local go_sem] max2_int min2_int max_two min_two max_three min_three max_four min_four
set_option linter.unusedVariables false
set_option linter.unusedSimpArgs false
def tree_Order.f (l0 : List (SOp)) : Option ((List (SElem)) × Int) := (tree_May.f l0).bind fun t220 => (if t220 = true then ((tree_All.f l0).bind fun t221 => (some (t221, 0))) else (some (([] : List (SElem)), 1)))
set_option maxHeartbeats 8000000 in
set_option maxRecDepth 100000 in
theorem tree_Order.calls (A0 : Option Addr) (c0 : Nat) (l0 : List (SOp)) (r1 : List (SElem)) (r2 : Int) (w : World) (hr0 : Kd.C kOp w A0 l0.length l0) (hc0 : l0.length ≤ c0) (h : tree_Order.f l0 = some (r1, r2)) :
    Calls Tryd.prog 25 #[.slice A0 l0.length c0] w fun e w' => ∃ v0_ : Value, e = .returned (.tuple #[v0_, .int .i64 r2]) ∧ Kd.R kElem 29 w' w.heap.size (fun _ => True) v0_ r1 ∧ Below w.heap.size w w' := by
  have HR0 := Aside0.mk hr0
  have HC0 := Aside0.mk hc0
  clear hr0 hc0
  have HB := Aside0.mk (Below.refl w.heap.size w)
  have H : ((tree_May.f l0).bind fun t220 => (if t220 = true then ((tree_All.f l0).bind fun t221 => (some (t221, 0))) else (some (([] : List (SElem)), 1)))) = some (r1, r2) := h
  clear h
  replace H := Option.bind_eq_some_iff.mp H
  obtain ⟨t220, A20, H⟩ := H
  replace H : (if t220 = true then ((tree_All.f l0).bind fun t221 => (some (t221, 0))) else (some (([] : List (SElem)), 1))) = some (r1, r2) := H
  have A2 := Aside0.mk A20
  clear A20
  by_cases c3 : t220 = true
  · subst c3
    have H1 : ((tree_All.f l0).bind fun t221 => (some (t221, 0))) = some (r1, r2) := by rw [if_pos rfl] at H; exact H
    clear H
    have H := H1
    clear H1
    replace H := Option.bind_eq_some_iff.mp H
    obtain ⟨t221, A40, H⟩ := H
    replace H : (some (t221, 0)) = some (r1, r2) := H
    have A4 := Aside0.mk A40
    clear A40
    simp only [Option.some.injEq, Prod.mk.injEq] at H
    obtain ⟨rfl, rfl⟩ := H
    go_enter Tryd.func25, Tryd.ntmps25
    go_wp2_with (first | ((with_reducible refine gate_callee (f := 71) rfl ?_); refine goesL_ (some 5) rfl rfl Tryd.func71 (by kernel_rfl) rfl #[.slice A0 l0.length c0] rfl (by (try simp only [List.map_toArray, List.map_cons, List.map_nil]); first | done | rfl | (simp only [List.length_drop, List.length_take]; rfl)) ?_; (with_reducible refine (tree_May.calls _ _ l0 true _ ?side1 ?side2 A2.out).mono ?_); (case side1 => repeat (first | exact HR0.out | (with_reducible refine Kd.C_alloc ?_ _) | (with_reducible refine Kd.C_drewN ?_ _) | (with_reducible refine Kd.C_drew ?_))); (case side2 => exact HC0.out); rintro e w5 ⟨rfl, hb⟩; refine ⟨_, rfl, ?_⟩; have n0_ := Aside0.mk (below_step (by repeat (first | (with_reducible first | exact HB.out | apply below_alloc | apply pw_below_drewN | apply below_drew1) | exact HB.out)) hb); clear HB; have HB := n0_; clear n0_; (try clear hb); (try clear hb2); (try clear hk); (try clear hi)) | ((with_reducible refine gate_callee (f := 76) rfl ?_); refine goesL_ (some 8) rfl rfl Tryd.func76 (by kernel_rfl) rfl #[.slice A0 l0.length c0] rfl (by (try simp only [List.map_toArray, List.map_cons, List.map_nil]); first | done | rfl | (simp only [List.length_drop, List.length_take]; rfl)) ?_; (with_reducible refine (tree_All.calls _ _ l0 t221 _ ?side1 ?side2 A4.out).mono ?_); (case side1 => repeat (first | exact (Kd.C_below HR0.out HB.out) | (with_reducible refine Kd.C_alloc ?_ _) | (with_reducible refine Kd.C_drewN ?_ _) | (with_reducible refine Kd.C_drew ?_))); (case side2 => exact HC0.out); rintro e w6 ⟨v222, rfl, ho0, hb⟩; refine ⟨_, rfl, ?_⟩; have n0_ := Aside0.mk (Kd.R_lower ho0 (below_size (by repeat (first | (with_reducible first | exact HB.out | apply below_alloc | apply pw_below_drewN | apply below_drew1) | exact HB.out)))); have n1_ := Aside0.mk (below_step (by repeat (first | (with_reducible first | exact HB.out | apply below_alloc | apply pw_below_drewN | apply below_drew1) | exact HB.out)) hb); clear HB; have HO223 := n0_; have HB := n1_; clear n0_ n1_; (try clear hb); (try clear hb2); (try clear hk); (try clear hi); (try clear ho0)))
    go_ret2
    exact ⟨_, by first | rfl | (simp [errW_none, errW_some] <;> rfl) | (simp [*, errW_none, errW_some] <;> rfl), by (with_reducible repeat (first | apply Kd.R_alloc | apply Kd.R_drewN | apply Kd.R_drew)); exact HO223.out, by repeat (first | (with_reducible first | exact HB.out | apply below_alloc | apply pw_below_drewN | apply below_drew1) | exact HB.out)⟩
  replace c3 := Bool.eq_false_iff.mpr c3
  subst c3
  have H1 : (some (([] : List (SElem)), 1)) = some (r1, r2) := by rw [if_neg (show ¬ (false = true) by decide)] at H; exact H
  clear H
  have H := H1
  clear H1
  simp only [Option.some.injEq, Prod.mk.injEq] at H
  obtain ⟨rfl, rfl⟩ := H
  go_enter Tryd.func25, Tryd.ntmps25
  go_wp2_with (first | ((with_reducible refine gate_callee (f := 71) rfl ?_); refine goesL_ (some 5) rfl rfl Tryd.func71 (by kernel_rfl) rfl #[.slice A0 l0.length c0] rfl (by (try simp only [List.map_toArray, List.map_cons, List.map_nil]); first | done | rfl | (simp only [List.length_drop, List.length_take]; rfl)) ?_; (with_reducible refine (tree_May.calls _ _ l0 false _ ?side1 ?side2 A2.out).mono ?_); (case side1 => repeat (first | exact HR0.out | (with_reducible refine Kd.C_alloc ?_ _) | (with_reducible refine Kd.C_drewN ?_ _) | (with_reducible refine Kd.C_drew ?_))); (case side2 => exact HC0.out); rintro e w7 ⟨rfl, hb⟩; refine ⟨_, rfl, ?_⟩; have n0_ := Aside0.mk (below_step (by repeat (first | (with_reducible first | exact HB.out | apply below_alloc | apply pw_below_drewN | apply below_drew1) | exact HB.out)) hb); clear HB; have HB := n0_; clear n0_; (try clear hb); (try clear hb2); (try clear hk); (try clear hi)))
  go_ret2
  exact ⟨_, by first | rfl | (simp [errW_none, errW_some] <;> rfl) | (simp [*, errW_none, errW_some] <;> rfl), by first | exact Kd.R_nil _ _ _ _ _ | exact Kd.N_nil _ _ _ _ _ | exact Kd.V_nil _ _ _ _ _ | exact Kd.Q_nil _ _ _ _ _ | exact Kd.S_nil _ _ _ _ _, by repeat (first | (with_reducible first | exact HB.out | apply below_alloc | apply pw_below_drewN | apply below_drew1) | exact HB.out)⟩
def lectionarylaw5_wakes.f  : Option (Bool) := (some (([(⟨1, 1, 1, (⟨0, 0, 0⟩ : SElem), (⟨#[97]⟩ : ByteArray), ([] : List (SElem)), 0, 0, 0⟩ : SOp), (⟨2, 1, 1, (⟨0, 0, 0⟩ : SElem), (⟨#[98]⟩ : ByteArray), ([] : List (SElem)), 0, 0, 0⟩ : SOp)] : List (SOp)) : List (SOp))).bind fun y224 => ((tree_Order.f y224).bind fun bt227 => ((tree_Check.f y224).bind fun t231 => ((lectionarylaw5_num.f t231).bind fun t232 => (if t232 = 0 then ((lectionarylaw5_num.f bt227.2).bind fun t233 => (if t233 = 0 then (if (bt227.1.length : Int) = 2 then (if 0 < (bt227.1.length : Int) then (some (((rd_Elem bt227.1 0).f0) == 2)) else (none)) else (some false)) else (some false))) else (some false)))))
set_option maxHeartbeats 8000000 in
set_option maxRecDepth 100000 in
theorem lectionarylaw5_wakes.calls  (r : Bool) (w : World) (h : lectionarylaw5_wakes.f  = some r) :
    Calls Tryd.prog 21 #[] w fun e w' => e = .returned (.bool r) ∧ Below w.heap.size w w' := by
  have hu31 := Tryd.underlying31
  have HB := Aside0.mk (Below.refl w.heap.size w)
  have H : ((some (([(⟨1, 1, 1, (⟨0, 0, 0⟩ : SElem), (⟨#[97]⟩ : ByteArray), ([] : List (SElem)), 0, 0, 0⟩ : SOp), (⟨2, 1, 1, (⟨0, 0, 0⟩ : SElem), (⟨#[98]⟩ : ByteArray), ([] : List (SElem)), 0, 0, 0⟩ : SOp)] : List (SOp)) : List (SOp))).bind fun y224 => ((tree_Order.f y224).bind fun bt227 => ((tree_Check.f y224).bind fun t231 => ((lectionarylaw5_num.f t231).bind fun t232 => (if t232 = 0 then ((lectionarylaw5_num.f bt227.2).bind fun t233 => (if t233 = 0 then (if (bt227.1.length : Int) = 2 then (if 0 < (bt227.1.length : Int) then (some (((rd_Elem bt227.1 0).f0) == 2)) else (none)) else (some false)) else (some false))) else (some false)))))) = some r := h
  clear h
  obtain ⟨y224, hy224⟩ : ∃ y_ : List (SOp), y_ = (([(⟨1, 1, 1, (⟨0, 0, 0⟩ : SElem), (⟨#[97]⟩ : ByteArray), ([] : List (SElem)), 0, 0, 0⟩ : SOp), (⟨2, 1, 1, (⟨0, 0, 0⟩ : SElem), (⟨#[98]⟩ : ByteArray), ([] : List (SElem)), 0, 0, 0⟩ : SOp)] : List (SOp))) := ⟨_, rfl⟩
  replace H : ((tree_Order.f y224).bind fun bt227 => ((tree_Check.f y224).bind fun t231 => ((lectionarylaw5_num.f t231).bind fun t232 => (if t232 = 0 then ((lectionarylaw5_num.f bt227.2).bind fun t233 => (if t233 = 0 then (if (bt227.1.length : Int) = 2 then (if 0 < (bt227.1.length : Int) then (some (((rd_Elem bt227.1 0).f0) == 2)) else (none)) else (some false)) else (some false))) else (some false))))) = some r := by first | (rw [hy224]; with_reducible exact H) | (have H2_ := (Option.bind_some _ _).symm.trans H; rw [hy224]; with_reducible exact H2_) | (have H2_ := (Option.bind_some _ _).symm.trans H; with_reducible exact H2_) | with_reducible exact H | (rw [hy224]; exact H) | exact H
  have Ny224 := Aside0.mk hy224
  clear hy224
  replace H := Option.bind_eq_some_iff.mp H
  obtain ⟨⟨t227, t228⟩, A10, H⟩ := H
  replace H : ((tree_Check.f y224).bind fun t231 => ((lectionarylaw5_num.f t231).bind fun t232 => (if t232 = 0 then ((lectionarylaw5_num.f t228).bind fun t233 => (if t233 = 0 then (if (t227.length : Int) = 2 then (if 0 < (t227.length : Int) then (some (((rd_Elem t227 0).f0) == 2)) else (none)) else (some false)) else (some false))) else (some false)))) = some r := H
  have A1 := Aside0.mk A10
  clear A10
  replace H := Option.bind_eq_some_iff.mp H
  obtain ⟨t231, A20, H⟩ := H
  replace H : ((lectionarylaw5_num.f t231).bind fun t232 => (if t232 = 0 then ((lectionarylaw5_num.f t228).bind fun t233 => (if t233 = 0 then (if (t227.length : Int) = 2 then (if 0 < (t227.length : Int) then (some (((rd_Elem t227 0).f0) == 2)) else (none)) else (some false)) else (some false))) else (some false))) = some r := H
  have A2 := Aside0.mk A20
  clear A20
  replace H := Option.bind_eq_some_iff.mp H
  obtain ⟨t232, A30, H⟩ := H
  replace H : (if t232 = 0 then ((lectionarylaw5_num.f t228).bind fun t233 => (if t233 = 0 then (if (t227.length : Int) = 2 then (if 0 < (t227.length : Int) then (some (((rd_Elem t227 0).f0) == 2)) else (none)) else (some false)) else (some false))) else (some false)) = some r := H
  have A3 := Aside0.mk A30
  clear A30
  by_cases c4 : t232 = 0
  · rw [if_pos c4] at H
    have c4b0 : (t232 == 0) = true := beq_iff_eq.mpr c4
    have c4b1 : (t232 != 0) = false := bne_eq_false_iff_eq.mpr c4
    clear c4
    replace H := Option.bind_eq_some_iff.mp H
    obtain ⟨t233, A50, H⟩ := H
    replace H : (if t233 = 0 then (if (t227.length : Int) = 2 then (if 0 < (t227.length : Int) then (some (((rd_Elem t227 0).f0) == 2)) else (none)) else (some false)) else (some false)) = some r := H
    have A5 := Aside0.mk A50
    clear A50
    by_cases c6 : t233 = 0
    · rw [if_pos c6] at H
      have c6b0 : (t233 == 0) = true := beq_iff_eq.mpr c6
      have c6b1 : (t233 != 0) = false := bne_eq_false_iff_eq.mpr c6
      clear c6
      by_cases c7 : (t227.length : Int) = 2
      · rw [if_pos c7] at H
        have c7b0 : ((t227.length : Int) == 2) = true := beq_iff_eq.mpr c7
        have c7b1 : ((t227.length : Int) != 2) = false := bne_eq_false_iff_eq.mpr c7
        clear c7
        by_cases c8 : 0 < (t227.length : Int)
        · rw [if_pos c8] at H
          have c8b0 : decide (0 < (t227.length : Int)) = true := decide_eq_true c8
          have c8b1 : decide (0 < t227.length) = true := decide_eq_true (by omega)
          clear c8
          obtain rfl := Option.some.inj H
          go_enter Tryd.func21, Tryd.ntmps21
          go_wp2_with (first | ((with_reducible refine gate_dst (N := 6) rfl ?_); (try (refine gate_guard (by rfl) ?_; dsimp only)); refine Kd.S_lit kOp _ 31 ?hg (N := 6) ?hd (xs := ([(⟨1, 1, 1, (⟨0, 0, 0⟩ : SElem), (⟨#[97]⟩ : ByteArray), ([] : List (SElem)), 0, 0, 0⟩ : SOp), (⟨2, 1, 1, (⟨0, 0, 0⟩ : SElem), (⟨#[98]⟩ : ByteArray), ([] : List (SElem)), 0, 0, 0⟩ : SOp)] : List (SOp))) (inner := [.int .i64 1, .int .i64 1, .int .i64 1, .int .i64 0, .int .i64 0, .int .i64 0, .string (⟨#[97]⟩ : ByteArray), .slice none 0 0, .int .i64 0, .int .i64 0, .int .i64 0, .int .i64 2, .int .i64 1, .int .i64 1, .int .i64 0, .int .i64 0, .int .i64 0, .string (⟨#[98]⟩ : ByteArray), .slice none 0 0, .int .i64 0, .int .i64 0, .int .i64 0]) (ok := fun _ => True) (okp := fun _ => True) ?hr ?hp (fun _ hk => hk) trivial (Below.refl _ _) (Nat.le_refl _) (by simp) ?_; (case hd => rfl); (case hg => rfl); (case hr => first | (go_simp; done) | (go_simp; rfl)); (case hp => exact (Reps.front (show Kd.M kOp _ _ _ (⟨1, 1, 1, (⟨0, 0, 0⟩ : SElem), (⟨#[97]⟩ : ByteArray), ([] : List (SElem)), 0, 0, 0⟩ : SOp) [.int .i64 1, .int .i64 1, .int .i64 1, .int .i64 0, .int .i64 0, .int .i64 0, .string (⟨#[97]⟩ : ByteArray), .slice none 0 0, .int .i64 0, .int .i64 0, .int .i64 0] from (kOp_mkM _ _ _ (⟨1, 1, 1, (⟨0, 0, 0⟩ : SElem), (⟨#[97]⟩ : ByteArray), ([] : List (SElem)), 0, 0, 0⟩ : SOp) (Kd.R_nil _ _ _ _ _))) rfl (Reps.front (show Kd.M kOp _ _ _ (⟨2, 1, 1, (⟨0, 0, 0⟩ : SElem), (⟨#[98]⟩ : ByteArray), ([] : List (SElem)), 0, 0, 0⟩ : SOp) [.int .i64 2, .int .i64 1, .int .i64 1, .int .i64 0, .int .i64 0, .int .i64 0, .string (⟨#[98]⟩ : ByteArray), .slice none 0 0, .int .i64 0, .int .i64 0, .int .i64 0] from (kOp_mkM _ _ _ (⟨2, 1, 1, (⟨0, 0, 0⟩ : SElem), (⟨#[98]⟩ : ByteArray), ([] : List (SElem)), 0, 0, 0⟩ : SOp) (Kd.R_nil _ _ _ _ _))) rfl (Reps.none _ _) rfl) rfl)); intro v225 w9 ho10 hb hg_ hnew_; clear hg_ hnew_; (first | rw [← Ny224.out] at ho10 | (simp only [Int.reduceToNat] at ho10; rw [← Ny224.out] at ho10)); have n0_ := Aside0.mk (Kd.S_lower ho10 (below_size (by repeat (first | (with_reducible first | exact HB.out | apply below_alloc | apply pw_below_drewN | apply below_drew1) | exact HB.out)))); have n1_ := Aside0.mk (below_step (by repeat (first | (with_reducible first | exact HB.out | apply below_alloc | apply pw_below_drewN | apply below_drew1) | exact HB.out)) hb); clear HB; have HO226 := n0_; have HB := n1_; clear n0_ n1_; clear hb ho10; obtain ⟨Ao11, co11, eo11⟩ := Kd.S_slice HO226.out; subst eo11) | ((with_reducible refine gate_callee (f := 25) rfl ?_); refine goesL_ (some 9) rfl rfl Tryd.func25 (by kernel_rfl) rfl #[.slice Ao11 y224.length co11] rfl (by (try simp only [List.map_toArray, List.map_cons, List.map_nil]); first | done | rfl | (simp only [List.length_drop, List.length_take]; rfl)) ?_; (with_reducible refine (tree_Order.calls _ _ y224 t227 t228 _ ?side1 ?side2 A1.out).mono ?_); (case side1 => repeat (first | exact (Kd.S_reads' HO226.out).2.2 | (with_reducible refine Kd.C_alloc ?_ _) | (with_reducible refine Kd.C_drewN ?_ _) | (with_reducible refine Kd.C_drew ?_))); (case side2 => exact (Kd.S_reads' HO226.out).2.1); rintro e w12 ⟨v229, rfl, ho0, hb⟩; refine ⟨_, rfl, ?_⟩; have n0_ := Aside0.mk (Kd.S_elder' (by (with_reducible repeat (first | apply Kd.S_alloc | apply Kd.S_drewN | apply Kd.S_drew)); exact HO226.out) (Kd.R_base ho0) hb); have n1_ := Aside0.mk (Kd.R_lower ho0 (below_size (by repeat (first | (with_reducible first | exact HB.out | apply below_alloc | apply pw_below_drewN | apply below_drew1) | exact HB.out)))); have n2_ := Aside0.mk (below_step (by repeat (first | (with_reducible first | exact HB.out | apply below_alloc | apply pw_below_drewN | apply below_drew1) | exact HB.out)) hb); clear HO226; clear HB; have HO226 := n0_; have HO230 := n1_; have HB := n2_; clear n0_ n1_ n2_; (try clear hb); (try clear hb2); (try clear hk); (try clear hi); (try clear ho0)) | ((with_reducible refine gate_callee (f := 19) rfl ?_); refine goesL_ (some 13) rfl rfl Tryd.func19 (by kernel_rfl) rfl #[.slice Ao11 y224.length co11] rfl (by (try simp only [List.map_toArray, List.map_cons, List.map_nil]); first | done | rfl | (simp only [List.length_drop, List.length_take]; rfl)) ?_; (with_reducible refine (tree_Check.calls _ _ y224 t231 _ ?side1 ?side2 A2.out).mono ?_); (case side1 => repeat (first | exact (Kd.S_reads' HO226.out).2.2 | (with_reducible refine Kd.C_alloc ?_ _) | (with_reducible refine Kd.C_drewN ?_ _) | (with_reducible refine Kd.C_drew ?_))); (case side2 => exact (Kd.S_reads' HO226.out).2.1); rintro e w13 ⟨rfl, hb⟩; refine ⟨_, rfl, ?_⟩; have n0_ := Aside0.mk (Kd.S_below (by (with_reducible repeat (first | apply Kd.S_alloc | apply Kd.S_drewN | apply Kd.S_drew)); exact HO226.out) hb); have n1_ := Aside0.mk (Kd.R_below (by (with_reducible repeat (first | apply Kd.R_alloc | apply Kd.R_drewN | apply Kd.R_drew)); exact HO230.out) hb); have n2_ := Aside0.mk (below_step (by repeat (first | (with_reducible first | exact HB.out | apply below_alloc | apply pw_below_drewN | apply below_drew1) | exact HB.out)) hb); clear HO226; clear HO230; clear HB; have HO226 := n0_; have HO230 := n1_; have HB := n2_; clear n0_ n1_ n2_; (try clear hb); (try clear hb2); (try clear hk); (try clear hi)) | ((with_reducible refine gate_callee (f := 18) rfl ?_); refine goesL_ (some 14) rfl rfl Tryd.func18 (by kernel_rfl) rfl #[.int .i64 t231] rfl (by (try simp only [List.map_toArray, List.map_cons, List.map_nil]); first | done | rfl | (simp only [List.length_drop, List.length_take]; rfl)) ?_; (with_reducible refine (lectionarylaw5_num.calls t231 t232 _ A3.out).mono ?_); rintro e w' ⟨rfl, ⟨nd, rfl⟩⟩; refine ⟨_, rfl, ?_⟩) | (go_at_call 18; (with_reducible refine (lectionarylaw5_num.calls t228 t233 _ A5.out).mono ?_); rintro e w' ⟨rfl, ⟨nd, rfl⟩⟩; obtain ⟨Ao14, co14, eo14⟩ := Kd.R_slice HO230.out; subst eo14; have p234 : 0 ≤ (0 : Int) := (by omega); have q234 : 0 < (t227.length : Int) := of_decide_eq_true (by first | (with_reducible assumption) | assumption); obtain ⟨ad234, e234, hx234_0, hx234_1, hx234_2⟩ := at_Elem (Kd.R_reads' HO230.out).2.2 0 p234 q234; cases e234; have qi234 : (0 < t227.length) = True := eq_true (by omega); (try rw [show ((0 : Int)).toNat = 0 from rfl] at hx234_0); (try rw [show 0 * 3 = 0 from rfl] at hx234_0); (try rw [Addr.add_zero'] at hx234_0); (try rw [show ((0 : Int)).toNat = 0 from rfl] at hx234_1); (try rw [show 0 * 3 = 0 from rfl] at hx234_1); (try rw [Addr.add_zero'] at hx234_1); (try rw [show ((0 : Int)).toNat = 0 from rfl] at hx234_2); (try rw [show 0 * 3 = 0 from rfl] at hx234_2); (try rw [Addr.add_zero'] at hx234_2); replace p234 := eq_true p234; replace q234 := eq_true q234))
          go_ret
          exact ⟨by first | rfl | (simp [errW_none, errW_some] <;> rfl) | (simp [*, errW_none, errW_some] <;> rfl), by repeat (first | (with_reducible first | exact HB.out | apply below_alloc | apply pw_below_drewN | apply below_drew1) | exact HB.out)⟩
        rw [if_neg c8] at H
        exact absurd H (by simp)
      rw [if_neg c7] at H
      have c7b0 : ((t227.length : Int) == 2) = false := beq_eq_false_iff_ne.mpr c7
      have c7b1 : ((t227.length : Int) != 2) = true := bne_iff_ne.mpr c7
      obtain rfl := Option.some.inj H
      go_enter Tryd.func21, Tryd.ntmps21
      go_wp2_with (first | ((with_reducible refine gate_dst (N := 6) rfl ?_); (try (refine gate_guard (by rfl) ?_; dsimp only)); refine Kd.S_lit kOp _ 31 ?hg (N := 6) ?hd (xs := ([(⟨1, 1, 1, (⟨0, 0, 0⟩ : SElem), (⟨#[97]⟩ : ByteArray), ([] : List (SElem)), 0, 0, 0⟩ : SOp), (⟨2, 1, 1, (⟨0, 0, 0⟩ : SElem), (⟨#[98]⟩ : ByteArray), ([] : List (SElem)), 0, 0, 0⟩ : SOp)] : List (SOp))) (inner := [.int .i64 1, .int .i64 1, .int .i64 1, .int .i64 0, .int .i64 0, .int .i64 0, .string (⟨#[97]⟩ : ByteArray), .slice none 0 0, .int .i64 0, .int .i64 0, .int .i64 0, .int .i64 2, .int .i64 1, .int .i64 1, .int .i64 0, .int .i64 0, .int .i64 0, .string (⟨#[98]⟩ : ByteArray), .slice none 0 0, .int .i64 0, .int .i64 0, .int .i64 0]) (ok := fun _ => True) (okp := fun _ => True) ?hr ?hp (fun _ hk => hk) trivial (Below.refl _ _) (Nat.le_refl _) (by simp) ?_; (case hd => rfl); (case hg => rfl); (case hr => first | (go_simp; done) | (go_simp; rfl)); (case hp => exact (Reps.front (show Kd.M kOp _ _ _ (⟨1, 1, 1, (⟨0, 0, 0⟩ : SElem), (⟨#[97]⟩ : ByteArray), ([] : List (SElem)), 0, 0, 0⟩ : SOp) [.int .i64 1, .int .i64 1, .int .i64 1, .int .i64 0, .int .i64 0, .int .i64 0, .string (⟨#[97]⟩ : ByteArray), .slice none 0 0, .int .i64 0, .int .i64 0, .int .i64 0] from (kOp_mkM _ _ _ (⟨1, 1, 1, (⟨0, 0, 0⟩ : SElem), (⟨#[97]⟩ : ByteArray), ([] : List (SElem)), 0, 0, 0⟩ : SOp) (Kd.R_nil _ _ _ _ _))) rfl (Reps.front (show Kd.M kOp _ _ _ (⟨2, 1, 1, (⟨0, 0, 0⟩ : SElem), (⟨#[98]⟩ : ByteArray), ([] : List (SElem)), 0, 0, 0⟩ : SOp) [.int .i64 2, .int .i64 1, .int .i64 1, .int .i64 0, .int .i64 0, .int .i64 0, .string (⟨#[98]⟩ : ByteArray), .slice none 0 0, .int .i64 0, .int .i64 0, .int .i64 0] from (kOp_mkM _ _ _ (⟨2, 1, 1, (⟨0, 0, 0⟩ : SElem), (⟨#[98]⟩ : ByteArray), ([] : List (SElem)), 0, 0, 0⟩ : SOp) (Kd.R_nil _ _ _ _ _))) rfl (Reps.none _ _) rfl) rfl)); intro v225 w15 ho16 hb hg_ hnew_; clear hg_ hnew_; (first | rw [← Ny224.out] at ho16 | (simp only [Int.reduceToNat] at ho16; rw [← Ny224.out] at ho16)); have n0_ := Aside0.mk (Kd.S_lower ho16 (below_size (by repeat (first | (with_reducible first | exact HB.out | apply below_alloc | apply pw_below_drewN | apply below_drew1) | exact HB.out)))); have n1_ := Aside0.mk (below_step (by repeat (first | (with_reducible first | exact HB.out | apply below_alloc | apply pw_below_drewN | apply below_drew1) | exact HB.out)) hb); clear HB; have HO226 := n0_; have HB := n1_; clear n0_ n1_; clear hb ho16; obtain ⟨Ao17, co17, eo17⟩ := Kd.S_slice HO226.out; subst eo17) | ((with_reducible refine gate_callee (f := 25) rfl ?_); refine goesL_ (some 9) rfl rfl Tryd.func25 (by kernel_rfl) rfl #[.slice Ao17 y224.length co17] rfl (by (try simp only [List.map_toArray, List.map_cons, List.map_nil]); first | done | rfl | (simp only [List.length_drop, List.length_take]; rfl)) ?_; (with_reducible refine (tree_Order.calls _ _ y224 t227 t228 _ ?side1 ?side2 A1.out).mono ?_); (case side1 => repeat (first | exact (Kd.S_reads' HO226.out).2.2 | (with_reducible refine Kd.C_alloc ?_ _) | (with_reducible refine Kd.C_drewN ?_ _) | (with_reducible refine Kd.C_drew ?_))); (case side2 => exact (Kd.S_reads' HO226.out).2.1); rintro e w18 ⟨v229, rfl, ho0, hb⟩; refine ⟨_, rfl, ?_⟩; have n0_ := Aside0.mk (Kd.S_elder' (by (with_reducible repeat (first | apply Kd.S_alloc | apply Kd.S_drewN | apply Kd.S_drew)); exact HO226.out) (Kd.R_base ho0) hb); have n1_ := Aside0.mk (Kd.R_lower ho0 (below_size (by repeat (first | (with_reducible first | exact HB.out | apply below_alloc | apply pw_below_drewN | apply below_drew1) | exact HB.out)))); have n2_ := Aside0.mk (below_step (by repeat (first | (with_reducible first | exact HB.out | apply below_alloc | apply pw_below_drewN | apply below_drew1) | exact HB.out)) hb); clear HO226; clear HB; have HO226 := n0_; have HO230 := n1_; have HB := n2_; clear n0_ n1_ n2_; (try clear hb); (try clear hb2); (try clear hk); (try clear hi); (try clear ho0)) | ((with_reducible refine gate_callee (f := 19) rfl ?_); refine goesL_ (some 13) rfl rfl Tryd.func19 (by kernel_rfl) rfl #[.slice Ao17 y224.length co17] rfl (by (try simp only [List.map_toArray, List.map_cons, List.map_nil]); first | done | rfl | (simp only [List.length_drop, List.length_take]; rfl)) ?_; (with_reducible refine (tree_Check.calls _ _ y224 t231 _ ?side1 ?side2 A2.out).mono ?_); (case side1 => repeat (first | exact (Kd.S_reads' HO226.out).2.2 | (with_reducible refine Kd.C_alloc ?_ _) | (with_reducible refine Kd.C_drewN ?_ _) | (with_reducible refine Kd.C_drew ?_))); (case side2 => exact (Kd.S_reads' HO226.out).2.1); rintro e w19 ⟨rfl, hb⟩; refine ⟨_, rfl, ?_⟩; have n0_ := Aside0.mk (Kd.S_below (by (with_reducible repeat (first | apply Kd.S_alloc | apply Kd.S_drewN | apply Kd.S_drew)); exact HO226.out) hb); have n1_ := Aside0.mk (Kd.R_below (by (with_reducible repeat (first | apply Kd.R_alloc | apply Kd.R_drewN | apply Kd.R_drew)); exact HO230.out) hb); have n2_ := Aside0.mk (below_step (by repeat (first | (with_reducible first | exact HB.out | apply below_alloc | apply pw_below_drewN | apply below_drew1) | exact HB.out)) hb); clear HO226; clear HO230; clear HB; have HO226 := n0_; have HO230 := n1_; have HB := n2_; clear n0_ n1_ n2_; (try clear hb); (try clear hb2); (try clear hk); (try clear hi)) | ((with_reducible refine gate_callee (f := 18) rfl ?_); refine goesL_ (some 14) rfl rfl Tryd.func18 (by kernel_rfl) rfl #[.int .i64 t231] rfl (by (try simp only [List.map_toArray, List.map_cons, List.map_nil]); first | done | rfl | (simp only [List.length_drop, List.length_take]; rfl)) ?_; (with_reducible refine (lectionarylaw5_num.calls t231 t232 _ A3.out).mono ?_); rintro e w' ⟨rfl, ⟨nd, rfl⟩⟩; refine ⟨_, rfl, ?_⟩) | (go_at_call 18; (with_reducible refine (lectionarylaw5_num.calls t228 t233 _ A5.out).mono ?_); rintro e w' ⟨rfl, ⟨nd, rfl⟩⟩; obtain ⟨Ao20, co20, eo20⟩ := Kd.R_slice HO230.out; subst eo20))
      go_ret
      exact ⟨by first | rfl | (simp [errW_none, errW_some] <;> rfl) | (simp [*, errW_none, errW_some] <;> rfl), by repeat (first | (with_reducible first | exact HB.out | apply below_alloc | apply pw_below_drewN | apply below_drew1) | exact HB.out)⟩
    rw [if_neg c6] at H
    have c6b0 : (t233 == 0) = false := beq_eq_false_iff_ne.mpr c6
    have c6b1 : (t233 != 0) = true := bne_iff_ne.mpr c6
    obtain rfl := Option.some.inj H
    go_enter Tryd.func21, Tryd.ntmps21
    go_wp2_with (first | ((with_reducible refine gate_dst (N := 6) rfl ?_); (try (refine gate_guard (by rfl) ?_; dsimp only)); refine Kd.S_lit kOp _ 31 ?hg (N := 6) ?hd (xs := ([(⟨1, 1, 1, (⟨0, 0, 0⟩ : SElem), (⟨#[97]⟩ : ByteArray), ([] : List (SElem)), 0, 0, 0⟩ : SOp), (⟨2, 1, 1, (⟨0, 0, 0⟩ : SElem), (⟨#[98]⟩ : ByteArray), ([] : List (SElem)), 0, 0, 0⟩ : SOp)] : List (SOp))) (inner := [.int .i64 1, .int .i64 1, .int .i64 1, .int .i64 0, .int .i64 0, .int .i64 0, .string (⟨#[97]⟩ : ByteArray), .slice none 0 0, .int .i64 0, .int .i64 0, .int .i64 0, .int .i64 2, .int .i64 1, .int .i64 1, .int .i64 0, .int .i64 0, .int .i64 0, .string (⟨#[98]⟩ : ByteArray), .slice none 0 0, .int .i64 0, .int .i64 0, .int .i64 0]) (ok := fun _ => True) (okp := fun _ => True) ?hr ?hp (fun _ hk => hk) trivial (Below.refl _ _) (Nat.le_refl _) (by simp) ?_; (case hd => rfl); (case hg => rfl); (case hr => first | (go_simp; done) | (go_simp; rfl)); (case hp => exact (Reps.front (show Kd.M kOp _ _ _ (⟨1, 1, 1, (⟨0, 0, 0⟩ : SElem), (⟨#[97]⟩ : ByteArray), ([] : List (SElem)), 0, 0, 0⟩ : SOp) [.int .i64 1, .int .i64 1, .int .i64 1, .int .i64 0, .int .i64 0, .int .i64 0, .string (⟨#[97]⟩ : ByteArray), .slice none 0 0, .int .i64 0, .int .i64 0, .int .i64 0] from (kOp_mkM _ _ _ (⟨1, 1, 1, (⟨0, 0, 0⟩ : SElem), (⟨#[97]⟩ : ByteArray), ([] : List (SElem)), 0, 0, 0⟩ : SOp) (Kd.R_nil _ _ _ _ _))) rfl (Reps.front (show Kd.M kOp _ _ _ (⟨2, 1, 1, (⟨0, 0, 0⟩ : SElem), (⟨#[98]⟩ : ByteArray), ([] : List (SElem)), 0, 0, 0⟩ : SOp) [.int .i64 2, .int .i64 1, .int .i64 1, .int .i64 0, .int .i64 0, .int .i64 0, .string (⟨#[98]⟩ : ByteArray), .slice none 0 0, .int .i64 0, .int .i64 0, .int .i64 0] from (kOp_mkM _ _ _ (⟨2, 1, 1, (⟨0, 0, 0⟩ : SElem), (⟨#[98]⟩ : ByteArray), ([] : List (SElem)), 0, 0, 0⟩ : SOp) (Kd.R_nil _ _ _ _ _))) rfl (Reps.none _ _) rfl) rfl)); intro v225 w21 ho22 hb hg_ hnew_; clear hg_ hnew_; (first | rw [← Ny224.out] at ho22 | (simp only [Int.reduceToNat] at ho22; rw [← Ny224.out] at ho22)); have n0_ := Aside0.mk (Kd.S_lower ho22 (below_size (by repeat (first | (with_reducible first | exact HB.out | apply below_alloc | apply pw_below_drewN | apply below_drew1) | exact HB.out)))); have n1_ := Aside0.mk (below_step (by repeat (first | (with_reducible first | exact HB.out | apply below_alloc | apply pw_below_drewN | apply below_drew1) | exact HB.out)) hb); clear HB; have HO226 := n0_; have HB := n1_; clear n0_ n1_; clear hb ho22; obtain ⟨Ao23, co23, eo23⟩ := Kd.S_slice HO226.out; subst eo23) | ((with_reducible refine gate_callee (f := 25) rfl ?_); refine goesL_ (some 9) rfl rfl Tryd.func25 (by kernel_rfl) rfl #[.slice Ao23 y224.length co23] rfl (by (try simp only [List.map_toArray, List.map_cons, List.map_nil]); first | done | rfl | (simp only [List.length_drop, List.length_take]; rfl)) ?_; (with_reducible refine (tree_Order.calls _ _ y224 t227 t228 _ ?side1 ?side2 A1.out).mono ?_); (case side1 => repeat (first | exact (Kd.S_reads' HO226.out).2.2 | (with_reducible refine Kd.C_alloc ?_ _) | (with_reducible refine Kd.C_drewN ?_ _) | (with_reducible refine Kd.C_drew ?_))); (case side2 => exact (Kd.S_reads' HO226.out).2.1); rintro e w24 ⟨v229, rfl, ho0, hb⟩; refine ⟨_, rfl, ?_⟩; have n0_ := Aside0.mk (Kd.S_elder' (by (with_reducible repeat (first | apply Kd.S_alloc | apply Kd.S_drewN | apply Kd.S_drew)); exact HO226.out) (Kd.R_base ho0) hb); have n1_ := Aside0.mk (Kd.R_lower ho0 (below_size (by repeat (first | (with_reducible first | exact HB.out | apply below_alloc | apply pw_below_drewN | apply below_drew1) | exact HB.out)))); have n2_ := Aside0.mk (below_step (by repeat (first | (with_reducible first | exact HB.out | apply below_alloc | apply pw_below_drewN | apply below_drew1) | exact HB.out)) hb); clear HO226; clear HB; have HO226 := n0_; have HO230 := n1_; have HB := n2_; clear n0_ n1_ n2_; (try clear hb); (try clear hb2); (try clear hk); (try clear hi); (try clear ho0)) | ((with_reducible refine gate_callee (f := 19) rfl ?_); refine goesL_ (some 13) rfl rfl Tryd.func19 (by kernel_rfl) rfl #[.slice Ao23 y224.length co23] rfl (by (try simp only [List.map_toArray, List.map_cons, List.map_nil]); first | done | rfl | (simp only [List.length_drop, List.length_take]; rfl)) ?_; (with_reducible refine (tree_Check.calls _ _ y224 t231 _ ?side1 ?side2 A2.out).mono ?_); (case side1 => repeat (first | exact (Kd.S_reads' HO226.out).2.2 | (with_reducible refine Kd.C_alloc ?_ _) | (with_reducible refine Kd.C_drewN ?_ _) | (with_reducible refine Kd.C_drew ?_))); (case side2 => exact (Kd.S_reads' HO226.out).2.1); rintro e w25 ⟨rfl, hb⟩; refine ⟨_, rfl, ?_⟩; have n0_ := Aside0.mk (Kd.S_below (by (with_reducible repeat (first | apply Kd.S_alloc | apply Kd.S_drewN | apply Kd.S_drew)); exact HO226.out) hb); have n1_ := Aside0.mk (Kd.R_below (by (with_reducible repeat (first | apply Kd.R_alloc | apply Kd.R_drewN | apply Kd.R_drew)); exact HO230.out) hb); have n2_ := Aside0.mk (below_step (by repeat (first | (with_reducible first | exact HB.out | apply below_alloc | apply pw_below_drewN | apply below_drew1) | exact HB.out)) hb); clear HO226; clear HO230; clear HB; have HO226 := n0_; have HO230 := n1_; have HB := n2_; clear n0_ n1_ n2_; (try clear hb); (try clear hb2); (try clear hk); (try clear hi)) | ((with_reducible refine gate_callee (f := 18) rfl ?_); refine goesL_ (some 14) rfl rfl Tryd.func18 (by kernel_rfl) rfl #[.int .i64 t231] rfl (by (try simp only [List.map_toArray, List.map_cons, List.map_nil]); first | done | rfl | (simp only [List.length_drop, List.length_take]; rfl)) ?_; (with_reducible refine (lectionarylaw5_num.calls t231 t232 _ A3.out).mono ?_); rintro e w' ⟨rfl, ⟨nd, rfl⟩⟩; refine ⟨_, rfl, ?_⟩) | (go_at_call 18; (with_reducible refine (lectionarylaw5_num.calls t228 t233 _ A5.out).mono ?_); rintro e w' ⟨rfl, ⟨nd, rfl⟩⟩))
    go_ret
    exact ⟨by first | rfl | (simp [errW_none, errW_some] <;> rfl) | (simp [*, errW_none, errW_some] <;> rfl), by repeat (first | (with_reducible first | exact HB.out | apply below_alloc | apply pw_below_drewN | apply below_drew1) | exact HB.out)⟩
  rw [if_neg c4] at H
  have c4b0 : (t232 == 0) = false := beq_eq_false_iff_ne.mpr c4
  have c4b1 : (t232 != 0) = true := bne_iff_ne.mpr c4
  obtain rfl := Option.some.inj H
  go_enter Tryd.func21, Tryd.ntmps21
  go_wp2_with (first | ((with_reducible refine gate_dst (N := 6) rfl ?_); (try (refine gate_guard (by rfl) ?_; dsimp only)); refine Kd.S_lit kOp _ 31 ?hg (N := 6) ?hd (xs := ([(⟨1, 1, 1, (⟨0, 0, 0⟩ : SElem), (⟨#[97]⟩ : ByteArray), ([] : List (SElem)), 0, 0, 0⟩ : SOp), (⟨2, 1, 1, (⟨0, 0, 0⟩ : SElem), (⟨#[98]⟩ : ByteArray), ([] : List (SElem)), 0, 0, 0⟩ : SOp)] : List (SOp))) (inner := [.int .i64 1, .int .i64 1, .int .i64 1, .int .i64 0, .int .i64 0, .int .i64 0, .string (⟨#[97]⟩ : ByteArray), .slice none 0 0, .int .i64 0, .int .i64 0, .int .i64 0, .int .i64 2, .int .i64 1, .int .i64 1, .int .i64 0, .int .i64 0, .int .i64 0, .string (⟨#[98]⟩ : ByteArray), .slice none 0 0, .int .i64 0, .int .i64 0, .int .i64 0]) (ok := fun _ => True) (okp := fun _ => True) ?hr ?hp (fun _ hk => hk) trivial (Below.refl _ _) (Nat.le_refl _) (by simp) ?_; (case hd => rfl); (case hg => rfl); (case hr => first | (go_simp; done) | (go_simp; rfl)); (case hp => exact (Reps.front (show Kd.M kOp _ _ _ (⟨1, 1, 1, (⟨0, 0, 0⟩ : SElem), (⟨#[97]⟩ : ByteArray), ([] : List (SElem)), 0, 0, 0⟩ : SOp) [.int .i64 1, .int .i64 1, .int .i64 1, .int .i64 0, .int .i64 0, .int .i64 0, .string (⟨#[97]⟩ : ByteArray), .slice none 0 0, .int .i64 0, .int .i64 0, .int .i64 0] from (kOp_mkM _ _ _ (⟨1, 1, 1, (⟨0, 0, 0⟩ : SElem), (⟨#[97]⟩ : ByteArray), ([] : List (SElem)), 0, 0, 0⟩ : SOp) (Kd.R_nil _ _ _ _ _))) rfl (Reps.front (show Kd.M kOp _ _ _ (⟨2, 1, 1, (⟨0, 0, 0⟩ : SElem), (⟨#[98]⟩ : ByteArray), ([] : List (SElem)), 0, 0, 0⟩ : SOp) [.int .i64 2, .int .i64 1, .int .i64 1, .int .i64 0, .int .i64 0, .int .i64 0, .string (⟨#[98]⟩ : ByteArray), .slice none 0 0, .int .i64 0, .int .i64 0, .int .i64 0] from (kOp_mkM _ _ _ (⟨2, 1, 1, (⟨0, 0, 0⟩ : SElem), (⟨#[98]⟩ : ByteArray), ([] : List (SElem)), 0, 0, 0⟩ : SOp) (Kd.R_nil _ _ _ _ _))) rfl (Reps.none _ _) rfl) rfl)); intro v225 w26 ho27 hb hg_ hnew_; clear hg_ hnew_; (first | rw [← Ny224.out] at ho27 | (simp only [Int.reduceToNat] at ho27; rw [← Ny224.out] at ho27)); have n0_ := Aside0.mk (Kd.S_lower ho27 (below_size (by repeat (first | (with_reducible first | exact HB.out | apply below_alloc | apply pw_below_drewN | apply below_drew1) | exact HB.out)))); have n1_ := Aside0.mk (below_step (by repeat (first | (with_reducible first | exact HB.out | apply below_alloc | apply pw_below_drewN | apply below_drew1) | exact HB.out)) hb); clear HB; have HO226 := n0_; have HB := n1_; clear n0_ n1_; clear hb ho27; obtain ⟨Ao28, co28, eo28⟩ := Kd.S_slice HO226.out; subst eo28) | ((with_reducible refine gate_callee (f := 25) rfl ?_); refine goesL_ (some 9) rfl rfl Tryd.func25 (by kernel_rfl) rfl #[.slice Ao28 y224.length co28] rfl (by (try simp only [List.map_toArray, List.map_cons, List.map_nil]); first | done | rfl | (simp only [List.length_drop, List.length_take]; rfl)) ?_; (with_reducible refine (tree_Order.calls _ _ y224 t227 t228 _ ?side1 ?side2 A1.out).mono ?_); (case side1 => repeat (first | exact (Kd.S_reads' HO226.out).2.2 | (with_reducible refine Kd.C_alloc ?_ _) | (with_reducible refine Kd.C_drewN ?_ _) | (with_reducible refine Kd.C_drew ?_))); (case side2 => exact (Kd.S_reads' HO226.out).2.1); rintro e w29 ⟨v229, rfl, ho0, hb⟩; refine ⟨_, rfl, ?_⟩; have n0_ := Aside0.mk (Kd.S_elder' (by (with_reducible repeat (first | apply Kd.S_alloc | apply Kd.S_drewN | apply Kd.S_drew)); exact HO226.out) (Kd.R_base ho0) hb); have n1_ := Aside0.mk (Kd.R_lower ho0 (below_size (by repeat (first | (with_reducible first | exact HB.out | apply below_alloc | apply pw_below_drewN | apply below_drew1) | exact HB.out)))); have n2_ := Aside0.mk (below_step (by repeat (first | (with_reducible first | exact HB.out | apply below_alloc | apply pw_below_drewN | apply below_drew1) | exact HB.out)) hb); clear HO226; clear HB; have HO226 := n0_; have HO230 := n1_; have HB := n2_; clear n0_ n1_ n2_; (try clear hb); (try clear hb2); (try clear hk); (try clear hi); (try clear ho0)) | ((with_reducible refine gate_callee (f := 19) rfl ?_); refine goesL_ (some 13) rfl rfl Tryd.func19 (by kernel_rfl) rfl #[.slice Ao28 y224.length co28] rfl (by (try simp only [List.map_toArray, List.map_cons, List.map_nil]); first | done | rfl | (simp only [List.length_drop, List.length_take]; rfl)) ?_; (with_reducible refine (tree_Check.calls _ _ y224 t231 _ ?side1 ?side2 A2.out).mono ?_); (case side1 => repeat (first | exact (Kd.S_reads' HO226.out).2.2 | (with_reducible refine Kd.C_alloc ?_ _) | (with_reducible refine Kd.C_drewN ?_ _) | (with_reducible refine Kd.C_drew ?_))); (case side2 => exact (Kd.S_reads' HO226.out).2.1); rintro e w30 ⟨rfl, hb⟩; refine ⟨_, rfl, ?_⟩; have n0_ := Aside0.mk (Kd.S_below (by (with_reducible repeat (first | apply Kd.S_alloc | apply Kd.S_drewN | apply Kd.S_drew)); exact HO226.out) hb); have n1_ := Aside0.mk (Kd.R_below (by (with_reducible repeat (first | apply Kd.R_alloc | apply Kd.R_drewN | apply Kd.R_drew)); exact HO230.out) hb); have n2_ := Aside0.mk (below_step (by repeat (first | (with_reducible first | exact HB.out | apply below_alloc | apply pw_below_drewN | apply below_drew1) | exact HB.out)) hb); clear HO226; clear HO230; clear HB; have HO226 := n0_; have HO230 := n1_; have HB := n2_; clear n0_ n1_ n2_; (try clear hb); (try clear hb2); (try clear hk); (try clear hi)) | ((with_reducible refine gate_callee (f := 18) rfl ?_); refine goesL_ (some 14) rfl rfl Tryd.func18 (by kernel_rfl) rfl #[.int .i64 t231] rfl (by (try simp only [List.map_toArray, List.map_cons, List.map_nil]); first | done | rfl | (simp only [List.length_drop, List.length_take]; rfl)) ?_; (with_reducible refine (lectionarylaw5_num.calls t231 t232 _ A3.out).mono ?_); rintro e w' ⟨rfl, ⟨nd, rfl⟩⟩; refine ⟨_, rfl, ?_⟩))
  go_ret
  exact ⟨by first | rfl | (simp [errW_none, errW_some] <;> rfl) | (simp [*, errW_none, errW_some] <;> rfl), by repeat (first | (with_reducible first | exact HB.out | apply below_alloc | apply pw_below_drewN | apply below_drew1) | exact HB.out)⟩
mutual
def lectionarylaw5_TreeLimits.l0 : Nat → List (SOp) → Int → List (List (SOp)) → List (SElem) → List (SOp) → List Int → Option (Bool)
  | 0, _, _, _, _, _, _ => none
  | k + 1, x3, x4, x236000, x236001, x236002, x236003 => if x4 < 42 then (if x3.length < 1256584717458 then ((some (x3 ++ [(⟨wrap64 (1 + (Int.tmod x4 4)), wrap64 (1 + (wrap64 (Int.tdiv x4 4))), 1, (⟨0, 0, 0⟩ : SElem), (⟨#[97]⟩ : ByteArray), ([] : List (SElem)), 0, 0, 0⟩ : SOp)] : List (SOp))).bind fun y236 => ((tree_Check.f y236).bind fun t239 => ((lectionarylaw5_num.f t239).bind fun t240 => (if ((t240 == 0) != (decide ((y236.length : Int) ≤ 40))) = true then (some false) else (lectionarylaw5_TreeLimits.l0 k y236 (wrap64 (x4 + 1)) x236000 x236001 x236002 x236003))))) else (none)) else (lectionarylaw5_TreeLimits.l1 k ([] : List (SOp)) 0 x236000 x236001 x236002 x236003)
def lectionarylaw5_TreeLimits.l1 : Nat → List (SOp) → Int → List (List (SOp)) → List (SElem) → List (SOp) → List Int → Option (Bool)
  | 0, _, _, _, _, _, _ => none
  | k + 1, x5, x6, x236000, x236001, x236002, x236003 => if x6 < 20 then (if 0 ≤ (wrap64 (10 + (Int.tmod x6 3))) then (if (wrap64 (10 + (Int.tmod x6 3))) ≤ 12 then (if x5.length < 1256584717458 then ((some (x5 ++ [(⟨1, wrap64 (1 + x6), 1, (⟨0, 0, 0⟩ : SElem), (⟨#[48, 49, 50, 51, 52, 53, 54, 55, 56, 57, 97, 98]⟩ : ByteArray).extract 0 ((wrap64 (10 + (Int.tmod x6 3))) : Int).toNat, ([] : List (SElem)), 0, 0, 0⟩ : SOp)] : List (SOp))).bind fun y242 => ((tree_Check.f y242).bind fun t245 => ((lectionarylaw5_num.f t245).bind fun t246 => ((lectionaryref4_Row.f k y242).bind fun t247 => (if ((t246 == 0) != t247) = true then (some false) else (lectionarylaw5_TreeLimits.l1 k y242 (wrap64 (x6 + 1)) x236000 x236001 x236002 x236003)))))) else (none)) else (none)) else (none)) else (if (x236000.length : Int) ≥ 0 then ((lectionarylaw5_wakes.f).bind fun t241 => (some t241)) else (some false))
end
def lectionarylaw5_TreeLimits.f (k : Nat) (l0_0 : List (List (SOp))) (l0_1 : List (SElem)) (l0_2 : List (SOp)) (l0_3 : List Int) : Option (Bool) := lectionarylaw5_TreeLimits.l0 k ([] : List (SOp)) 0 l0_0 l0_1 l0_2 l0_3
set_option maxHeartbeats 8000000 in
set_option maxRecDepth 100000 in
theorem lectionarylaw5_TreeLimits.calls (k : Nat) (A0_0 : Option Addr) (c0_0 : Nat) (l0_0 : List (List (SOp))) (A0_1 : Option Addr) (c0_1 : Nat) (l0_1 : List (SElem)) (A0_2 : Option Addr) (c0_2 : Nat) (l0_2 : List (SOp)) (A0_3 : Option Addr) (c0_3 : Nat) (l0_3 : List Int) (r : Bool) (w : World) (hr0_0 : Kd.C (Kd.slice 31 kOp) w A0_0 l0_0.length l0_0) (hc0_0 : l0_0.length ≤ c0_0) (hr0_1 : Kd.C kElem w A0_1 l0_1.length l0_1) (hc0_1 : l0_1.length ≤ c0_1) (hr0_2 : Kd.C kOp w A0_2 l0_2.length l0_2) (hc0_2 : l0_2.length ≤ c0_2) (hr0_3 : Kd.C (Kd.int .i64) w A0_3 l0_3.length l0_3) (hc0_3 : l0_3.length ≤ c0_3) (hT : GT w) (h : lectionarylaw5_TreeLimits.f k l0_0 l0_1 l0_2 l0_3 = some r) :
    Calls Tryd.prog 3 #[.agg #[.slice A0_0 l0_0.length c0_0, .slice A0_1 l0_1.length c0_1, .slice A0_2 l0_2.length c0_2, .slice A0_3 l0_3.length c0_3]] w fun e w' => e = .returned (.bool r) ∧ Below w.heap.size w w' := by
  have hu27 := Tryd.underlying27
  have hu31 := Tryd.underlying31
  have HR0_0 := Aside0.mk hr0_0
  have HC0_0 := Aside0.mk hc0_0
  clear hr0_0 hc0_0
  have HR0_1 := Aside0.mk hr0_1
  have HC0_1 := Aside0.mk hc0_1
  clear hr0_1 hc0_1
  have HR0_2 := Aside0.mk hr0_2
  have HC0_2 := Aside0.mk hc0_2
  clear hr0_2 hc0_2
  have HR0_3 := Aside0.mk hr0_3
  have HC0_3 := Aside0.mk hc0_3
  clear hr0_3 hc0_3
  have HB := Aside0.mk (Below.refl w.heap.size w)
  have H : (lectionarylaw5_TreeLimits.l0 k ([] : List (SOp)) 0 l0_0 l0_1 l0_2 l0_3) = some r := h
  clear h
  have H' := Aside0.mk H
  clear H
  go_enter Tryd.func3, Tryd.ntmps3
  go_wp2_with (first | ((with_reducible refine gate_dst (N := 1) rfl ?_); refine box_event ?hg (N := 1) ?hd (cs := #[.slice A0_0 l0_0.length c0_0, .slice A0_1 l0_1.length c0_1, .slice A0_2 l0_2.length c0_2, .slice A0_3 l0_3.length c0_3]) (t := 27) ?hr ?_; (case hd => rfl); (case hg => rfl); (case hr => first | (go_simp; done) | (go_simp; rfl)); intro gb235 hg w2 hbox hb; have n0_ := Aside0.mk (below_step (by repeat (first | (with_reducible first | exact HB.out | apply below_alloc | apply pw_below_drewN | apply below_drew1) | exact HB.out)) hb); have n1_ := Aside0.mk (hbox); have n2_ := Aside0.mk ((by rw [hg]; exact (below_size (by repeat (first | (with_reducible first | exact HB.out | apply below_alloc | apply pw_below_drewN | apply below_drew1) | exact HB.out))) : w.heap.size ≤ gb235)); have n3_ := Aside0.mk ((by rw [hg]; exact (below_size (by repeat (first | (with_reducible first | exact HB.out | apply below_alloc | apply pw_below_drewN | apply below_drew1) | exact HB.out))) : w.heap.size ≤ gb235)); clear HB; have HB := n0_; have BK235 := n1_; have GW235 := n2_; have GE235 := n3_; clear n0_ n1_ n2_ n3_; clear hb hbox hg))
  go_loopg [3, 4] k (fun kq v3 v4 w' => ∃ (x3_1 : List (SOp)) (x4_1 : Int), v4 = .int .i64 x4_1 ∧ Aside0 (lectionarylaw5_TreeLimits.l0 kq x3_1 x4_1 l0_0 l0_1 l0_2 l0_3 = some r) ∧ Aside0 (kq ≤ k) ∧ Aside0 (Kd.S kOp 31 w' w.heap.size (fun _ => True) v3 x3_1) ∧ Aside0 (w'.heap[gb235]? = some (.cells #[(.slice A0_0 l0_0.length c0_0), (.slice A0_1 l0_1.length c0_1), (.slice A0_2 l0_2.length c0_2), (.slice A0_3 l0_3.length c0_3)] 27 (0, 0))) ∧ Aside0 (Below w.heap.size w w'))
  case atStart => exact ⟨(([] : List (SOp))), (0), (by first | rfl | (simp; done) | (simp [*]; done)), H', ⟨Nat.le_refl _⟩, ⟨by first | exact Kd.S_nil _ _ _ _ _ | exact Kd.N_nil _ _ _ _ _ | exact Kd.V_nil _ _ _ _ _ | exact Kd.Q_nil _ _ _ _ _ | exact Kd.R_nil _ _ _ _ _⟩, ⟨by (with_reducible repeat (first | refine blk_drewN ?_ _ | refine blk_drew ?_ | refine blk_alloc ?_ _)); exact BK235.out⟩, ⟨by repeat (first | (with_reducible first | exact HB.out | apply below_alloc | apply pw_below_drewN | apply below_drew1 | refine below_set ?_ GE235.out) | exact HB.out)⟩⟩
  case round =>
    clear H'
    obtain ⟨x3_1, x4_1, rfl, HA, HK1, HO_3, BK235, HB⟩ := hrel
    cases gk with
    | zero => exact absurd HA.out (by simp [lectionarylaw5_TreeLimits.l0])
    | succ k1 =>
      have H := HA.out
      clear HA
      simp only [lectionarylaw5_TreeLimits.l0] at H
      by_cases c3 : x4_1 < 42
      · rw [if_pos c3] at H
        have c3b0 : decide (x4_1 < 42) = true := decide_eq_true c3
        clear c3
        by_cases c4 : x3_1.length < 1256584717458
        · rw [if_pos c4] at H
          have LMc4 := Aside0.mk c4
          clear c4
          obtain ⟨y236, hy236⟩ : ∃ y_ : List (SOp), y_ = (x3_1 ++ [(⟨wrap64 (1 + (Int.tmod x4_1 4)), wrap64 (1 + (wrap64 (Int.tdiv x4_1 4))), 1, (⟨0, 0, 0⟩ : SElem), (⟨#[97]⟩ : ByteArray), ([] : List (SElem)), 0, 0, 0⟩ : SOp)]) := ⟨_, rfl⟩
          replace H : ((tree_Check.f y236).bind fun t239 => ((lectionarylaw5_num.f t239).bind fun t240 => (if ((t240 == 0) != (decide ((y236.length : Int) ≤ 40))) = true then (some false) else (lectionarylaw5_TreeLimits.l0 k1 y236 (wrap64 (x4_1 + 1)) l0_0 l0_1 l0_2 l0_3)))) = some r := by first | (rw [hy236]; with_reducible exact H) | (have H2_ := (Option.bind_some _ _).symm.trans H; rw [hy236]; with_reducible exact H2_) | (have H2_ := (Option.bind_some _ _).symm.trans H; with_reducible exact H2_) | with_reducible exact H | (rw [hy236]; exact H) | exact H
          have Ny236 := Aside0.mk hy236
          clear hy236
          replace H := Option.bind_eq_some_iff.mp H
          obtain ⟨t239, A50, H⟩ := H
          replace H : ((lectionarylaw5_num.f t239).bind fun t240 => (if ((t240 == 0) != (decide ((y236.length : Int) ≤ 40))) = true then (some false) else (lectionarylaw5_TreeLimits.l0 k1 y236 (wrap64 (x4_1 + 1)) l0_0 l0_1 l0_2 l0_3))) = some r := H
          have A5 := Aside0.mk A50
          clear A50
          replace H := Option.bind_eq_some_iff.mp H
          obtain ⟨t240, A60, H⟩ := H
          replace H : (if ((t240 == 0) != (decide ((y236.length : Int) ≤ 40))) = true then (some false) else (lectionarylaw5_TreeLimits.l0 k1 y236 (wrap64 (x4_1 + 1)) l0_0 l0_1 l0_2 l0_3)) = some r := H
          have A6 := Aside0.mk A60
          clear A60
          by_cases c7 : ((t240 == 0) != (decide ((y236.length : Int) ≤ 40))) = true
          · rw [if_pos c7] at H
            have c7b0 : ((t240 == 0) != (decide ((y236.length : Int) ≤ 40))) = true := c7
            (try (have c7b1 : decide ((t240 == 0) = (decide ((y236.length : Int) ≤ 40))) = false := by simpa using c7))
            (try (have c7b2 : ((t240 == 0) == (decide ((y236.length : Int) ≤ 40))) = false := by simpa using c7))
            (try (have c7b3 : ¬ ((t240 == 0) = (decide ((y236.length : Int) ≤ 40))) := by simpa using c7))
            clear c7
            obtain rfl := Option.some.inj H
            go_wp2_with (first | ((with_reducible refine gate_builtin (b := .append) (xs := #[.tmp 11, .tmp 19]) rfl ?_); at_builtin; refine Kd.S_append kOp (w0 := w) w.heap.size rfl (.tmp 11) (.tmp 19) 24 31 (.agg #[(.int .i64 0), (.int .i64 0), (.int .i64 0), (.int .i64 0), (.int .i64 0), (.int .i64 0), (.string ⟨#[]⟩), (.slice none 0 0), (.int .i64 0), (.int .i64 0), (.int .i64 0)]) 112 rfl Tryd.underlying24 info31 rfl (by decide) (by omega) u3 x3_1 (⟨wrap64 (1 + (Int.tmod x4_1 4)), wrap64 (1 + (wrap64 (Int.tdiv x4_1 4))), 1, (⟨0, 0, 0⟩ : SElem), (⟨#[97]⟩ : ByteArray), ([] : List (SElem)), 0, 0, 0⟩ : SOp) [.int .i64 (wrap64 (1 + (Int.tmod x4_1 4))), .int .i64 (wrap64 (1 + (wrap64 (Int.tdiv x4_1 4)))), .int .i64 1, .int .i64 0, .int .i64 0, .int .i64 0, .string (⟨#[97]⟩ : ByteArray), .slice none 0 0, .int .i64 0, .int .i64 0, .int .i64 0] (fun _ => True) (fun _ => False) rfl rfl ?aP (fun k_ hk_ => hk_.elim) ?aF ?aO ?aB ?aS ?aL ?_; (case aP => exact kOp_mkM _ _ _ (⟨wrap64 (1 + (Int.tmod x4_1 4)), wrap64 (1 + (wrap64 (Int.tdiv x4_1 4))), 1, (⟨0, 0, 0⟩ : SElem), (⟨#[97]⟩ : ByteArray), ([] : List (SElem)), 0, 0, 0⟩ : SOp) (Kd.R_nil _ _ _ _ _)); (case aB => exact (by repeat (first | (with_reducible first | exact HB.out | apply below_alloc | apply pw_below_drewN | apply below_drew1 | refine below_set ?_ GE235.out) | exact HB.out))); (case aF => exact (fun _ _ => trivial)); (case aO => exact (by (with_reducible repeat (first | apply Kd.S_alloc | apply Kd.S_drewN | apply Kd.S_drew)); exact Kd.S_mono HO_3.out (fun k_ hk => ⟨trivial, fun e_ => e_⟩))); (case aS => exact (below_size (by repeat (first | (with_reducible first | exact HB.out | apply below_alloc | apply pw_below_drewN | apply below_drew1 | refine below_set ?_ GE235.out) | exact HB.out)))); (case aL => have := LMc4.out; omega); intro v237 w8 ho hb hg hat; rw [← Ny236.out] at ho; have n0_ := Aside0.mk (blk_grown (g := gb235) (o := .cells #[.slice A0_0 l0_0.length c0_0, .slice A0_1 l0_1.length c0_1, .slice A0_2 l0_2.length c0_2, .slice A0_3 l0_3.length c0_3] 27 (0, 0)) (by (with_reducible repeat (first | refine blk_drewN ?_ _ | refine blk_drew ?_ | refine blk_alloc ?_ _)); exact BK235.out) hg (Kd.S_ne HO_3.out BK235.out (by decide))); have n1_ := Aside0.mk (hb); have n2_ := Aside0.mk (ho); clear BK235; clear HB; clear HO_3; have BK235 := n0_; have HB := n1_; have HO238 := n2_; clear n0_ n1_ n2_; clear ho hb hg hat; obtain ⟨Ao9, co9, eo9⟩ := Kd.S_slice HO238.out; subst eo9) | ((with_reducible refine gate_callee (f := 19) rfl ?_); refine goesL_ (some 22) rfl rfl Tryd.func19 (by kernel_rfl) rfl #[.slice Ao9 y236.length co9] rfl (by (try simp only [List.map_toArray, List.map_cons, List.map_nil]); first | done | rfl | (simp only [List.length_drop, List.length_take]; rfl)) ?_; (with_reducible refine (tree_Check.calls _ _ y236 t239 _ ?side1 ?side2 A5.out).mono ?_); (case side1 => repeat (first | exact (Kd.S_reads' HO238.out).2.2 | (with_reducible refine Kd.C_alloc ?_ _) | (with_reducible refine Kd.C_drewN ?_ _) | (with_reducible refine Kd.C_drew ?_))); (case side2 => exact (Kd.S_reads' HO238.out).2.1); rintro e w10 ⟨rfl, hb⟩; refine ⟨_, rfl, ?_⟩; have n0_ := Aside0.mk (Kd.S_below (by (with_reducible repeat (first | apply Kd.S_alloc | apply Kd.S_drewN | apply Kd.S_drew)); exact HO238.out) hb); have n1_ := Aside0.mk (blk_below (g := gb235) (o := .cells #[.slice A0_0 l0_0.length c0_0, .slice A0_1 l0_1.length c0_1, .slice A0_2 l0_2.length c0_2, .slice A0_3 l0_3.length c0_3] 27 (0, 0)) (by (with_reducible repeat (first | refine blk_drewN ?_ _ | refine blk_drew ?_ | refine blk_alloc ?_ _)); exact BK235.out) hb); have n2_ := Aside0.mk (below_step (by repeat (first | (with_reducible first | exact HB.out | apply below_alloc | apply pw_below_drewN | apply below_drew1 | refine below_set ?_ GE235.out) | exact HB.out)) hb); clear HO238; clear BK235; clear HB; have HO238 := n0_; have BK235 := n1_; have HB := n2_; clear n0_ n1_ n2_; (try clear hb); (try clear hb2); (try clear hk); (try clear hi)) | ((with_reducible refine gate_callee (f := 18) rfl ?_); refine goesL_ (some 23) rfl rfl Tryd.func18 (by kernel_rfl) rfl #[.int .i64 t239] rfl (by (try simp only [List.map_toArray, List.map_cons, List.map_nil]); first | done | rfl | (simp only [List.length_drop, List.length_take]; rfl)) ?_; (with_reducible refine (lectionarylaw5_num.calls t239 t240 _ A6.out).mono ?_); rintro e w' ⟨rfl, ⟨nd, rfl⟩⟩; refine ⟨_, rfl, ?_⟩))
            go_ret
            exact ⟨by first | rfl | (simp [errW_none, errW_some] <;> rfl) | (simp [*, errW_none, errW_some] <;> rfl), by repeat (first | (with_reducible first | exact HB.out | apply below_alloc | apply pw_below_drewN | apply below_drew1 | refine below_set ?_ GE235.out) | exact HB.out)⟩
          rw [if_neg c7] at H
          have c7b0 : ((t240 == 0) != (decide ((y236.length : Int) ≤ 40))) = false := by simpa using c7
          (try (have c7b1 : decide ((t240 == 0) = (decide ((y236.length : Int) ≤ 40))) = true := by simpa using c7))
          (try (have c7b2 : ((t240 == 0) == (decide ((y236.length : Int) ≤ 40))) = true := by simpa using c7))
          clear c7
          have H' := Aside0.mk H
          clear H
          go_wp2_with (first | ((with_reducible refine gate_builtin (b := .append) (xs := #[.tmp 11, .tmp 19]) rfl ?_); at_builtin; refine Kd.S_append kOp (w0 := w) w.heap.size rfl (.tmp 11) (.tmp 19) 24 31 (.agg #[(.int .i64 0), (.int .i64 0), (.int .i64 0), (.int .i64 0), (.int .i64 0), (.int .i64 0), (.string ⟨#[]⟩), (.slice none 0 0), (.int .i64 0), (.int .i64 0), (.int .i64 0)]) 112 rfl Tryd.underlying24 info31 rfl (by decide) (by omega) u3 x3_1 (⟨wrap64 (1 + (Int.tmod x4_1 4)), wrap64 (1 + (wrap64 (Int.tdiv x4_1 4))), 1, (⟨0, 0, 0⟩ : SElem), (⟨#[97]⟩ : ByteArray), ([] : List (SElem)), 0, 0, 0⟩ : SOp) [.int .i64 (wrap64 (1 + (Int.tmod x4_1 4))), .int .i64 (wrap64 (1 + (wrap64 (Int.tdiv x4_1 4)))), .int .i64 1, .int .i64 0, .int .i64 0, .int .i64 0, .string (⟨#[97]⟩ : ByteArray), .slice none 0 0, .int .i64 0, .int .i64 0, .int .i64 0] (fun _ => True) (fun _ => False) rfl rfl ?aP (fun k_ hk_ => hk_.elim) ?aF ?aO ?aB ?aS ?aL ?_; (case aP => exact kOp_mkM _ _ _ (⟨wrap64 (1 + (Int.tmod x4_1 4)), wrap64 (1 + (wrap64 (Int.tdiv x4_1 4))), 1, (⟨0, 0, 0⟩ : SElem), (⟨#[97]⟩ : ByteArray), ([] : List (SElem)), 0, 0, 0⟩ : SOp) (Kd.R_nil _ _ _ _ _)); (case aB => exact (by repeat (first | (with_reducible first | exact HB.out | apply below_alloc | apply pw_below_drewN | apply below_drew1 | refine below_set ?_ GE235.out) | exact HB.out))); (case aF => exact (fun _ _ => trivial)); (case aO => exact (by (with_reducible repeat (first | apply Kd.S_alloc | apply Kd.S_drewN | apply Kd.S_drew)); exact Kd.S_mono HO_3.out (fun k_ hk => ⟨trivial, fun e_ => e_⟩))); (case aS => exact (below_size (by repeat (first | (with_reducible first | exact HB.out | apply below_alloc | apply pw_below_drewN | apply below_drew1 | refine below_set ?_ GE235.out) | exact HB.out)))); (case aL => have := LMc4.out; omega); intro v237 w11 ho hb hg hat; rw [← Ny236.out] at ho; have n0_ := Aside0.mk (blk_grown (g := gb235) (o := .cells #[.slice A0_0 l0_0.length c0_0, .slice A0_1 l0_1.length c0_1, .slice A0_2 l0_2.length c0_2, .slice A0_3 l0_3.length c0_3] 27 (0, 0)) (by (with_reducible repeat (first | refine blk_drewN ?_ _ | refine blk_drew ?_ | refine blk_alloc ?_ _)); exact BK235.out) hg (Kd.S_ne HO_3.out BK235.out (by decide))); have n1_ := Aside0.mk (hb); have n2_ := Aside0.mk (ho); clear BK235; clear HB; clear HO_3; have BK235 := n0_; have HB := n1_; have HO238 := n2_; clear n0_ n1_ n2_; clear ho hb hg hat; obtain ⟨Ao12, co12, eo12⟩ := Kd.S_slice HO238.out; subst eo12) | ((with_reducible refine gate_callee (f := 19) rfl ?_); refine goesL_ (some 22) rfl rfl Tryd.func19 (by kernel_rfl) rfl #[.slice Ao12 y236.length co12] rfl (by (try simp only [List.map_toArray, List.map_cons, List.map_nil]); first | done | rfl | (simp only [List.length_drop, List.length_take]; rfl)) ?_; (with_reducible refine (tree_Check.calls _ _ y236 t239 _ ?side1 ?side2 A5.out).mono ?_); (case side1 => repeat (first | exact (Kd.S_reads' HO238.out).2.2 | (with_reducible refine Kd.C_alloc ?_ _) | (with_reducible refine Kd.C_drewN ?_ _) | (with_reducible refine Kd.C_drew ?_))); (case side2 => exact (Kd.S_reads' HO238.out).2.1); rintro e w13 ⟨rfl, hb⟩; refine ⟨_, rfl, ?_⟩; have n0_ := Aside0.mk (Kd.S_below (by (with_reducible repeat (first | apply Kd.S_alloc | apply Kd.S_drewN | apply Kd.S_drew)); exact HO238.out) hb); have n1_ := Aside0.mk (blk_below (g := gb235) (o := .cells #[.slice A0_0 l0_0.length c0_0, .slice A0_1 l0_1.length c0_1, .slice A0_2 l0_2.length c0_2, .slice A0_3 l0_3.length c0_3] 27 (0, 0)) (by (with_reducible repeat (first | refine blk_drewN ?_ _ | refine blk_drew ?_ | refine blk_alloc ?_ _)); exact BK235.out) hb); have n2_ := Aside0.mk (below_step (by repeat (first | (with_reducible first | exact HB.out | apply below_alloc | apply pw_below_drewN | apply below_drew1 | refine below_set ?_ GE235.out) | exact HB.out)) hb); clear HO238; clear BK235; clear HB; have HO238 := n0_; have BK235 := n1_; have HB := n2_; clear n0_ n1_ n2_; (try clear hb); (try clear hb2); (try clear hk); (try clear hi)) | ((with_reducible refine gate_callee (f := 18) rfl ?_); refine goesL_ (some 23) rfl rfl Tryd.func18 (by kernel_rfl) rfl #[.int .i64 t239] rfl (by (try simp only [List.map_toArray, List.map_cons, List.map_nil]); first | done | rfl | (simp only [List.length_drop, List.length_take]; rfl)) ?_; (with_reducible refine (lectionarylaw5_num.calls t239 t240 _ A6.out).mono ?_); rintro e w' ⟨rfl, ⟨nd, rfl⟩⟩; refine ⟨_, rfl, ?_⟩))
          go_roundg k1
          case measure => have := HK1.out; omega
          case rel => exact ⟨(y236), (wrap64 (x4_1 + 1)), (by first | rfl | (simp; done) | (simp [*]; done)), H', ⟨by have := HK1.out; omega⟩, ⟨by (with_reducible repeat (first | apply Kd.S_alloc | apply Kd.S_drewN | apply Kd.S_drew)); exact HO238.out⟩, ⟨by (with_reducible repeat (first | refine blk_drewN ?_ _ | refine blk_drew ?_ | refine blk_alloc ?_ _)); exact BK235.out⟩, ⟨by repeat (first | (with_reducible first | exact HB.out | apply below_alloc | apply pw_below_drewN | apply below_drew1 | refine below_set ?_ GE235.out) | exact HB.out)⟩⟩
        rw [if_neg c4] at H
        exact absurd H (by simp)
      rw [if_neg c3] at H
      have c3b0 : decide (x4_1 < 42) = false := decide_eq_false c3
      clear c3
      have H' := Aside0.mk H
      clear H
      go_wp2
      go_loopg [5, 6] k1 (fun kq v5 v6 w' => ∃ (x5_2 : List (SOp)) (x6_2 : Int), v6 = .int .i64 x6_2 ∧ Aside0 (lectionarylaw5_TreeLimits.l1 kq x5_2 x6_2 l0_0 l0_1 l0_2 l0_3 = some r) ∧ Aside0 (kq ≤ k1) ∧ Aside0 (Kd.S kOp 31 w' w.heap.size (fun _ => True) v5 x5_2) ∧ Aside0 (w'.heap[gb235]? = some (.cells #[(.slice A0_0 l0_0.length c0_0), (.slice A0_1 l0_1.length c0_1), (.slice A0_2 l0_2.length c0_2), (.slice A0_3 l0_3.length c0_3)] 27 (0, 0))) ∧ Aside0 (Below w.heap.size w w'))
      case atStart => exact ⟨(([] : List (SOp))), (0), (by first | rfl | (simp; done) | (simp [*]; done)), H', ⟨Nat.le_refl _⟩, ⟨by first | exact Kd.S_nil _ _ _ _ _ | exact Kd.N_nil _ _ _ _ _ | exact Kd.V_nil _ _ _ _ _ | exact Kd.Q_nil _ _ _ _ _ | exact Kd.R_nil _ _ _ _ _⟩, ⟨by (with_reducible repeat (first | refine blk_drewN ?_ _ | refine blk_drew ?_ | refine blk_alloc ?_ _)); exact BK235.out⟩, ⟨by repeat (first | (with_reducible first | exact HB.out | apply below_alloc | apply pw_below_drewN | apply below_drew1 | refine below_set ?_ GE235.out) | exact HB.out)⟩⟩
      case round =>
        clear H'
        try clear c3b0
        obtain ⟨x5_2, x6_2, rfl, HA, HK2, HO_5, BK235, HB⟩ := hrel
        cases gk with
        | zero => exact absurd HA.out (by simp [lectionarylaw5_TreeLimits.l1])
        | succ k2 =>
          have H := HA.out
          clear HA
          simp only [lectionarylaw5_TreeLimits.l1] at H
          by_cases c14 : x6_2 < 20
          · rw [if_pos c14] at H
            have c14b0 : decide (x6_2 < 20) = true := decide_eq_true c14
            clear c14
            obtain ⟨ji15, hji15⟩ : ∃ j_ : Int, (wrap64 (10 + (Int.tmod x6_2 3))) = j_ := ⟨_, rfl⟩
            replace H : (if 0 ≤ (ji15) then (if (ji15) ≤ 12 then (if x5_2.length < 1256584717458 then ((some (x5_2 ++ [(⟨1, wrap64 (1 + x6_2), 1, (⟨0, 0, 0⟩ : SElem), (⟨#[48, 49, 50, 51, 52, 53, 54, 55, 56, 57, 97, 98]⟩ : ByteArray).extract 0 ((ji15) : Int).toNat, ([] : List (SElem)), 0, 0, 0⟩ : SOp)] : List (SOp))).bind fun y242 => ((tree_Check.f y242).bind fun t245 => ((lectionarylaw5_num.f t245).bind fun t246 => ((lectionaryref4_Row.f k2 y242).bind fun t247 => (if ((t246 == 0) != t247) = true then (some false) else (lectionarylaw5_TreeLimits.l1 k2 y242 (wrap64 (x6_2 + 1)) l0_0 l0_1 l0_2 l0_3)))))) else (none)) else (none)) else (none)) = some r := by first | (rw [hji15] at H; exact H) | (simp only [hji15] at H ⊢; exact H)
            have hji15w : (IntKind.i64.wrap (10 + (Int.tmod x6_2 3))) = ji15 := (i64_w _).trans hji15
            by_cases c16 : 0 ≤ (ji15)
            · rw [if_pos c16] at H
              have c16b0 := eq_true c16
              have c16b1 : decide (0 ≤ (ji15)) = true := decide_eq_true c16
              clear c16
              by_cases c17 : (ji15) ≤ 12
              · rw [if_pos c17] at H
                have c17b0 := eq_true c17
                have c17b1 : decide ((ji15) ≤ 12) = true := decide_eq_true c17
                clear c17
                by_cases c18 : x5_2.length < 1256584717458
                · rw [if_pos c18] at H
                  have LMc18 := Aside0.mk c18
                  clear c18
                  obtain ⟨y242, hy242⟩ : ∃ y_ : List (SOp), y_ = (x5_2 ++ [(⟨1, wrap64 (1 + x6_2), 1, (⟨0, 0, 0⟩ : SElem), (⟨#[48, 49, 50, 51, 52, 53, 54, 55, 56, 57, 97, 98]⟩ : ByteArray).extract 0 ((ji15) : Int).toNat, ([] : List (SElem)), 0, 0, 0⟩ : SOp)]) := ⟨_, rfl⟩
                  replace H : ((tree_Check.f y242).bind fun t245 => ((lectionarylaw5_num.f t245).bind fun t246 => ((lectionaryref4_Row.f k2 y242).bind fun t247 => (if ((t246 == 0) != t247) = true then (some false) else (lectionarylaw5_TreeLimits.l1 k2 y242 (wrap64 (x6_2 + 1)) l0_0 l0_1 l0_2 l0_3))))) = some r := by first | (rw [hy242]; with_reducible exact H) | (have H2_ := (Option.bind_some _ _).symm.trans H; rw [hy242]; with_reducible exact H2_) | (have H2_ := (Option.bind_some _ _).symm.trans H; with_reducible exact H2_) | with_reducible exact H | (rw [hy242]; exact H) | exact H
                  have Ny242 := Aside0.mk hy242
                  clear hy242
                  replace H := Option.bind_eq_some_iff.mp H
                  obtain ⟨t245, A190, H⟩ := H
                  replace H : ((lectionarylaw5_num.f t245).bind fun t246 => ((lectionaryref4_Row.f k2 y242).bind fun t247 => (if ((t246 == 0) != t247) = true then (some false) else (lectionarylaw5_TreeLimits.l1 k2 y242 (wrap64 (x6_2 + 1)) l0_0 l0_1 l0_2 l0_3)))) = some r := H
                  have A19 := Aside0.mk A190
                  clear A190
                  replace H := Option.bind_eq_some_iff.mp H
                  obtain ⟨t246, A200, H⟩ := H
                  replace H : ((lectionaryref4_Row.f k2 y242).bind fun t247 => (if ((t246 == 0) != t247) = true then (some false) else (lectionarylaw5_TreeLimits.l1 k2 y242 (wrap64 (x6_2 + 1)) l0_0 l0_1 l0_2 l0_3))) = some r := H
                  have A20 := Aside0.mk A200
                  clear A200
                  replace H := Option.bind_eq_some_iff.mp H
                  obtain ⟨t247, A210, H⟩ := H
                  replace H : (if ((t246 == 0) != t247) = true then (some false) else (lectionarylaw5_TreeLimits.l1 k2 y242 (wrap64 (x6_2 + 1)) l0_0 l0_1 l0_2 l0_3)) = some r := H
                  have A21 := Aside0.mk A210
                  clear A210
                  by_cases c22 : ((t246 == 0) != t247) = true
                  · rw [if_pos c22] at H
                    have c22b0 : ((t246 == 0) != t247) = true := c22
                    (try (have c22b1 : decide ((t246 == 0) = t247) = false := by simpa using c22))
                    (try (have c22b2 : ((t246 == 0) == t247) = false := by simpa using c22))
                    (try (have c22b3 : ¬ ((t246 == 0) = t247) := by simpa using c22))
                    clear c22
                    obtain rfl := Option.some.inj H
                    go_wp2_with (first | ((with_reducible refine gate_builtin (b := .append) (xs := #[.tmp 33, .tmp 41]) rfl ?_); at_builtin; refine Kd.S_append kOp (w0 := w) w.heap.size rfl (.tmp 33) (.tmp 41) 24 31 (.agg #[(.int .i64 0), (.int .i64 0), (.int .i64 0), (.int .i64 0), (.int .i64 0), (.int .i64 0), (.string ⟨#[]⟩), (.slice none 0 0), (.int .i64 0), (.int .i64 0), (.int .i64 0)]) 112 rfl Tryd.underlying24 info31 rfl (by decide) (by omega) u5 x5_2 (⟨1, wrap64 (1 + x6_2), 1, (⟨0, 0, 0⟩ : SElem), (⟨#[48, 49, 50, 51, 52, 53, 54, 55, 56, 57, 97, 98]⟩ : ByteArray).extract 0 ((ji15) : Int).toNat, ([] : List (SElem)), 0, 0, 0⟩ : SOp) [.int .i64 1, .int .i64 (wrap64 (1 + x6_2)), .int .i64 1, .int .i64 0, .int .i64 0, .int .i64 0, .string ((⟨#[48, 49, 50, 51, 52, 53, 54, 55, 56, 57, 97, 98]⟩ : ByteArray).extract 0 ((ji15) : Int).toNat), .slice none 0 0, .int .i64 0, .int .i64 0, .int .i64 0] (fun _ => True) (fun _ => False) rfl rfl ?aP (fun k_ hk_ => hk_.elim) ?aF ?aO ?aB ?aS ?aL ?_; (case aP => exact kOp_mkM _ _ _ (⟨1, wrap64 (1 + x6_2), 1, (⟨0, 0, 0⟩ : SElem), (⟨#[48, 49, 50, 51, 52, 53, 54, 55, 56, 57, 97, 98]⟩ : ByteArray).extract 0 ((ji15) : Int).toNat, ([] : List (SElem)), 0, 0, 0⟩ : SOp) (Kd.R_nil _ _ _ _ _)); (case aB => exact (by repeat (first | (with_reducible first | exact HB.out | apply below_alloc | apply pw_below_drewN | apply below_drew1 | refine below_set ?_ GE235.out) | exact HB.out))); (case aF => exact (fun _ _ => trivial)); (case aO => exact (by (with_reducible repeat (first | apply Kd.S_alloc | apply Kd.S_drewN | apply Kd.S_drew)); exact Kd.S_mono HO_5.out (fun k_ hk => ⟨trivial, fun e_ => e_⟩))); (case aS => exact (below_size (by repeat (first | (with_reducible first | exact HB.out | apply below_alloc | apply pw_below_drewN | apply below_drew1 | refine below_set ?_ GE235.out) | exact HB.out)))); (case aL => have := LMc18.out; omega); intro v243 w23 ho hb hg hat; rw [← Ny242.out] at ho; have n0_ := Aside0.mk (blk_grown (g := gb235) (o := .cells #[.slice A0_0 l0_0.length c0_0, .slice A0_1 l0_1.length c0_1, .slice A0_2 l0_2.length c0_2, .slice A0_3 l0_3.length c0_3] 27 (0, 0)) (by (with_reducible repeat (first | refine blk_drewN ?_ _ | refine blk_drew ?_ | refine blk_alloc ?_ _)); exact BK235.out) hg (Kd.S_ne HO_5.out BK235.out (by decide))); have n1_ := Aside0.mk (hb); have n2_ := Aside0.mk (ho); clear BK235; clear HB; clear HO_5; have BK235 := n0_; have HB := n1_; have HO244 := n2_; clear n0_ n1_ n2_; clear ho hb hg hat; obtain ⟨Ao24, co24, eo24⟩ := Kd.S_slice HO244.out; subst eo24) | ((with_reducible refine gate_callee (f := 19) rfl ?_); refine goesL_ (some 44) rfl rfl Tryd.func19 (by kernel_rfl) rfl #[.slice Ao24 y242.length co24] rfl (by (try simp only [List.map_toArray, List.map_cons, List.map_nil]); first | done | rfl | (simp only [List.length_drop, List.length_take]; rfl)) ?_; (with_reducible refine (tree_Check.calls _ _ y242 t245 _ ?side1 ?side2 A19.out).mono ?_); (case side1 => repeat (first | exact (Kd.S_reads' HO244.out).2.2 | (with_reducible refine Kd.C_alloc ?_ _) | (with_reducible refine Kd.C_drewN ?_ _) | (with_reducible refine Kd.C_drew ?_))); (case side2 => exact (Kd.S_reads' HO244.out).2.1); rintro e w25 ⟨rfl, hb⟩; refine ⟨_, rfl, ?_⟩; have n0_ := Aside0.mk (Kd.S_below (by (with_reducible repeat (first | apply Kd.S_alloc | apply Kd.S_drewN | apply Kd.S_drew)); exact HO244.out) hb); have n1_ := Aside0.mk (blk_below (g := gb235) (o := .cells #[.slice A0_0 l0_0.length c0_0, .slice A0_1 l0_1.length c0_1, .slice A0_2 l0_2.length c0_2, .slice A0_3 l0_3.length c0_3] 27 (0, 0)) (by (with_reducible repeat (first | refine blk_drewN ?_ _ | refine blk_drew ?_ | refine blk_alloc ?_ _)); exact BK235.out) hb); have n2_ := Aside0.mk (below_step (by repeat (first | (with_reducible first | exact HB.out | apply below_alloc | apply pw_below_drewN | apply below_drew1 | refine below_set ?_ GE235.out) | exact HB.out)) hb); clear HO244; clear BK235; clear HB; have HO244 := n0_; have BK235 := n1_; have HB := n2_; clear n0_ n1_ n2_; (try clear hb); (try clear hb2); (try clear hk); (try clear hi)) | ((with_reducible refine gate_callee (f := 18) rfl ?_); refine goesL_ (some 45) rfl rfl Tryd.func18 (by kernel_rfl) rfl #[.int .i64 t245] rfl (by (try simp only [List.map_toArray, List.map_cons, List.map_nil]); first | done | rfl | (simp only [List.length_drop, List.length_take]; rfl)) ?_; (with_reducible refine (lectionarylaw5_num.calls t245 t246 _ A20.out).mono ?_); rintro e w' ⟨rfl, ⟨nd, rfl⟩⟩; refine ⟨_, rfl, ?_⟩) | ((with_reducible refine gate_callee (f := 20) rfl ?_); refine goesL_ (some 48) rfl rfl Tryd.func20 (by kernel_rfl) rfl #[.slice Ao24 y242.length co24] rfl (by (try simp only [List.map_toArray, List.map_cons, List.map_nil]); first | done | rfl | (simp only [List.length_drop, List.length_take]; rfl)) ?_; (with_reducible refine (lectionaryref4_Row.calls k2 _ _ y242 t247 _ ?side1 ?side2 ?side3 A21.out).mono ?_); (case side1 => repeat (first | exact (Kd.S_reads' HO244.out).2.2 | (with_reducible refine Kd.C_alloc ?_ _) | (with_reducible refine Kd.C_drewN ?_ _) | (with_reducible refine Kd.C_drew ?_))); (case side2 => exact (Kd.S_reads' HO244.out).2.1); (case side3 => exact (hT.below (by repeat (first | (with_reducible first | exact HB.out | apply below_alloc | apply pw_below_drewN | apply below_drew1 | refine below_set ?_ GE235.out) | exact HB.out)))); rintro e w26 ⟨rfl, hb⟩; refine ⟨_, rfl, ?_⟩; have n0_ := Aside0.mk (Kd.S_below (by (with_reducible repeat (first | apply Kd.S_alloc | apply Kd.S_drewN | apply Kd.S_drew)); exact HO244.out) hb); have n1_ := Aside0.mk (blk_below (g := gb235) (o := .cells #[.slice A0_0 l0_0.length c0_0, .slice A0_1 l0_1.length c0_1, .slice A0_2 l0_2.length c0_2, .slice A0_3 l0_3.length c0_3] 27 (0, 0)) (by (with_reducible repeat (first | refine blk_drewN ?_ _ | refine blk_drew ?_ | refine blk_alloc ?_ _)); exact BK235.out) hb); have n2_ := Aside0.mk (below_step (by repeat (first | (with_reducible first | exact HB.out | apply below_alloc | apply pw_below_drewN | apply below_drew1 | refine below_set ?_ GE235.out) | exact HB.out)) hb); clear HO244; clear BK235; clear HB; have HO244 := n0_; have BK235 := n1_; have HB := n2_; clear n0_ n1_ n2_; (try clear hb); (try clear hb2); (try clear hk); (try clear hi)))
                    go_ret
                    exact ⟨by first | rfl | (simp [errW_none, errW_some] <;> rfl) | (simp only [← hji15]; first | rfl | (simp [errW_none, errW_some] <;> rfl)) | (simp [*, errW_none, errW_some] <;> rfl), by repeat (first | (with_reducible first | exact HB.out | apply below_alloc | apply pw_below_drewN | apply below_drew1 | refine below_set ?_ GE235.out) | exact HB.out)⟩
                  rw [if_neg c22] at H
                  have c22b0 : ((t246 == 0) != t247) = false := by simpa using c22
                  (try (have c22b1 : decide ((t246 == 0) = t247) = true := by simpa using c22))
                  (try (have c22b2 : ((t246 == 0) == t247) = true := by simpa using c22))
                  clear c22
                  have H' := Aside0.mk H
                  clear H
                  go_wp2_with (first | ((with_reducible refine gate_builtin (b := .append) (xs := #[.tmp 33, .tmp 41]) rfl ?_); at_builtin; refine Kd.S_append kOp (w0 := w) w.heap.size rfl (.tmp 33) (.tmp 41) 24 31 (.agg #[(.int .i64 0), (.int .i64 0), (.int .i64 0), (.int .i64 0), (.int .i64 0), (.int .i64 0), (.string ⟨#[]⟩), (.slice none 0 0), (.int .i64 0), (.int .i64 0), (.int .i64 0)]) 112 rfl Tryd.underlying24 info31 rfl (by decide) (by omega) u5 x5_2 (⟨1, wrap64 (1 + x6_2), 1, (⟨0, 0, 0⟩ : SElem), (⟨#[48, 49, 50, 51, 52, 53, 54, 55, 56, 57, 97, 98]⟩ : ByteArray).extract 0 ((ji15) : Int).toNat, ([] : List (SElem)), 0, 0, 0⟩ : SOp) [.int .i64 1, .int .i64 (wrap64 (1 + x6_2)), .int .i64 1, .int .i64 0, .int .i64 0, .int .i64 0, .string ((⟨#[48, 49, 50, 51, 52, 53, 54, 55, 56, 57, 97, 98]⟩ : ByteArray).extract 0 ((ji15) : Int).toNat), .slice none 0 0, .int .i64 0, .int .i64 0, .int .i64 0] (fun _ => True) (fun _ => False) rfl rfl ?aP (fun k_ hk_ => hk_.elim) ?aF ?aO ?aB ?aS ?aL ?_; (case aP => exact kOp_mkM _ _ _ (⟨1, wrap64 (1 + x6_2), 1, (⟨0, 0, 0⟩ : SElem), (⟨#[48, 49, 50, 51, 52, 53, 54, 55, 56, 57, 97, 98]⟩ : ByteArray).extract 0 ((ji15) : Int).toNat, ([] : List (SElem)), 0, 0, 0⟩ : SOp) (Kd.R_nil _ _ _ _ _)); (case aB => exact (by repeat (first | (with_reducible first | exact HB.out | apply below_alloc | apply pw_below_drewN | apply below_drew1 | refine below_set ?_ GE235.out) | exact HB.out))); (case aF => exact (fun _ _ => trivial)); (case aO => exact (by (with_reducible repeat (first | apply Kd.S_alloc | apply Kd.S_drewN | apply Kd.S_drew)); exact Kd.S_mono HO_5.out (fun k_ hk => ⟨trivial, fun e_ => e_⟩))); (case aS => exact (below_size (by repeat (first | (with_reducible first | exact HB.out | apply below_alloc | apply pw_below_drewN | apply below_drew1 | refine below_set ?_ GE235.out) | exact HB.out)))); (case aL => have := LMc18.out; omega); intro v243 w27 ho hb hg hat; rw [← Ny242.out] at ho; have n0_ := Aside0.mk (blk_grown (g := gb235) (o := .cells #[.slice A0_0 l0_0.length c0_0, .slice A0_1 l0_1.length c0_1, .slice A0_2 l0_2.length c0_2, .slice A0_3 l0_3.length c0_3] 27 (0, 0)) (by (with_reducible repeat (first | refine blk_drewN ?_ _ | refine blk_drew ?_ | refine blk_alloc ?_ _)); exact BK235.out) hg (Kd.S_ne HO_5.out BK235.out (by decide))); have n1_ := Aside0.mk (hb); have n2_ := Aside0.mk (ho); clear BK235; clear HB; clear HO_5; have BK235 := n0_; have HB := n1_; have HO244 := n2_; clear n0_ n1_ n2_; clear ho hb hg hat; obtain ⟨Ao28, co28, eo28⟩ := Kd.S_slice HO244.out; subst eo28) | ((with_reducible refine gate_callee (f := 19) rfl ?_); refine goesL_ (some 44) rfl rfl Tryd.func19 (by kernel_rfl) rfl #[.slice Ao28 y242.length co28] rfl (by (try simp only [List.map_toArray, List.map_cons, List.map_nil]); first | done | rfl | (simp only [List.length_drop, List.length_take]; rfl)) ?_; (with_reducible refine (tree_Check.calls _ _ y242 t245 _ ?side1 ?side2 A19.out).mono ?_); (case side1 => repeat (first | exact (Kd.S_reads' HO244.out).2.2 | (with_reducible refine Kd.C_alloc ?_ _) | (with_reducible refine Kd.C_drewN ?_ _) | (with_reducible refine Kd.C_drew ?_))); (case side2 => exact (Kd.S_reads' HO244.out).2.1); rintro e w29 ⟨rfl, hb⟩; refine ⟨_, rfl, ?_⟩; have n0_ := Aside0.mk (Kd.S_below (by (with_reducible repeat (first | apply Kd.S_alloc | apply Kd.S_drewN | apply Kd.S_drew)); exact HO244.out) hb); have n1_ := Aside0.mk (blk_below (g := gb235) (o := .cells #[.slice A0_0 l0_0.length c0_0, .slice A0_1 l0_1.length c0_1, .slice A0_2 l0_2.length c0_2, .slice A0_3 l0_3.length c0_3] 27 (0, 0)) (by (with_reducible repeat (first | refine blk_drewN ?_ _ | refine blk_drew ?_ | refine blk_alloc ?_ _)); exact BK235.out) hb); have n2_ := Aside0.mk (below_step (by repeat (first | (with_reducible first | exact HB.out | apply below_alloc | apply pw_below_drewN | apply below_drew1 | refine below_set ?_ GE235.out) | exact HB.out)) hb); clear HO244; clear BK235; clear HB; have HO244 := n0_; have BK235 := n1_; have HB := n2_; clear n0_ n1_ n2_; (try clear hb); (try clear hb2); (try clear hk); (try clear hi)) | ((with_reducible refine gate_callee (f := 18) rfl ?_); refine goesL_ (some 45) rfl rfl Tryd.func18 (by kernel_rfl) rfl #[.int .i64 t245] rfl (by (try simp only [List.map_toArray, List.map_cons, List.map_nil]); first | done | rfl | (simp only [List.length_drop, List.length_take]; rfl)) ?_; (with_reducible refine (lectionarylaw5_num.calls t245 t246 _ A20.out).mono ?_); rintro e w' ⟨rfl, ⟨nd, rfl⟩⟩; refine ⟨_, rfl, ?_⟩) | ((with_reducible refine gate_callee (f := 20) rfl ?_); refine goesL_ (some 48) rfl rfl Tryd.func20 (by kernel_rfl) rfl #[.slice Ao28 y242.length co28] rfl (by (try simp only [List.map_toArray, List.map_cons, List.map_nil]); first | done | rfl | (simp only [List.length_drop, List.length_take]; rfl)) ?_; (with_reducible refine (lectionaryref4_Row.calls k2 _ _ y242 t247 _ ?side1 ?side2 ?side3 A21.out).mono ?_); (case side1 => repeat (first | exact (Kd.S_reads' HO244.out).2.2 | (with_reducible refine Kd.C_alloc ?_ _) | (with_reducible refine Kd.C_drewN ?_ _) | (with_reducible refine Kd.C_drew ?_))); (case side2 => exact (Kd.S_reads' HO244.out).2.1); (case side3 => exact (hT.below (by repeat (first | (with_reducible first | exact HB.out | apply below_alloc | apply pw_below_drewN | apply below_drew1 | refine below_set ?_ GE235.out) | exact HB.out)))); rintro e w30 ⟨rfl, hb⟩; refine ⟨_, rfl, ?_⟩; have n0_ := Aside0.mk (Kd.S_below (by (with_reducible repeat (first | apply Kd.S_alloc | apply Kd.S_drewN | apply Kd.S_drew)); exact HO244.out) hb); have n1_ := Aside0.mk (blk_below (g := gb235) (o := .cells #[.slice A0_0 l0_0.length c0_0, .slice A0_1 l0_1.length c0_1, .slice A0_2 l0_2.length c0_2, .slice A0_3 l0_3.length c0_3] 27 (0, 0)) (by (with_reducible repeat (first | refine blk_drewN ?_ _ | refine blk_drew ?_ | refine blk_alloc ?_ _)); exact BK235.out) hb); have n2_ := Aside0.mk (below_step (by repeat (first | (with_reducible first | exact HB.out | apply below_alloc | apply pw_below_drewN | apply below_drew1 | refine below_set ?_ GE235.out) | exact HB.out)) hb); clear HO244; clear BK235; clear HB; have HO244 := n0_; have BK235 := n1_; have HB := n2_; clear n0_ n1_ n2_; (try clear hb); (try clear hb2); (try clear hk); (try clear hi)))
                  go_roundg k2
                  case measure => have := HK1.out; have := HK2.out; omega
                  case rel => exact ⟨(y242), (wrap64 (x6_2 + 1)), (by first | rfl | (simp; done) | (simp [*]; done)), H', ⟨by have := HK1.out; have := HK2.out; omega⟩, ⟨by (with_reducible repeat (first | apply Kd.S_alloc | apply Kd.S_drewN | apply Kd.S_drew)); exact HO244.out⟩, ⟨by (with_reducible repeat (first | refine blk_drewN ?_ _ | refine blk_drew ?_ | refine blk_alloc ?_ _)); exact BK235.out⟩, ⟨by repeat (first | (with_reducible first | exact HB.out | apply below_alloc | apply pw_below_drewN | apply below_drew1 | refine below_set ?_ GE235.out) | exact HB.out)⟩⟩
                rw [if_neg c18] at H
                exact absurd H (by simp)
              rw [if_neg c17] at H
              exact absurd H (by simp)
            rw [if_neg c16] at H
            exact absurd H (by simp)
          rw [if_neg c14] at H
          have c14b0 : decide (x6_2 < 20) = false := decide_eq_false c14
          clear c14
          by_cases c31 : (l0_0.length : Int) ≥ 0
          · rw [if_pos c31] at H
            have c31b0 : decide (0 ≤ (l0_0.length : Int)) = true := decide_eq_true c31
            have c31b1 : decide (0 ≤ l0_0.length) = true := decide_eq_true (by omega)
            clear c31
            replace H := Option.bind_eq_some_iff.mp H
            obtain ⟨t241, A320, H⟩ := H
            replace H : (some t241) = some r := H
            have A32 := Aside0.mk A320
            clear A320
            obtain rfl := Option.some.inj H
            have hcz33_0 : wr.cell? ⟨gb235, 0, none⟩ = some (.slice A0_0 l0_0.length c0_0) := bc BK235 0
            have hcz33_1 : wr.cell? ⟨gb235, 1, none⟩ = some (.slice A0_1 l0_1.length c0_1) := bc BK235 1
            have hcz33_2 : wr.cell? ⟨gb235, 2, none⟩ = some (.slice A0_2 l0_2.length c0_2) := bc BK235 2
            have hcz33_3 : wr.cell? ⟨gb235, 3, none⟩ = some (.slice A0_3 l0_3.length c0_3) := bc BK235 3
            have hfz33_0 := bf BK235 0
            have hfz33_1 := bf BK235 1
            have hfz33_2 := bf BK235 2
            have hfz33_3 := bf BK235 3
            go_wp2_with (first | (go_at_call 21; (with_reducible refine (lectionarylaw5_wakes.calls  t241 _ A32.out).mono ?_); rintro e w34 ⟨rfl, hb⟩; have n0_ := Aside0.mk (Kd.S_below (by (with_reducible repeat (first | apply Kd.S_alloc | apply Kd.S_drewN | apply Kd.S_drew)); exact HO_5.out) hb); have n1_ := Aside0.mk (blk_below (g := gb235) (o := .cells #[.slice A0_0 l0_0.length c0_0, .slice A0_1 l0_1.length c0_1, .slice A0_2 l0_2.length c0_2, .slice A0_3 l0_3.length c0_3] 27 (0, 0)) (by (with_reducible repeat (first | refine blk_drewN ?_ _ | refine blk_drew ?_ | refine blk_alloc ?_ _)); exact BK235.out) hb); have n2_ := Aside0.mk (below_step (by repeat (first | (with_reducible first | exact HB.out | apply below_alloc | apply pw_below_drewN | apply below_drew1 | refine below_set ?_ GE235.out) | exact HB.out)) hb); clear HO_5; clear BK235; clear HB; have HO_5 := n0_; have BK235 := n1_; have HB := n2_; clear n0_ n1_ n2_; (try clear hb); (try clear hb2); (try clear hk); (try clear hi)))
            go_ret
            exact ⟨by first | rfl | (simp [errW_none, errW_some] <;> rfl) | (simp [*, errW_none, errW_some] <;> rfl), by repeat (first | (with_reducible first | exact HB.out | apply below_alloc | apply pw_below_drewN | apply below_drew1 | refine below_set ?_ GE235.out) | exact HB.out)⟩
          exact absurd (show (l0_0.length : Int) ≥ 0 by omega) c31
end Go.Proofs.YtdahgnalojekdaaDoor.L
end

section
namespace Go.Proofs.YtdahgnalojekdaaDoor.L
open Go.RowKit Go.Proofs.YtdahgnalojekdaaDoorW.PrintWords Go.Proofs.YtdahgnalojekdaaDoorW.PrintLast Go.Proofs.YtdahgnalojekdaaDoorW.PrintMore
set_option linter.unusedVariables false
set_option linter.unusedSimpArgs false
structure GoodAsk (l0 : List (List SOp)) (l1 : List SElem) (l2 : List SOp) (l3 : List Int) : Prop where
  n0 : l0.length ≤ 140737488351232
  r0 : ∀ x ∈ l0, x.length ≤ 140737488351232 ∧ ∀ o ∈ x, o.f4.size ≤ 140737488351232 ∧ o.f5.length ≤ 140737488351232
  n1 : l1.length ≤ 140737488351232
  n2 : l2.length ≤ 140737488351232
  r2 : ∀ o ∈ l2, o.f4.size ≤ 140737488351232 ∧ o.f5.length ≤ 140737488351232
  n3 : l3.length ≤ 140737488351232
theorem wrapS {i n : Nat} (h : i < n) (hn : n ≤ 4611686018427387904) : wrap64 ((i : Int) + 1) = ((i + 1 : Nat) : Int) := by
  rw [wrap64_small (by omega) (by omega)]; omega
theorem good_smalls {l : List SOp} (h : l.length ≤ 140737488351232 ∧ ∀ o ∈ l, o.f4.size ≤ 140737488351232 ∧ o.f5.length ≤ 140737488351232) : smalls l = true := by
  unfold smalls SmB
  simp only [Bool.and_eq_true, decide_eq_true_eq, List.all_eq_true]
  exact ⟨by omega, fun o ho => by have := h.2 o ho; omega⟩
theorem tree_May_f {l : List SOp} (h : smalls l = true) : tree_May.f l = some (mayB l) := by unfold tree_May.f; rw [if_pos h]
theorem tree_Check_f {l : List SOp} (h : smalls l = true) : tree_Check.f l = some (if mayB l = true then 0 else 1) := by
  unfold tree_Check.f
  rw [tree_May_f h]
  cases mayB l <;> rfl
end Go.Proofs.YtdahgnalojekdaaDoor.L
end

section
namespace Go.Proofs.YtdahgnalojekdaaDoor.L
open Go.RowKit Go.Proofs.YtdahgnalojekdaaDoorW.PrintWords Go.Proofs.YtdahgnalojekdaaDoorW.PrintLast Go.Proofs.YtdahgnalojekdaaDoorW.PrintMore
set_option linter.unusedVariables false
set_option linter.unusedSimpArgs false
theorem bytes1 {n B : Nat} (hB : 1 ≤ B) (h : n * B ≤ reachBytes) : n ≤ 140737488351232 := Nat.le_trans (Nat.le_mul_of_pos_right n hB) h
theorem GoodOp.le {o : SOp} (h : GoodOp o) : o.f4.size ≤ 140737488351232 ∧ o.f5.length ≤ 140737488351232 := ⟨h.1, bytes1 (of_decide_eq_true (by kernel_rfl)) h.2⟩
theorem GoodAsk.of {l0 : List (List SOp)} {l1 : List SElem} {l2 : List SOp} {l3 : List Int}
    (h0 : l0.length * Tryd.prog.bytesOf 24 ≤ reachBytes ∧ ∀ x ∈ l0, x.length * Tryd.prog.bytesOf 31 ≤ reachBytes ∧ ∀ o ∈ x, GoodOp o)
    (h1 : l1.length * Tryd.prog.bytesOf 29 ≤ reachBytes ∧ ∀ x ∈ l1, (Lit.int .i64 x.f0).wf = true ∧ (Lit.int .i64 x.f1).wf = true ∧ (Lit.int .i64 x.f2).wf = true)
    (h2 : l2.length * Tryd.prog.bytesOf 31 ≤ reachBytes ∧ ∀ x ∈ l2, GoodOp x) (h3 : l3.length * Tryd.prog.bytesOf 3 ≤ reachBytes ∧ ∀ x ∈ l3, (Lit.int .i64 x).wf = true) : GoodAsk l0 l1 l2 l3 :=
  ⟨bytes1 (of_decide_eq_true (by kernel_rfl)) h0.1, fun x hx => ⟨bytes1 (of_decide_eq_true (by kernel_rfl)) (h0.2 x hx).1, fun o ho => ((h0.2 x hx).2 o ho).le⟩, bytes1 (of_decide_eq_true (by kernel_rfl)) h1.1, bytes1 (of_decide_eq_true (by kernel_rfl)) h2.1, fun o ho => (h2.2 o ho).le, bytes1 (of_decide_eq_true (by kernel_rfl)) h3.1⟩
theorem agg_of_cells {v : Value} {a b : Value} {l : List Value} (h : v.cells.toList = a :: b :: l) : v = .agg (a :: b :: l).toArray := by
  cases v <;> simp [Value.cells] at h
  rw [← h]
theorem opens_Ask (H : Type) : ∀ (enc : TypeId × Value → H) (W : World) (base : Nat) (sp : Nat → Bool) (held : Bool) (fuel : Nat) (cs : List Value) (x : DataW H × List MemPlace), DataW.trod enc Tryd.prog W base sp held fuel 27 cs = some x → lightW Tryd.prog 27 x.1 →
    ∃ A0 c0 l0 A1 c1 l1 A2 c2 l2 A3 c3 l3, cs = [.slice A0 l0.length c0, .slice A1 l1.length c1, .slice A2 l2.length c2, .slice A3 l3.length c3] ∧ Kd.C (Kd.slice 31 kOp) W A0 l0.length l0 ∧ l0.length ≤ c0 ∧ Kd.C kElem W A1 l1.length l1 ∧ l1.length ≤ c1 ∧ Kd.C kOp W A2 l2.length l2 ∧ l2.length ≤ c2 ∧ Kd.C (Kd.int .i64) W A3 l3.length l3 ∧ l3.length ≤ c3 ∧ GoodAsk l0 l1 l2 l3 := by
  intro enc W base sp held fuel cs x h hl
  have hS := Opens.struct (H := H) Tryd.underlying27 (by kernel_rfl)
    (OpensF.cons (opens_LOps H) (by kernel_rfl) rfl rfl (OpensF.cons (opens_Elems H) (by kernel_rfl) rfl rfl (OpensF.cons (opens_Ops H) (by kernel_rfl) rfl rfl (OpensF.last (opens_Ints H) (by kernel_rfl) rfl rfl))))
  obtain ⟨⟨l0, l1, l2, l3⟩, hp, hg⟩ := hS enc W base sp held fuel cs x h hl
  obtain ⟨_, _, rfl, ⟨A0, c0, rfl, h0, g0⟩, ⟨_, _, rfl, ⟨A1, c1, rfl, h1, g1⟩, ⟨_, _, rfl, ⟨A2, c2, rfl, h2, g2⟩, ⟨A3, c3, rfl, h3, g3⟩⟩⟩⟩ := hp
  exact ⟨A0, c0, l0, A1, c1, l1, A2, c2, l2, A3, c3, l3, rfl, g0, h0, g1, h1, g2, h2, g3, h3, GoodAsk.of hg.1 hg.2.1 hg.2.2.1 hg.2.2.2⟩
end Go.Proofs.YtdahgnalojekdaaDoor.L
end
