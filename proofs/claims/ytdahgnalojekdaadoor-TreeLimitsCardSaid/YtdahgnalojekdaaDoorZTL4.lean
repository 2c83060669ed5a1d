/- Part 4 of the proof that for every argument the law TreeLimits answers true: as many ops, and as many runes, as may be are a row, one more is none, by rows made here; the card ties the two tables of unicode/utf8 that are listed; no other condition is laid. -/
import Derived.Test.YtdahgnalojekdaaDoorZTL3
import Derived.LoopTactic
import Derived.WalkSpells
section
namespace Go.Proofs.YtdahgnalojekdaaDoor.L
open Go.RowKit Go.Proofs.YtdahgnalojekdaaDoorW.PrintWords Go.Proofs.YtdahgnalojekdaaDoorW.PrintLast Go.Proofs.YtdahgnalojekdaaDoorW.PrintMore
attribute [local go_sem] max2_int min2_int max_two min_two max_three min_three max_four min_four
set_option linter.unusedVariables false
set_option linter.unusedSimpArgs false
attribute [local go_sem high] eqAElem
def op_edit.j0 : Nat → Bool → Int → Int → Int → Int → Int → Int → ByteArray → List (SElem) → Int → Int → Int → Option (Bool)
  | 0, _, _, _, _, _, _, _, _, _, _, _, _ => none
  | k + 1, x34, x136000, x136001, x136002, x136003, x136004, x136005, x136006, x136007, x136008, x136009, x136010 => if x34 = true then (some false) else ((text_May.f x136006).bind fun t138 => (if t138 = true then ((op_Size.f x136000 x136001 x136002 x136003 x136004 x136005 x136006 x136007 x136008 x136009 x136010).bind fun t139 => (if t139 ≤ 12 then ((op_gone.f k x136000 x136001 x136002 x136003 x136004 x136005 x136006 x136007 x136008 x136009 x136010).bind fun t140 => (if t140 = true then (if x136008 = 0 then (if x136009 = 0 then (some (x136010 == 0)) else (some false)) else (some false)) else (some false))) else (some false))) else (some false)))
def op_edit.f (k : Nat) (a0_0 : Int) (a0_1 : Int) (a0_2 : Int) (a0_3 : Int) (a0_4 : Int) (a0_5 : Int) (a0_6 : ByteArray) (l0_7 : List (SElem)) (a0_8 : Int) (a0_9 : Int) (a0_10 : Int) : Option (Bool) := (op_IsElem.f a0_3 a0_4 a0_5).bind fun t136 => (if t136 = true then ((op_own.f a0_0 a0_1 a0_2 a0_3 a0_4 a0_5 a0_6 l0_7 a0_8 a0_9 a0_10 a0_3 a0_4 a0_5).bind fun t137 => (if t137 = true then (op_edit.j0 k true a0_0 a0_1 a0_2 a0_3 a0_4 a0_5 a0_6 l0_7 a0_8 a0_9 a0_10) else (if a0_6.toList = ([] : List UInt8) then (if (!(a0_3 == 0) || (!(a0_4 == 0) || (!(a0_5 == 0)))) = true then (op_edit.j0 k true a0_0 a0_1 a0_2 a0_3 a0_4 a0_5 a0_6 l0_7 a0_8 a0_9 a0_10) else (op_edit.j0 k ((l0_7.length : Int) == 0) a0_0 a0_1 a0_2 a0_3 a0_4 a0_5 a0_6 l0_7 a0_8 a0_9 a0_10)) else (op_edit.j0 k false a0_0 a0_1 a0_2 a0_3 a0_4 a0_5 a0_6 l0_7 a0_8 a0_9 a0_10)))) else (op_edit.j0 k true a0_0 a0_1 a0_2 a0_3 a0_4 a0_5 a0_6 l0_7 a0_8 a0_9 a0_10))
set_option maxHeartbeats 8000000 in
set_option maxRecDepth 100000 in
theorem op_edit.calls (k : Nat) (a0_0 : Int) (a0_1 : Int) (a0_2 : Int) (a0_3 : Int) (a0_4 : Int) (a0_5 : Int) (a0_6 : ByteArray) (A0_7 : Option Addr) (c0_7 : Nat) (l0_7 : List (SElem)) (a0_8 : Int) (a0_9 : Int) (a0_10 : Int) (r : Bool) (w : World) (hr0_7 : Kd.C kElem w A0_7 l0_7.length l0_7) (hc0_7 : l0_7.length ≤ c0_7) (h : op_edit.f k a0_0 a0_1 a0_2 a0_3 a0_4 a0_5 a0_6 l0_7 a0_8 a0_9 a0_10 = some r) :
    Calls Tryd.prog 145 #[.agg #[.int .i64 a0_0, .int .i64 a0_1, .int .i64 a0_2, .int .i64 a0_3, .int .i64 a0_4, .int .i64 a0_5, .string a0_6, .slice A0_7 l0_7.length c0_7, .int .i64 a0_8, .int .i64 a0_9, .int .i64 a0_10]] w fun e w' => e = .returned (.bool r) ∧ Below w.heap.size w w' := by
  have hu31 := Tryd.underlying31
  have hu29 := Tryd.underlying29
  have HR0_7 := Aside0.mk hr0_7
  have HC0_7 := Aside0.mk hc0_7
  clear hr0_7 hc0_7
  have HB := Aside0.mk (Below.refl w.heap.size w)
  have H : ((op_IsElem.f a0_3 a0_4 a0_5).bind fun t136 => (if t136 = true then ((op_own.f a0_0 a0_1 a0_2 a0_3 a0_4 a0_5 a0_6 l0_7 a0_8 a0_9 a0_10 a0_3 a0_4 a0_5).bind fun t137 => (if t137 = true then (op_edit.j0 k true a0_0 a0_1 a0_2 a0_3 a0_4 a0_5 a0_6 l0_7 a0_8 a0_9 a0_10) else (if a0_6.toList = ([] : List UInt8) then (if (!(a0_3 == 0) || (!(a0_4 == 0) || (!(a0_5 == 0)))) = true then (op_edit.j0 k true a0_0 a0_1 a0_2 a0_3 a0_4 a0_5 a0_6 l0_7 a0_8 a0_9 a0_10) else (op_edit.j0 k ((l0_7.length : Int) == 0) a0_0 a0_1 a0_2 a0_3 a0_4 a0_5 a0_6 l0_7 a0_8 a0_9 a0_10)) else (op_edit.j0 k false a0_0 a0_1 a0_2 a0_3 a0_4 a0_5 a0_6 l0_7 a0_8 a0_9 a0_10)))) else (op_edit.j0 k true a0_0 a0_1 a0_2 a0_3 a0_4 a0_5 a0_6 l0_7 a0_8 a0_9 a0_10))) = some r := h
  clear h
  have HC2 := Aside0.mk H
  clear H
  go_enter Tryd.func145, Tryd.ntmps145
  go_upto_region 1 with (first | ((with_reducible refine gate_dst (N := 1) rfl ?_); (try (refine gate_guard (by rfl) ?_; dsimp only)); refine box_event ?hg (N := 1) ?hd (cs := #[.int .i64 a0_0, .int .i64 a0_1, .int .i64 a0_2, .int .i64 a0_3, .int .i64 a0_4, .int .i64 a0_5, .string a0_6, .slice A0_7 l0_7.length c0_7, .int .i64 a0_8, .int .i64 a0_9, .int .i64 a0_10]) (t := 31) ?hr ?_; (case hd => rfl); (case hg => rfl); (case hr => first | (go_simp; done) | (go_simp; rfl)); intro gb135 hg w3 hbox hb; have n0_ := Aside0.mk (below_step (by repeat (first | (with_reducible first | exact HB.out | apply below_alloc | apply pw_below_drewN | apply below_drew1) | exact HB.out)) hb); have n1_ := Aside0.mk (hbox); have n2_ := Aside0.mk ((by rw [hg]; exact (below_size (by repeat (first | (with_reducible first | exact HB.out | apply below_alloc | apply pw_below_drewN | apply below_drew1) | exact HB.out))) : w.heap.size ≤ gb135)); have n3_ := Aside0.mk ((by rw [hg]; exact (below_size (by repeat (first | (with_reducible first | exact HB.out | apply below_alloc | apply pw_below_drewN | apply below_drew1) | exact HB.out))) : w.heap.size ≤ gb135)); clear HB; have HB := n0_; have BK135 := n1_; have GW135 := n2_; have GE135 := n3_; clear n0_ n1_ n2_ n3_; clear hb hbox hg))
  (try simp only [Act.put, List.setIfInBounds_toArray, List.set_cons_zero, List.set_cons_succ])
  go_cut [34] (fun v34 wc => ∃ (kq : Nat) (x34_1 : Bool), v34 = .bool x34_1 ∧ Aside0 (op_edit.j0 kq x34_1 a0_0 a0_1 a0_2 a0_3 a0_4 a0_5 a0_6 l0_7 a0_8 a0_9 a0_10 = some r) ∧ Aside0 (kq ≤ k) ∧ Aside0 (wc.heap[gb135]? = some (.cells #[.int .i64 a0_0, .int .i64 a0_1, .int .i64 a0_2, .int .i64 a0_3, .int .i64 a0_4, .int .i64 a0_5, .string a0_6, (.slice A0_7 l0_7.length c0_7), .int .i64 a0_8, .int .i64 a0_9, .int .i64 a0_10] 31 (0, 0))) ∧ Aside0 (Below w.heap.size w wc))
  case first =>
    have H := HC2.out
    clear HC2
    replace H := Option.bind_eq_some_iff.mp H
    obtain ⟨t136, A40, H⟩ := H
    replace H : (if t136 = true then ((op_own.f a0_0 a0_1 a0_2 a0_3 a0_4 a0_5 a0_6 l0_7 a0_8 a0_9 a0_10 a0_3 a0_4 a0_5).bind fun t137 => (if t137 = true then (op_edit.j0 k true a0_0 a0_1 a0_2 a0_3 a0_4 a0_5 a0_6 l0_7 a0_8 a0_9 a0_10) else (if a0_6.toList = ([] : List UInt8) then (if (!(a0_3 == 0) || (!(a0_4 == 0) || (!(a0_5 == 0)))) = true then (op_edit.j0 k true a0_0 a0_1 a0_2 a0_3 a0_4 a0_5 a0_6 l0_7 a0_8 a0_9 a0_10) else (op_edit.j0 k ((l0_7.length : Int) == 0) a0_0 a0_1 a0_2 a0_3 a0_4 a0_5 a0_6 l0_7 a0_8 a0_9 a0_10)) else (op_edit.j0 k false a0_0 a0_1 a0_2 a0_3 a0_4 a0_5 a0_6 l0_7 a0_8 a0_9 a0_10)))) else (op_edit.j0 k true a0_0 a0_1 a0_2 a0_3 a0_4 a0_5 a0_6 l0_7 a0_8 a0_9 a0_10)) = some r := H
    have A4 := Aside0.mk A40
    clear A40
    by_cases c5 : t136 = true
    · subst c5
      have H1 : ((op_own.f a0_0 a0_1 a0_2 a0_3 a0_4 a0_5 a0_6 l0_7 a0_8 a0_9 a0_10 a0_3 a0_4 a0_5).bind fun t137 => (if t137 = true then (op_edit.j0 k true a0_0 a0_1 a0_2 a0_3 a0_4 a0_5 a0_6 l0_7 a0_8 a0_9 a0_10) else (if a0_6.toList = ([] : List UInt8) then (if (!(a0_3 == 0) || (!(a0_4 == 0) || (!(a0_5 == 0)))) = true then (op_edit.j0 k true a0_0 a0_1 a0_2 a0_3 a0_4 a0_5 a0_6 l0_7 a0_8 a0_9 a0_10) else (op_edit.j0 k ((l0_7.length : Int) == 0) a0_0 a0_1 a0_2 a0_3 a0_4 a0_5 a0_6 l0_7 a0_8 a0_9 a0_10)) else (op_edit.j0 k false a0_0 a0_1 a0_2 a0_3 a0_4 a0_5 a0_6 l0_7 a0_8 a0_9 a0_10)))) = some r := by rw [if_pos rfl] at H; exact H
      clear H
      have H := H1
      clear H1
      replace H := Option.bind_eq_some_iff.mp H
      obtain ⟨t137, A60, H⟩ := H
      replace H : (if t137 = true then (op_edit.j0 k true a0_0 a0_1 a0_2 a0_3 a0_4 a0_5 a0_6 l0_7 a0_8 a0_9 a0_10) else (if a0_6.toList = ([] : List UInt8) then (if (!(a0_3 == 0) || (!(a0_4 == 0) || (!(a0_5 == 0)))) = true then (op_edit.j0 k true a0_0 a0_1 a0_2 a0_3 a0_4 a0_5 a0_6 l0_7 a0_8 a0_9 a0_10) else (op_edit.j0 k ((l0_7.length : Int) == 0) a0_0 a0_1 a0_2 a0_3 a0_4 a0_5 a0_6 l0_7 a0_8 a0_9 a0_10)) else (op_edit.j0 k false a0_0 a0_1 a0_2 a0_3 a0_4 a0_5 a0_6 l0_7 a0_8 a0_9 a0_10))) = some r := H
      have A6 := Aside0.mk A60
      clear A60
      by_cases c7 : t137 = true
      · subst c7
        have H1 : (op_edit.j0 k true a0_0 a0_1 a0_2 a0_3 a0_4 a0_5 a0_6 l0_7 a0_8 a0_9 a0_10) = some r := by rw [if_pos rfl] at H; exact H
        clear H
        have H := H1
        clear H1
        have H' := Aside0.mk H
        clear H
        have hcz8_0 : w3.cell? ⟨gb135, 0, none⟩ = some (.int .i64 a0_0) := bc BK135 0
        have hcz8_1 : w3.cell? ⟨gb135, 1, none⟩ = some (.int .i64 a0_1) := bc BK135 1
        have hcz8_2 : w3.cell? ⟨gb135, 2, none⟩ = some (.int .i64 a0_2) := bc BK135 2
        have hcz8_3 : w3.cell? ⟨gb135, 3, none⟩ = some (.int .i64 a0_3) := bc BK135 3
        have hcz8_4 : w3.cell? ⟨gb135, 4, none⟩ = some (.int .i64 a0_4) := bc BK135 4
        have hcz8_5 : w3.cell? ⟨gb135, 5, none⟩ = some (.int .i64 a0_5) := bc BK135 5
        have hcz8_6 : w3.cell? ⟨gb135, 6, none⟩ = some (.string a0_6) := bc BK135 6
        have hcz8_7 : w3.cell? ⟨gb135, 7, none⟩ = some (.slice A0_7 l0_7.length c0_7) := bc BK135 7
        have hcz8_8 : w3.cell? ⟨gb135, 8, none⟩ = some (.int .i64 a0_8) := bc BK135 8
        have hcz8_9 : w3.cell? ⟨gb135, 9, none⟩ = some (.int .i64 a0_9) := bc BK135 9
        have hcz8_10 : w3.cell? ⟨gb135, 10, none⟩ = some (.int .i64 a0_10) := bc BK135 10
        have hfz8_0 := bf BK135 0
        have hfz8_1 := bf BK135 1
        have hfz8_2 := bf BK135 2
        have hfz8_3 := bf BK135 3
        have hfz8_4 := bf BK135 4
        have hfz8_5 := bf BK135 5
        have hfz8_6 := bf BK135 6
        have hfz8_7 := bf BK135 7
        have hfz8_8 := bf BK135 8
        have hfz8_9 := bf BK135 9
        have hfz8_10 := bf BK135 10
        go_wp2_with (first | ((with_reducible refine gate_callee (f := 119) rfl ?_); refine goesL_ (some 5) rfl rfl Tryd.func119 (by kernel_rfl) rfl #[.agg #[.int .i64 a0_3, .int .i64 a0_4, .int .i64 a0_5]] rfl (by (try simp only [List.map_toArray, List.map_cons, List.map_nil]); first | done | rfl | (simp only [List.length_drop, List.length_take]; rfl)) ?_; (with_reducible refine (op_IsElem.calls a0_3 a0_4 a0_5 true _ A4.out).mono ?_); rintro e w9 ⟨rfl, hb⟩; refine ⟨_, rfl, ?_⟩; have n0_ := Aside0.mk (blk_below (g := gb135) (o := .cells #[.int .i64 a0_0, .int .i64 a0_1, .int .i64 a0_2, .int .i64 a0_3, .int .i64 a0_4, .int .i64 a0_5, .string a0_6, .slice A0_7 l0_7.length c0_7, .int .i64 a0_8, .int .i64 a0_9, .int .i64 a0_10] 31 (0, 0)) (by (with_reducible repeat (first | refine blk_drewN ?_ _ | refine blk_drew ?_ | refine blk_alloc ?_ _)); exact BK135.out) hb); have n1_ := Aside0.mk (below_step (by repeat (first | (with_reducible first | exact HB.out | apply below_alloc | apply pw_below_drewN | apply below_drew1 | refine below_set ?_ GE135.out) | exact HB.out)) hb); clear BK135; clear HB; have BK135 := n0_; have HB := n1_; clear n0_ n1_; (try clear hb); (try clear hb2); (try clear hk); (try clear hi); have hcz10_0 : w9.cell? ⟨gb135, 0, none⟩ = some (.int .i64 a0_0) := bc BK135 0; have hcz10_1 : w9.cell? ⟨gb135, 1, none⟩ = some (.int .i64 a0_1) := bc BK135 1; have hcz10_2 : w9.cell? ⟨gb135, 2, none⟩ = some (.int .i64 a0_2) := bc BK135 2; have hcz10_3 : w9.cell? ⟨gb135, 3, none⟩ = some (.int .i64 a0_3) := bc BK135 3; have hcz10_4 : w9.cell? ⟨gb135, 4, none⟩ = some (.int .i64 a0_4) := bc BK135 4; have hcz10_5 : w9.cell? ⟨gb135, 5, none⟩ = some (.int .i64 a0_5) := bc BK135 5; have hcz10_6 : w9.cell? ⟨gb135, 6, none⟩ = some (.string a0_6) := bc BK135 6; have hcz10_7 : w9.cell? ⟨gb135, 7, none⟩ = some (.slice A0_7 l0_7.length c0_7) := bc BK135 7; have hcz10_8 : w9.cell? ⟨gb135, 8, none⟩ = some (.int .i64 a0_8) := bc BK135 8; have hcz10_9 : w9.cell? ⟨gb135, 9, none⟩ = some (.int .i64 a0_9) := bc BK135 9; have hcz10_10 : w9.cell? ⟨gb135, 10, none⟩ = some (.int .i64 a0_10) := bc BK135 10; have hfz10_0 := bf BK135 0; have hfz10_1 := bf BK135 1; have hfz10_2 := bf BK135 2; have hfz10_3 := bf BK135 3; have hfz10_4 := bf BK135 4; have hfz10_5 := bf BK135 5; have hfz10_6 := bf BK135 6; have hfz10_7 := bf BK135 7; have hfz10_8 := bf BK135 8; have hfz10_9 := bf BK135 9; have hfz10_10 := bf BK135 10) | (go_at_call 168; (with_reducible refine (op_own.calls a0_0 a0_1 a0_2 a0_3 a0_4 a0_5 a0_6 _ _ l0_7 a0_8 a0_9 a0_10 a0_3 a0_4 a0_5 true _ ?side1 ?side2 A6.out).mono ?_); (case side1 => repeat (first | exact (Kd.C_below HR0_7.out HB.out) | (with_reducible refine Kd.C_alloc ?_ _) | (with_reducible refine Kd.C_drewN ?_ _) | (with_reducible refine Kd.C_drew ?_))); (case side2 => exact HC0_7.out); rintro e w11 ⟨rfl, hb⟩; have n0_ := Aside0.mk (blk_below (g := gb135) (o := .cells #[.int .i64 a0_0, .int .i64 a0_1, .int .i64 a0_2, .int .i64 a0_3, .int .i64 a0_4, .int .i64 a0_5, .string a0_6, .slice A0_7 l0_7.length c0_7, .int .i64 a0_8, .int .i64 a0_9, .int .i64 a0_10] 31 (0, 0)) (by (with_reducible repeat (first | refine blk_drewN ?_ _ | refine blk_drew ?_ | refine blk_alloc ?_ _)); exact BK135.out) hb); have n1_ := Aside0.mk (below_step (by repeat (first | (with_reducible first | exact HB.out | apply below_alloc | apply pw_below_drewN | apply below_drew1 | refine below_set ?_ GE135.out) | exact HB.out)) hb); clear BK135; clear HB; have BK135 := n0_; have HB := n1_; clear n0_ n1_; (try clear hb); (try clear hb2); (try clear hk); (try clear hi)))
        go_meet
        case rel => exact ⟨_, (true), (by first | rfl | (simp; done) | (simp [*]; done)), H', ⟨by first | omega | exact Nat.le_refl _⟩, ⟨by (with_reducible repeat (first | refine blk_drewN ?_ _ | refine blk_drew ?_ | refine blk_alloc ?_ _)); exact BK135.out⟩, ⟨by repeat (first | (with_reducible first | exact HB.out | apply below_alloc | apply pw_below_drewN | apply below_drew1 | refine below_set ?_ GE135.out) | exact HB.out)⟩⟩
      replace c7 := Bool.eq_false_iff.mpr c7
      subst c7
      have H1 : (if a0_6.toList = ([] : List UInt8) then (if (!(a0_3 == 0) || (!(a0_4 == 0) || (!(a0_5 == 0)))) = true then (op_edit.j0 k true a0_0 a0_1 a0_2 a0_3 a0_4 a0_5 a0_6 l0_7 a0_8 a0_9 a0_10) else (op_edit.j0 k ((l0_7.length : Int) == 0) a0_0 a0_1 a0_2 a0_3 a0_4 a0_5 a0_6 l0_7 a0_8 a0_9 a0_10)) else (op_edit.j0 k false a0_0 a0_1 a0_2 a0_3 a0_4 a0_5 a0_6 l0_7 a0_8 a0_9 a0_10)) = some r := by rw [if_neg (show ¬ (false = true) by decide)] at H; exact H
      clear H
      have H := H1
      clear H1
      by_cases c12 : a0_6.toList = ([] : List UInt8)
      · rw [if_pos c12] at H
        have c12b0 : (a0_6.toList == ([] : List UInt8)) = true := beq_iff_eq.mpr c12
        have c12b1 : (a0_6.toList != ([] : List UInt8)) = false := bne_eq_false_iff_eq.mpr c12
        clear c12
        (first | rw [c12b0] | (simp only [i64_w, i32_w]; rw [c12b0]) | skip)
        by_cases c13 : (!(a0_3 == 0) || (!(a0_4 == 0) || (!(a0_5 == 0)))) = true
        · rw [if_pos c13] at H
          have c13b0 : (!(a0_3 == 0) || (!(a0_4 == 0) || (!(a0_5 == 0)))) = true := c13
          clear c13
          have H' := Aside0.mk H
          clear H
          have hcz14_0 : w3.cell? ⟨gb135, 0, none⟩ = some (.int .i64 a0_0) := bc BK135 0
          have hcz14_1 : w3.cell? ⟨gb135, 1, none⟩ = some (.int .i64 a0_1) := bc BK135 1
          have hcz14_2 : w3.cell? ⟨gb135, 2, none⟩ = some (.int .i64 a0_2) := bc BK135 2
          have hcz14_3 : w3.cell? ⟨gb135, 3, none⟩ = some (.int .i64 a0_3) := bc BK135 3
          have hcz14_4 : w3.cell? ⟨gb135, 4, none⟩ = some (.int .i64 a0_4) := bc BK135 4
          have hcz14_5 : w3.cell? ⟨gb135, 5, none⟩ = some (.int .i64 a0_5) := bc BK135 5
          have hcz14_6 : w3.cell? ⟨gb135, 6, none⟩ = some (.string a0_6) := bc BK135 6
          have hcz14_7 : w3.cell? ⟨gb135, 7, none⟩ = some (.slice A0_7 l0_7.length c0_7) := bc BK135 7
          have hcz14_8 : w3.cell? ⟨gb135, 8, none⟩ = some (.int .i64 a0_8) := bc BK135 8
          have hcz14_9 : w3.cell? ⟨gb135, 9, none⟩ = some (.int .i64 a0_9) := bc BK135 9
          have hcz14_10 : w3.cell? ⟨gb135, 10, none⟩ = some (.int .i64 a0_10) := bc BK135 10
          have hfz14_0 := bf BK135 0
          have hfz14_1 := bf BK135 1
          have hfz14_2 := bf BK135 2
          have hfz14_3 := bf BK135 3
          have hfz14_4 := bf BK135 4
          have hfz14_5 := bf BK135 5
          have hfz14_6 := bf BK135 6
          have hfz14_7 := bf BK135 7
          have hfz14_8 := bf BK135 8
          have hfz14_9 := bf BK135 9
          have hfz14_10 := bf BK135 10
          go_wp2_with (first | ((with_reducible refine gate_callee (f := 119) rfl ?_); refine goesL_ (some 5) rfl rfl Tryd.func119 (by kernel_rfl) rfl #[.agg #[.int .i64 a0_3, .int .i64 a0_4, .int .i64 a0_5]] rfl (by (try simp only [List.map_toArray, List.map_cons, List.map_nil]); first | done | rfl | (simp only [List.length_drop, List.length_take]; rfl)) ?_; (with_reducible refine (op_IsElem.calls a0_3 a0_4 a0_5 true _ A4.out).mono ?_); rintro e w15 ⟨rfl, hb⟩; refine ⟨_, rfl, ?_⟩; have n0_ := Aside0.mk (blk_below (g := gb135) (o := .cells #[.int .i64 a0_0, .int .i64 a0_1, .int .i64 a0_2, .int .i64 a0_3, .int .i64 a0_4, .int .i64 a0_5, .string a0_6, .slice A0_7 l0_7.length c0_7, .int .i64 a0_8, .int .i64 a0_9, .int .i64 a0_10] 31 (0, 0)) (by (with_reducible repeat (first | refine blk_drewN ?_ _ | refine blk_drew ?_ | refine blk_alloc ?_ _)); exact BK135.out) hb); have n1_ := Aside0.mk (below_step (by repeat (first | (with_reducible first | exact HB.out | apply below_alloc | apply pw_below_drewN | apply below_drew1 | refine below_set ?_ GE135.out) | exact HB.out)) hb); clear BK135; clear HB; have BK135 := n0_; have HB := n1_; clear n0_ n1_; (try clear hb); (try clear hb2); (try clear hk); (try clear hi); have hcz16_0 : w15.cell? ⟨gb135, 0, none⟩ = some (.int .i64 a0_0) := bc BK135 0; have hcz16_1 : w15.cell? ⟨gb135, 1, none⟩ = some (.int .i64 a0_1) := bc BK135 1; have hcz16_2 : w15.cell? ⟨gb135, 2, none⟩ = some (.int .i64 a0_2) := bc BK135 2; have hcz16_3 : w15.cell? ⟨gb135, 3, none⟩ = some (.int .i64 a0_3) := bc BK135 3; have hcz16_4 : w15.cell? ⟨gb135, 4, none⟩ = some (.int .i64 a0_4) := bc BK135 4; have hcz16_5 : w15.cell? ⟨gb135, 5, none⟩ = some (.int .i64 a0_5) := bc BK135 5; have hcz16_6 : w15.cell? ⟨gb135, 6, none⟩ = some (.string a0_6) := bc BK135 6; have hcz16_7 : w15.cell? ⟨gb135, 7, none⟩ = some (.slice A0_7 l0_7.length c0_7) := bc BK135 7; have hcz16_8 : w15.cell? ⟨gb135, 8, none⟩ = some (.int .i64 a0_8) := bc BK135 8; have hcz16_9 : w15.cell? ⟨gb135, 9, none⟩ = some (.int .i64 a0_9) := bc BK135 9; have hcz16_10 : w15.cell? ⟨gb135, 10, none⟩ = some (.int .i64 a0_10) := bc BK135 10; have hfz16_0 := bf BK135 0; have hfz16_1 := bf BK135 1; have hfz16_2 := bf BK135 2; have hfz16_3 := bf BK135 3; have hfz16_4 := bf BK135 4; have hfz16_5 := bf BK135 5; have hfz16_6 := bf BK135 6; have hfz16_7 := bf BK135 7; have hfz16_8 := bf BK135 8; have hfz16_9 := bf BK135 9; have hfz16_10 := bf BK135 10) | (go_at_call 168; (with_reducible refine (op_own.calls a0_0 a0_1 a0_2 a0_3 a0_4 a0_5 a0_6 _ _ l0_7 a0_8 a0_9 a0_10 a0_3 a0_4 a0_5 false _ ?side1 ?side2 A6.out).mono ?_); (case side1 => repeat (first | exact (Kd.C_below HR0_7.out HB.out) | (with_reducible refine Kd.C_alloc ?_ _) | (with_reducible refine Kd.C_drewN ?_ _) | (with_reducible refine Kd.C_drew ?_))); (case side2 => exact HC0_7.out); rintro e w17 ⟨rfl, hb⟩; have n0_ := Aside0.mk (blk_below (g := gb135) (o := .cells #[.int .i64 a0_0, .int .i64 a0_1, .int .i64 a0_2, .int .i64 a0_3, .int .i64 a0_4, .int .i64 a0_5, .string a0_6, .slice A0_7 l0_7.length c0_7, .int .i64 a0_8, .int .i64 a0_9, .int .i64 a0_10] 31 (0, 0)) (by (with_reducible repeat (first | refine blk_drewN ?_ _ | refine blk_drew ?_ | refine blk_alloc ?_ _)); exact BK135.out) hb); have n1_ := Aside0.mk (below_step (by repeat (first | (with_reducible first | exact HB.out | apply below_alloc | apply pw_below_drewN | apply below_drew1 | refine below_set ?_ GE135.out) | exact HB.out)) hb); clear BK135; clear HB; have BK135 := n0_; have HB := n1_; clear n0_ n1_; (try clear hb); (try clear hb2); (try clear hk); (try clear hi); have hcz18_0 : w17.cell? ⟨gb135, 0, none⟩ = some (.int .i64 a0_0) := bc BK135 0; have hcz18_1 : w17.cell? ⟨gb135, 1, none⟩ = some (.int .i64 a0_1) := bc BK135 1; have hcz18_2 : w17.cell? ⟨gb135, 2, none⟩ = some (.int .i64 a0_2) := bc BK135 2; have hcz18_3 : w17.cell? ⟨gb135, 3, none⟩ = some (.int .i64 a0_3) := bc BK135 3; have hcz18_4 : w17.cell? ⟨gb135, 4, none⟩ = some (.int .i64 a0_4) := bc BK135 4; have hcz18_5 : w17.cell? ⟨gb135, 5, none⟩ = some (.int .i64 a0_5) := bc BK135 5; have hcz18_6 : w17.cell? ⟨gb135, 6, none⟩ = some (.string a0_6) := bc BK135 6; have hcz18_7 : w17.cell? ⟨gb135, 7, none⟩ = some (.slice A0_7 l0_7.length c0_7) := bc BK135 7; have hcz18_8 : w17.cell? ⟨gb135, 8, none⟩ = some (.int .i64 a0_8) := bc BK135 8; have hcz18_9 : w17.cell? ⟨gb135, 9, none⟩ = some (.int .i64 a0_9) := bc BK135 9; have hcz18_10 : w17.cell? ⟨gb135, 10, none⟩ = some (.int .i64 a0_10) := bc BK135 10; have hfz18_0 := bf BK135 0; have hfz18_1 := bf BK135 1; have hfz18_2 := bf BK135 2; have hfz18_3 := bf BK135 3; have hfz18_4 := bf BK135 4; have hfz18_5 := bf BK135 5; have hfz18_6 := bf BK135 6; have hfz18_7 := bf BK135 7; have hfz18_8 := bf BK135 8; have hfz18_9 := bf BK135 9; have hfz18_10 := bf BK135 10))
          go_meet
          case rel => exact ⟨_, (true), (by first | rfl | (simp; done) | (simp [*]; done)), H', ⟨by first | omega | exact Nat.le_refl _⟩, ⟨by (with_reducible repeat (first | refine blk_drewN ?_ _ | refine blk_drew ?_ | refine blk_alloc ?_ _)); exact BK135.out⟩, ⟨by repeat (first | (with_reducible first | exact HB.out | apply below_alloc | apply pw_below_drewN | apply below_drew1 | refine below_set ?_ GE135.out) | exact HB.out)⟩⟩
        rw [if_neg c13] at H
        have c13b0 : (!(a0_3 == 0) || (!(a0_4 == 0) || (!(a0_5 == 0)))) = false := by simpa using c13
        clear c13
        have H' := Aside0.mk H
        clear H
        have hcz19_0 : w3.cell? ⟨gb135, 0, none⟩ = some (.int .i64 a0_0) := bc BK135 0
        have hcz19_1 : w3.cell? ⟨gb135, 1, none⟩ = some (.int .i64 a0_1) := bc BK135 1
        have hcz19_2 : w3.cell? ⟨gb135, 2, none⟩ = some (.int .i64 a0_2) := bc BK135 2
        have hcz19_3 : w3.cell? ⟨gb135, 3, none⟩ = some (.int .i64 a0_3) := bc BK135 3
        have hcz19_4 : w3.cell? ⟨gb135, 4, none⟩ = some (.int .i64 a0_4) := bc BK135 4
        have hcz19_5 : w3.cell? ⟨gb135, 5, none⟩ = some (.int .i64 a0_5) := bc BK135 5
        have hcz19_6 : w3.cell? ⟨gb135, 6, none⟩ = some (.string a0_6) := bc BK135 6
        have hcz19_7 : w3.cell? ⟨gb135, 7, none⟩ = some (.slice A0_7 l0_7.length c0_7) := bc BK135 7
        have hcz19_8 : w3.cell? ⟨gb135, 8, none⟩ = some (.int .i64 a0_8) := bc BK135 8
        have hcz19_9 : w3.cell? ⟨gb135, 9, none⟩ = some (.int .i64 a0_9) := bc BK135 9
        have hcz19_10 : w3.cell? ⟨gb135, 10, none⟩ = some (.int .i64 a0_10) := bc BK135 10
        have hfz19_0 := bf BK135 0
        have hfz19_1 := bf BK135 1
        have hfz19_2 := bf BK135 2
        have hfz19_3 := bf BK135 3
        have hfz19_4 := bf BK135 4
        have hfz19_5 := bf BK135 5
        have hfz19_6 := bf BK135 6
        have hfz19_7 := bf BK135 7
        have hfz19_8 := bf BK135 8
        have hfz19_9 := bf BK135 9
        have hfz19_10 := bf BK135 10
        go_wp2_with (first | ((with_reducible refine gate_callee (f := 119) rfl ?_); refine goesL_ (some 5) rfl rfl Tryd.func119 (by kernel_rfl) rfl #[.agg #[.int .i64 a0_3, .int .i64 a0_4, .int .i64 a0_5]] rfl (by (try simp only [List.map_toArray, List.map_cons, List.map_nil]); first | done | rfl | (simp only [List.length_drop, List.length_take]; rfl)) ?_; (with_reducible refine (op_IsElem.calls a0_3 a0_4 a0_5 true _ A4.out).mono ?_); rintro e w20 ⟨rfl, hb⟩; refine ⟨_, rfl, ?_⟩; have n0_ := Aside0.mk (blk_below (g := gb135) (o := .cells #[.int .i64 a0_0, .int .i64 a0_1, .int .i64 a0_2, .int .i64 a0_3, .int .i64 a0_4, .int .i64 a0_5, .string a0_6, .slice A0_7 l0_7.length c0_7, .int .i64 a0_8, .int .i64 a0_9, .int .i64 a0_10] 31 (0, 0)) (by (with_reducible repeat (first | refine blk_drewN ?_ _ | refine blk_drew ?_ | refine blk_alloc ?_ _)); exact BK135.out) hb); have n1_ := Aside0.mk (below_step (by repeat (first | (with_reducible first | exact HB.out | apply below_alloc | apply pw_below_drewN | apply below_drew1 | refine below_set ?_ GE135.out) | exact HB.out)) hb); clear BK135; clear HB; have BK135 := n0_; have HB := n1_; clear n0_ n1_; (try clear hb); (try clear hb2); (try clear hk); (try clear hi); have hcz21_0 : w20.cell? ⟨gb135, 0, none⟩ = some (.int .i64 a0_0) := bc BK135 0; have hcz21_1 : w20.cell? ⟨gb135, 1, none⟩ = some (.int .i64 a0_1) := bc BK135 1; have hcz21_2 : w20.cell? ⟨gb135, 2, none⟩ = some (.int .i64 a0_2) := bc BK135 2; have hcz21_3 : w20.cell? ⟨gb135, 3, none⟩ = some (.int .i64 a0_3) := bc BK135 3; have hcz21_4 : w20.cell? ⟨gb135, 4, none⟩ = some (.int .i64 a0_4) := bc BK135 4; have hcz21_5 : w20.cell? ⟨gb135, 5, none⟩ = some (.int .i64 a0_5) := bc BK135 5; have hcz21_6 : w20.cell? ⟨gb135, 6, none⟩ = some (.string a0_6) := bc BK135 6; have hcz21_7 : w20.cell? ⟨gb135, 7, none⟩ = some (.slice A0_7 l0_7.length c0_7) := bc BK135 7; have hcz21_8 : w20.cell? ⟨gb135, 8, none⟩ = some (.int .i64 a0_8) := bc BK135 8; have hcz21_9 : w20.cell? ⟨gb135, 9, none⟩ = some (.int .i64 a0_9) := bc BK135 9; have hcz21_10 : w20.cell? ⟨gb135, 10, none⟩ = some (.int .i64 a0_10) := bc BK135 10; have hfz21_0 := bf BK135 0; have hfz21_1 := bf BK135 1; have hfz21_2 := bf BK135 2; have hfz21_3 := bf BK135 3; have hfz21_4 := bf BK135 4; have hfz21_5 := bf BK135 5; have hfz21_6 := bf BK135 6; have hfz21_7 := bf BK135 7; have hfz21_8 := bf BK135 8; have hfz21_9 := bf BK135 9; have hfz21_10 := bf BK135 10) | (go_at_call 168; (with_reducible refine (op_own.calls a0_0 a0_1 a0_2 a0_3 a0_4 a0_5 a0_6 _ _ l0_7 a0_8 a0_9 a0_10 a0_3 a0_4 a0_5 false _ ?side1 ?side2 A6.out).mono ?_); (case side1 => repeat (first | exact (Kd.C_below HR0_7.out HB.out) | (with_reducible refine Kd.C_alloc ?_ _) | (with_reducible refine Kd.C_drewN ?_ _) | (with_reducible refine Kd.C_drew ?_))); (case side2 => exact HC0_7.out); rintro e w22 ⟨rfl, hb⟩; have n0_ := Aside0.mk (blk_below (g := gb135) (o := .cells #[.int .i64 a0_0, .int .i64 a0_1, .int .i64 a0_2, .int .i64 a0_3, .int .i64 a0_4, .int .i64 a0_5, .string a0_6, .slice A0_7 l0_7.length c0_7, .int .i64 a0_8, .int .i64 a0_9, .int .i64 a0_10] 31 (0, 0)) (by (with_reducible repeat (first | refine blk_drewN ?_ _ | refine blk_drew ?_ | refine blk_alloc ?_ _)); exact BK135.out) hb); have n1_ := Aside0.mk (below_step (by repeat (first | (with_reducible first | exact HB.out | apply below_alloc | apply pw_below_drewN | apply below_drew1 | refine below_set ?_ GE135.out) | exact HB.out)) hb); clear BK135; clear HB; have BK135 := n0_; have HB := n1_; clear n0_ n1_; (try clear hb); (try clear hb2); (try clear hk); (try clear hi); have hcz23_0 : w22.cell? ⟨gb135, 0, none⟩ = some (.int .i64 a0_0) := bc BK135 0; have hcz23_1 : w22.cell? ⟨gb135, 1, none⟩ = some (.int .i64 a0_1) := bc BK135 1; have hcz23_2 : w22.cell? ⟨gb135, 2, none⟩ = some (.int .i64 a0_2) := bc BK135 2; have hcz23_3 : w22.cell? ⟨gb135, 3, none⟩ = some (.int .i64 a0_3) := bc BK135 3; have hcz23_4 : w22.cell? ⟨gb135, 4, none⟩ = some (.int .i64 a0_4) := bc BK135 4; have hcz23_5 : w22.cell? ⟨gb135, 5, none⟩ = some (.int .i64 a0_5) := bc BK135 5; have hcz23_6 : w22.cell? ⟨gb135, 6, none⟩ = some (.string a0_6) := bc BK135 6; have hcz23_7 : w22.cell? ⟨gb135, 7, none⟩ = some (.slice A0_7 l0_7.length c0_7) := bc BK135 7; have hcz23_8 : w22.cell? ⟨gb135, 8, none⟩ = some (.int .i64 a0_8) := bc BK135 8; have hcz23_9 : w22.cell? ⟨gb135, 9, none⟩ = some (.int .i64 a0_9) := bc BK135 9; have hcz23_10 : w22.cell? ⟨gb135, 10, none⟩ = some (.int .i64 a0_10) := bc BK135 10; have hfz23_0 := bf BK135 0; have hfz23_1 := bf BK135 1; have hfz23_2 := bf BK135 2; have hfz23_3 := bf BK135 3; have hfz23_4 := bf BK135 4; have hfz23_5 := bf BK135 5; have hfz23_6 := bf BK135 6; have hfz23_7 := bf BK135 7; have hfz23_8 := bf BK135 8; have hfz23_9 := bf BK135 9; have hfz23_10 := bf BK135 10))
        go_meet
        case rel => exact ⟨_, (((l0_7.length : Int) == 0)), (by first | rfl | (simp; done) | (simp [*]; done)), H', ⟨by first | omega | exact Nat.le_refl _⟩, ⟨by (with_reducible repeat (first | refine blk_drewN ?_ _ | refine blk_drew ?_ | refine blk_alloc ?_ _)); exact BK135.out⟩, ⟨by repeat (first | (with_reducible first | exact HB.out | apply below_alloc | apply pw_below_drewN | apply below_drew1 | refine below_set ?_ GE135.out) | exact HB.out)⟩⟩
      rw [if_neg c12] at H
      have c12b0 : (a0_6.toList == ([] : List UInt8)) = false := beq_eq_false_iff_ne.mpr c12
      have c12b1 : (a0_6.toList != ([] : List UInt8)) = true := bne_iff_ne.mpr c12
      (first | rw [c12b0] | (simp only [i64_w, i32_w]; rw [c12b0]) | skip)
      have H' := Aside0.mk H
      clear H
      have hcz24_0 : w3.cell? ⟨gb135, 0, none⟩ = some (.int .i64 a0_0) := bc BK135 0
      have hcz24_1 : w3.cell? ⟨gb135, 1, none⟩ = some (.int .i64 a0_1) := bc BK135 1
      have hcz24_2 : w3.cell? ⟨gb135, 2, none⟩ = some (.int .i64 a0_2) := bc BK135 2
      have hcz24_3 : w3.cell? ⟨gb135, 3, none⟩ = some (.int .i64 a0_3) := bc BK135 3
      have hcz24_4 : w3.cell? ⟨gb135, 4, none⟩ = some (.int .i64 a0_4) := bc BK135 4
      have hcz24_5 : w3.cell? ⟨gb135, 5, none⟩ = some (.int .i64 a0_5) := bc BK135 5
      have hcz24_6 : w3.cell? ⟨gb135, 6, none⟩ = some (.string a0_6) := bc BK135 6
      have hcz24_7 : w3.cell? ⟨gb135, 7, none⟩ = some (.slice A0_7 l0_7.length c0_7) := bc BK135 7
      have hcz24_8 : w3.cell? ⟨gb135, 8, none⟩ = some (.int .i64 a0_8) := bc BK135 8
      have hcz24_9 : w3.cell? ⟨gb135, 9, none⟩ = some (.int .i64 a0_9) := bc BK135 9
      have hcz24_10 : w3.cell? ⟨gb135, 10, none⟩ = some (.int .i64 a0_10) := bc BK135 10
      have hfz24_0 := bf BK135 0
      have hfz24_1 := bf BK135 1
      have hfz24_2 := bf BK135 2
      have hfz24_3 := bf BK135 3
      have hfz24_4 := bf BK135 4
      have hfz24_5 := bf BK135 5
      have hfz24_6 := bf BK135 6
      have hfz24_7 := bf BK135 7
      have hfz24_8 := bf BK135 8
      have hfz24_9 := bf BK135 9
      have hfz24_10 := bf BK135 10
      go_wp2_with (first | ((with_reducible refine gate_callee (f := 119) rfl ?_); refine goesL_ (some 5) rfl rfl Tryd.func119 (by kernel_rfl) rfl #[.agg #[.int .i64 a0_3, .int .i64 a0_4, .int .i64 a0_5]] rfl (by (try simp only [List.map_toArray, List.map_cons, List.map_nil]); first | done | rfl | (simp only [List.length_drop, List.length_take]; rfl)) ?_; (with_reducible refine (op_IsElem.calls a0_3 a0_4 a0_5 true _ A4.out).mono ?_); rintro e w25 ⟨rfl, hb⟩; refine ⟨_, rfl, ?_⟩; have n0_ := Aside0.mk (blk_below (g := gb135) (o := .cells #[.int .i64 a0_0, .int .i64 a0_1, .int .i64 a0_2, .int .i64 a0_3, .int .i64 a0_4, .int .i64 a0_5, .string a0_6, .slice A0_7 l0_7.length c0_7, .int .i64 a0_8, .int .i64 a0_9, .int .i64 a0_10] 31 (0, 0)) (by (with_reducible repeat (first | refine blk_drewN ?_ _ | refine blk_drew ?_ | refine blk_alloc ?_ _)); exact BK135.out) hb); have n1_ := Aside0.mk (below_step (by repeat (first | (with_reducible first | exact HB.out | apply below_alloc | apply pw_below_drewN | apply below_drew1 | refine below_set ?_ GE135.out) | exact HB.out)) hb); clear BK135; clear HB; have BK135 := n0_; have HB := n1_; clear n0_ n1_; (try clear hb); (try clear hb2); (try clear hk); (try clear hi); have hcz26_0 : w25.cell? ⟨gb135, 0, none⟩ = some (.int .i64 a0_0) := bc BK135 0; have hcz26_1 : w25.cell? ⟨gb135, 1, none⟩ = some (.int .i64 a0_1) := bc BK135 1; have hcz26_2 : w25.cell? ⟨gb135, 2, none⟩ = some (.int .i64 a0_2) := bc BK135 2; have hcz26_3 : w25.cell? ⟨gb135, 3, none⟩ = some (.int .i64 a0_3) := bc BK135 3; have hcz26_4 : w25.cell? ⟨gb135, 4, none⟩ = some (.int .i64 a0_4) := bc BK135 4; have hcz26_5 : w25.cell? ⟨gb135, 5, none⟩ = some (.int .i64 a0_5) := bc BK135 5; have hcz26_6 : w25.cell? ⟨gb135, 6, none⟩ = some (.string a0_6) := bc BK135 6; have hcz26_7 : w25.cell? ⟨gb135, 7, none⟩ = some (.slice A0_7 l0_7.length c0_7) := bc BK135 7; have hcz26_8 : w25.cell? ⟨gb135, 8, none⟩ = some (.int .i64 a0_8) := bc BK135 8; have hcz26_9 : w25.cell? ⟨gb135, 9, none⟩ = some (.int .i64 a0_9) := bc BK135 9; have hcz26_10 : w25.cell? ⟨gb135, 10, none⟩ = some (.int .i64 a0_10) := bc BK135 10; have hfz26_0 := bf BK135 0; have hfz26_1 := bf BK135 1; have hfz26_2 := bf BK135 2; have hfz26_3 := bf BK135 3; have hfz26_4 := bf BK135 4; have hfz26_5 := bf BK135 5; have hfz26_6 := bf BK135 6; have hfz26_7 := bf BK135 7; have hfz26_8 := bf BK135 8; have hfz26_9 := bf BK135 9; have hfz26_10 := bf BK135 10) | (go_at_call 168; (with_reducible refine (op_own.calls a0_0 a0_1 a0_2 a0_3 a0_4 a0_5 a0_6 _ _ l0_7 a0_8 a0_9 a0_10 a0_3 a0_4 a0_5 false _ ?side1 ?side2 A6.out).mono ?_); (case side1 => repeat (first | exact (Kd.C_below HR0_7.out HB.out) | (with_reducible refine Kd.C_alloc ?_ _) | (with_reducible refine Kd.C_drewN ?_ _) | (with_reducible refine Kd.C_drew ?_))); (case side2 => exact HC0_7.out); rintro e w27 ⟨rfl, hb⟩; have n0_ := Aside0.mk (blk_below (g := gb135) (o := .cells #[.int .i64 a0_0, .int .i64 a0_1, .int .i64 a0_2, .int .i64 a0_3, .int .i64 a0_4, .int .i64 a0_5, .string a0_6, .slice A0_7 l0_7.length c0_7, .int .i64 a0_8, .int .i64 a0_9, .int .i64 a0_10] 31 (0, 0)) (by (with_reducible repeat (first | refine blk_drewN ?_ _ | refine blk_drew ?_ | refine blk_alloc ?_ _)); exact BK135.out) hb); have n1_ := Aside0.mk (below_step (by repeat (first | (with_reducible first | exact HB.out | apply below_alloc | apply pw_below_drewN | apply below_drew1 | refine below_set ?_ GE135.out) | exact HB.out)) hb); clear BK135; clear HB; have BK135 := n0_; have HB := n1_; clear n0_ n1_; (try clear hb); (try clear hb2); (try clear hk); (try clear hi); have hcz28_0 : w27.cell? ⟨gb135, 0, none⟩ = some (.int .i64 a0_0) := bc BK135 0; have hcz28_1 : w27.cell? ⟨gb135, 1, none⟩ = some (.int .i64 a0_1) := bc BK135 1; have hcz28_2 : w27.cell? ⟨gb135, 2, none⟩ = some (.int .i64 a0_2) := bc BK135 2; have hcz28_3 : w27.cell? ⟨gb135, 3, none⟩ = some (.int .i64 a0_3) := bc BK135 3; have hcz28_4 : w27.cell? ⟨gb135, 4, none⟩ = some (.int .i64 a0_4) := bc BK135 4; have hcz28_5 : w27.cell? ⟨gb135, 5, none⟩ = some (.int .i64 a0_5) := bc BK135 5; have hcz28_6 : w27.cell? ⟨gb135, 6, none⟩ = some (.string a0_6) := bc BK135 6; have hcz28_7 : w27.cell? ⟨gb135, 7, none⟩ = some (.slice A0_7 l0_7.length c0_7) := bc BK135 7; have hcz28_8 : w27.cell? ⟨gb135, 8, none⟩ = some (.int .i64 a0_8) := bc BK135 8; have hcz28_9 : w27.cell? ⟨gb135, 9, none⟩ = some (.int .i64 a0_9) := bc BK135 9; have hcz28_10 : w27.cell? ⟨gb135, 10, none⟩ = some (.int .i64 a0_10) := bc BK135 10; have hfz28_0 := bf BK135 0; have hfz28_1 := bf BK135 1; have hfz28_2 := bf BK135 2; have hfz28_3 := bf BK135 3; have hfz28_4 := bf BK135 4; have hfz28_5 := bf BK135 5; have hfz28_6 := bf BK135 6; have hfz28_7 := bf BK135 7; have hfz28_8 := bf BK135 8; have hfz28_9 := bf BK135 9; have hfz28_10 := bf BK135 10))
      go_meet
      case rel => exact ⟨_, (false), (by first | rfl | (simp; done) | (simp [*]; done)), H', ⟨by first | omega | exact Nat.le_refl _⟩, ⟨by (with_reducible repeat (first | refine blk_drewN ?_ _ | refine blk_drew ?_ | refine blk_alloc ?_ _)); exact BK135.out⟩, ⟨by repeat (first | (with_reducible first | exact HB.out | apply below_alloc | apply pw_below_drewN | apply below_drew1 | refine below_set ?_ GE135.out) | exact HB.out)⟩⟩
    replace c5 := Bool.eq_false_iff.mpr c5
    subst c5
    have H1 : (op_edit.j0 k true a0_0 a0_1 a0_2 a0_3 a0_4 a0_5 a0_6 l0_7 a0_8 a0_9 a0_10) = some r := by rw [if_neg (show ¬ (false = true) by decide)] at H; exact H
    clear H
    have H := H1
    clear H1
    have H' := Aside0.mk H
    clear H
    have hcz29_0 : w3.cell? ⟨gb135, 0, none⟩ = some (.int .i64 a0_0) := bc BK135 0
    have hcz29_1 : w3.cell? ⟨gb135, 1, none⟩ = some (.int .i64 a0_1) := bc BK135 1
    have hcz29_2 : w3.cell? ⟨gb135, 2, none⟩ = some (.int .i64 a0_2) := bc BK135 2
    have hcz29_3 : w3.cell? ⟨gb135, 3, none⟩ = some (.int .i64 a0_3) := bc BK135 3
    have hcz29_4 : w3.cell? ⟨gb135, 4, none⟩ = some (.int .i64 a0_4) := bc BK135 4
    have hcz29_5 : w3.cell? ⟨gb135, 5, none⟩ = some (.int .i64 a0_5) := bc BK135 5
    have hcz29_6 : w3.cell? ⟨gb135, 6, none⟩ = some (.string a0_6) := bc BK135 6
    have hcz29_7 : w3.cell? ⟨gb135, 7, none⟩ = some (.slice A0_7 l0_7.length c0_7) := bc BK135 7
    have hcz29_8 : w3.cell? ⟨gb135, 8, none⟩ = some (.int .i64 a0_8) := bc BK135 8
    have hcz29_9 : w3.cell? ⟨gb135, 9, none⟩ = some (.int .i64 a0_9) := bc BK135 9
    have hcz29_10 : w3.cell? ⟨gb135, 10, none⟩ = some (.int .i64 a0_10) := bc BK135 10
    have hfz29_0 := bf BK135 0
    have hfz29_1 := bf BK135 1
    have hfz29_2 := bf BK135 2
    have hfz29_3 := bf BK135 3
    have hfz29_4 := bf BK135 4
    have hfz29_5 := bf BK135 5
    have hfz29_6 := bf BK135 6
    have hfz29_7 := bf BK135 7
    have hfz29_8 := bf BK135 8
    have hfz29_9 := bf BK135 9
    have hfz29_10 := bf BK135 10
    go_wp2_with (first | ((with_reducible refine gate_callee (f := 119) rfl ?_); refine goesL_ (some 5) rfl rfl Tryd.func119 (by kernel_rfl) rfl #[.agg #[.int .i64 a0_3, .int .i64 a0_4, .int .i64 a0_5]] rfl (by (try simp only [List.map_toArray, List.map_cons, List.map_nil]); first | done | rfl | (simp only [List.length_drop, List.length_take]; rfl)) ?_; (with_reducible refine (op_IsElem.calls a0_3 a0_4 a0_5 false _ A4.out).mono ?_); rintro e w30 ⟨rfl, hb⟩; refine ⟨_, rfl, ?_⟩; have n0_ := Aside0.mk (blk_below (g := gb135) (o := .cells #[.int .i64 a0_0, .int .i64 a0_1, .int .i64 a0_2, .int .i64 a0_3, .int .i64 a0_4, .int .i64 a0_5, .string a0_6, .slice A0_7 l0_7.length c0_7, .int .i64 a0_8, .int .i64 a0_9, .int .i64 a0_10] 31 (0, 0)) (by (with_reducible repeat (first | refine blk_drewN ?_ _ | refine blk_drew ?_ | refine blk_alloc ?_ _)); exact BK135.out) hb); have n1_ := Aside0.mk (below_step (by repeat (first | (with_reducible first | exact HB.out | apply below_alloc | apply pw_below_drewN | apply below_drew1 | refine below_set ?_ GE135.out) | exact HB.out)) hb); clear BK135; clear HB; have BK135 := n0_; have HB := n1_; clear n0_ n1_; (try clear hb); (try clear hb2); (try clear hk); (try clear hi)))
    go_meet
    case rel => exact ⟨_, (true), (by first | rfl | (simp; done) | (simp [*]; done)), H', ⟨by first | omega | exact Nat.le_refl _⟩, ⟨by (with_reducible repeat (first | refine blk_drewN ?_ _ | refine blk_drew ?_ | refine blk_alloc ?_ _)); exact BK135.out⟩, ⟨by repeat (first | (with_reducible first | exact HB.out | apply below_alloc | apply pw_below_drewN | apply below_drew1 | refine below_set ?_ GE135.out) | exact HB.out)⟩⟩
  case rest =>
    clear HC2
    obtain ⟨kq, x34_1, rfl, HA, HJ1, BK135, HB⟩ := hcut
    cases kq with
    | zero => exact absurd HA.out (by simp [op_edit.j0])
    | succ kj1 =>
      have H := HA.out
      clear HA
      simp only [op_edit.j0] at H
      by_cases c31 : x34_1 = true
      · subst c31
        have H1 : (some false) = some r := by rw [if_pos rfl] at H; exact H
        clear H
        have H := H1
        clear H1
        obtain rfl := Option.some.inj H
        go_wp2
        go_ret
        exact ⟨by first | rfl | (simp [errW_none, errW_some] <;> rfl) | (simp [*, errW_none, errW_some] <;> rfl), by repeat (first | (with_reducible first | exact HB.out | apply below_alloc | apply pw_below_drewN | apply below_drew1 | refine below_set ?_ GE135.out) | exact HB.out)⟩
      replace c31 := Bool.eq_false_iff.mpr c31
      subst c31
      have H1 : ((text_May.f a0_6).bind fun t138 => (if t138 = true then ((op_Size.f a0_0 a0_1 a0_2 a0_3 a0_4 a0_5 a0_6 l0_7 a0_8 a0_9 a0_10).bind fun t139 => (if t139 ≤ 12 then ((op_gone.f kj1 a0_0 a0_1 a0_2 a0_3 a0_4 a0_5 a0_6 l0_7 a0_8 a0_9 a0_10).bind fun t140 => (if t140 = true then (if a0_8 = 0 then (if a0_9 = 0 then (some (a0_10 == 0)) else (some false)) else (some false)) else (some false))) else (some false))) else (some false))) = some r := by rw [if_neg (show ¬ (false = true) by decide)] at H; exact H
      clear H
      have H := H1
      clear H1
      replace H := Option.bind_eq_some_iff.mp H
      obtain ⟨t138, A320, H⟩ := H
      replace H : (if t138 = true then ((op_Size.f a0_0 a0_1 a0_2 a0_3 a0_4 a0_5 a0_6 l0_7 a0_8 a0_9 a0_10).bind fun t139 => (if t139 ≤ 12 then ((op_gone.f kj1 a0_0 a0_1 a0_2 a0_3 a0_4 a0_5 a0_6 l0_7 a0_8 a0_9 a0_10).bind fun t140 => (if t140 = true then (if a0_8 = 0 then (if a0_9 = 0 then (some (a0_10 == 0)) else (some false)) else (some false)) else (some false))) else (some false))) else (some false)) = some r := H
      have A32 := Aside0.mk A320
      clear A320
      by_cases c33 : t138 = true
      · subst c33
        have H1 : ((op_Size.f a0_0 a0_1 a0_2 a0_3 a0_4 a0_5 a0_6 l0_7 a0_8 a0_9 a0_10).bind fun t139 => (if t139 ≤ 12 then ((op_gone.f kj1 a0_0 a0_1 a0_2 a0_3 a0_4 a0_5 a0_6 l0_7 a0_8 a0_9 a0_10).bind fun t140 => (if t140 = true then (if a0_8 = 0 then (if a0_9 = 0 then (some (a0_10 == 0)) else (some false)) else (some false)) else (some false))) else (some false))) = some r := by rw [if_pos rfl] at H; exact H
        clear H
        have H := H1
        clear H1
        replace H := Option.bind_eq_some_iff.mp H
        obtain ⟨t139, A340, H⟩ := H
        replace H : (if t139 ≤ 12 then ((op_gone.f kj1 a0_0 a0_1 a0_2 a0_3 a0_4 a0_5 a0_6 l0_7 a0_8 a0_9 a0_10).bind fun t140 => (if t140 = true then (if a0_8 = 0 then (if a0_9 = 0 then (some (a0_10 == 0)) else (some false)) else (some false)) else (some false))) else (some false)) = some r := H
        have A34 := Aside0.mk A340
        clear A340
        by_cases c35 : t139 ≤ 12
        · rw [if_pos c35] at H
          have c35b0 : decide (t139 ≤ 12) = true := decide_eq_true c35
          clear c35
          replace H := Option.bind_eq_some_iff.mp H
          obtain ⟨t140, A360, H⟩ := H
          replace H : (if t140 = true then (if a0_8 = 0 then (if a0_9 = 0 then (some (a0_10 == 0)) else (some false)) else (some false)) else (some false)) = some r := H
          have A36 := Aside0.mk A360
          clear A360
          by_cases c37 : t140 = true
          · subst c37
            have H1 : (if a0_8 = 0 then (if a0_9 = 0 then (some (a0_10 == 0)) else (some false)) else (some false)) = some r := by rw [if_pos rfl] at H; exact H
            clear H
            have H := H1
            clear H1
            by_cases c38 : a0_8 = 0
            · rw [if_pos c38] at H
              have c38b0 : (a0_8 == 0) = true := beq_iff_eq.mpr c38
              have c38b1 : (a0_8 != 0) = false := bne_eq_false_iff_eq.mpr c38
              clear c38
              by_cases c39 : a0_9 = 0
              · rw [if_pos c39] at H
                have c39b0 : (a0_9 == 0) = true := beq_iff_eq.mpr c39
                have c39b1 : (a0_9 != 0) = false := bne_eq_false_iff_eq.mpr c39
                clear c39
                obtain rfl := Option.some.inj H
                have hcz40_0 : wc.cell? ⟨gb135, 0, none⟩ = some (.int .i64 a0_0) := bc BK135 0
                have hcz40_1 : wc.cell? ⟨gb135, 1, none⟩ = some (.int .i64 a0_1) := bc BK135 1
                have hcz40_2 : wc.cell? ⟨gb135, 2, none⟩ = some (.int .i64 a0_2) := bc BK135 2
                have hcz40_3 : wc.cell? ⟨gb135, 3, none⟩ = some (.int .i64 a0_3) := bc BK135 3
                have hcz40_4 : wc.cell? ⟨gb135, 4, none⟩ = some (.int .i64 a0_4) := bc BK135 4
                have hcz40_5 : wc.cell? ⟨gb135, 5, none⟩ = some (.int .i64 a0_5) := bc BK135 5
                have hcz40_6 : wc.cell? ⟨gb135, 6, none⟩ = some (.string a0_6) := bc BK135 6
                have hcz40_7 : wc.cell? ⟨gb135, 7, none⟩ = some (.slice A0_7 l0_7.length c0_7) := bc BK135 7
                have hcz40_8 : wc.cell? ⟨gb135, 8, none⟩ = some (.int .i64 a0_8) := bc BK135 8
                have hcz40_9 : wc.cell? ⟨gb135, 9, none⟩ = some (.int .i64 a0_9) := bc BK135 9
                have hcz40_10 : wc.cell? ⟨gb135, 10, none⟩ = some (.int .i64 a0_10) := bc BK135 10
                have hfz40_0 := bf BK135 0
                have hfz40_1 := bf BK135 1
                have hfz40_2 := bf BK135 2
                have hfz40_3 := bf BK135 3
                have hfz40_4 := bf BK135 4
                have hfz40_5 := bf BK135 5
                have hfz40_6 := bf BK135 6
                have hfz40_7 := bf BK135 7
                have hfz40_8 := bf BK135 8
                have hfz40_9 := bf BK135 9
                have hfz40_10 := bf BK135 10
                go_wp2_with (first | ((with_reducible refine gate_callee (f := 169) rfl ?_); refine goesL_ (some 37) rfl rfl Tryd.func169 (by kernel_rfl) rfl #[.string a0_6] rfl (by (try simp only [List.map_toArray, List.map_cons, List.map_nil]); first | done | rfl | (simp only [List.length_drop, List.length_take]; rfl)) ?_; (with_reducible refine (text_May.calls a0_6 true _ A32.out).mono ?_); rintro e w41 ⟨rfl, hb⟩; refine ⟨_, rfl, ?_⟩; have n0_ := Aside0.mk (blk_below (g := gb135) (o := .cells #[.int .i64 a0_0, .int .i64 a0_1, .int .i64 a0_2, .int .i64 a0_3, .int .i64 a0_4, .int .i64 a0_5, .string a0_6, .slice A0_7 l0_7.length c0_7, .int .i64 a0_8, .int .i64 a0_9, .int .i64 a0_10] 31 (0, 0)) (by (with_reducible repeat (first | refine blk_drewN ?_ _ | refine blk_drew ?_ | refine blk_alloc ?_ _)); exact BK135.out) hb); have n1_ := Aside0.mk (below_step (by repeat (first | (with_reducible first | exact HB.out | apply below_alloc | apply pw_below_drewN | apply below_drew1 | refine below_set ?_ GE135.out) | exact HB.out)) hb); clear BK135; clear HB; have BK135 := n0_; have HB := n1_; clear n0_ n1_; (try clear hb); (try clear hb2); (try clear hk); (try clear hi); have hcz42_0 : w41.cell? ⟨gb135, 0, none⟩ = some (.int .i64 a0_0) := bc BK135 0; have hcz42_1 : w41.cell? ⟨gb135, 1, none⟩ = some (.int .i64 a0_1) := bc BK135 1; have hcz42_2 : w41.cell? ⟨gb135, 2, none⟩ = some (.int .i64 a0_2) := bc BK135 2; have hcz42_3 : w41.cell? ⟨gb135, 3, none⟩ = some (.int .i64 a0_3) := bc BK135 3; have hcz42_4 : w41.cell? ⟨gb135, 4, none⟩ = some (.int .i64 a0_4) := bc BK135 4; have hcz42_5 : w41.cell? ⟨gb135, 5, none⟩ = some (.int .i64 a0_5) := bc BK135 5; have hcz42_6 : w41.cell? ⟨gb135, 6, none⟩ = some (.string a0_6) := bc BK135 6; have hcz42_7 : w41.cell? ⟨gb135, 7, none⟩ = some (.slice A0_7 l0_7.length c0_7) := bc BK135 7; have hcz42_8 : w41.cell? ⟨gb135, 8, none⟩ = some (.int .i64 a0_8) := bc BK135 8; have hcz42_9 : w41.cell? ⟨gb135, 9, none⟩ = some (.int .i64 a0_9) := bc BK135 9; have hcz42_10 : w41.cell? ⟨gb135, 10, none⟩ = some (.int .i64 a0_10) := bc BK135 10; have hfz42_0 := bf BK135 0; have hfz42_1 := bf BK135 1; have hfz42_2 := bf BK135 2; have hfz42_3 := bf BK135 3; have hfz42_4 := bf BK135 4; have hfz42_5 := bf BK135 5; have hfz42_6 := bf BK135 6; have hfz42_7 := bf BK135 7; have hfz42_8 := bf BK135 8; have hfz42_9 := bf BK135 9; have hfz42_10 := bf BK135 10) | (go_at_call 117; (with_reducible refine (op_Size.calls a0_0 a0_1 a0_2 a0_3 a0_4 a0_5 a0_6 _ _ l0_7 a0_8 a0_9 a0_10 t139 _ ?side1 ?side2 A34.out).mono ?_); (case side1 => repeat (first | exact (Kd.C_below HR0_7.out HB.out) | (with_reducible refine Kd.C_alloc ?_ _) | (with_reducible refine Kd.C_drewN ?_ _) | (with_reducible refine Kd.C_drew ?_))); (case side2 => exact HC0_7.out); rintro e w43 ⟨rfl, hb⟩; have n0_ := Aside0.mk (blk_below (g := gb135) (o := .cells #[.int .i64 a0_0, .int .i64 a0_1, .int .i64 a0_2, .int .i64 a0_3, .int .i64 a0_4, .int .i64 a0_5, .string a0_6, .slice A0_7 l0_7.length c0_7, .int .i64 a0_8, .int .i64 a0_9, .int .i64 a0_10] 31 (0, 0)) (by (with_reducible repeat (first | refine blk_drewN ?_ _ | refine blk_drew ?_ | refine blk_alloc ?_ _)); exact BK135.out) hb); have n1_ := Aside0.mk (below_step (by repeat (first | (with_reducible first | exact HB.out | apply below_alloc | apply pw_below_drewN | apply below_drew1 | refine below_set ?_ GE135.out) | exact HB.out)) hb); clear BK135; clear HB; have BK135 := n0_; have HB := n1_; clear n0_ n1_; (try clear hb); (try clear hb2); (try clear hk); (try clear hi); have hcz44_0 : w43.cell? ⟨gb135, 0, none⟩ = some (.int .i64 a0_0) := bc BK135 0; have hcz44_1 : w43.cell? ⟨gb135, 1, none⟩ = some (.int .i64 a0_1) := bc BK135 1; have hcz44_2 : w43.cell? ⟨gb135, 2, none⟩ = some (.int .i64 a0_2) := bc BK135 2; have hcz44_3 : w43.cell? ⟨gb135, 3, none⟩ = some (.int .i64 a0_3) := bc BK135 3; have hcz44_4 : w43.cell? ⟨gb135, 4, none⟩ = some (.int .i64 a0_4) := bc BK135 4; have hcz44_5 : w43.cell? ⟨gb135, 5, none⟩ = some (.int .i64 a0_5) := bc BK135 5; have hcz44_6 : w43.cell? ⟨gb135, 6, none⟩ = some (.string a0_6) := bc BK135 6; have hcz44_7 : w43.cell? ⟨gb135, 7, none⟩ = some (.slice A0_7 l0_7.length c0_7) := bc BK135 7; have hcz44_8 : w43.cell? ⟨gb135, 8, none⟩ = some (.int .i64 a0_8) := bc BK135 8; have hcz44_9 : w43.cell? ⟨gb135, 9, none⟩ = some (.int .i64 a0_9) := bc BK135 9; have hcz44_10 : w43.cell? ⟨gb135, 10, none⟩ = some (.int .i64 a0_10) := bc BK135 10; have hfz44_0 := bf BK135 0; have hfz44_1 := bf BK135 1; have hfz44_2 := bf BK135 2; have hfz44_3 := bf BK135 3; have hfz44_4 := bf BK135 4; have hfz44_5 := bf BK135 5; have hfz44_6 := bf BK135 6; have hfz44_7 := bf BK135 7; have hfz44_8 := bf BK135 8; have hfz44_9 := bf BK135 9; have hfz44_10 := bf BK135 10) | (go_at_call 170; (with_reducible refine (op_gone.calls kj1 a0_0 a0_1 a0_2 a0_3 a0_4 a0_5 a0_6 _ _ l0_7 a0_8 a0_9 a0_10 true _ ?side1 ?side2 A36.out).mono ?_); (case side1 => repeat (first | exact (Kd.C_below HR0_7.out HB.out) | (with_reducible refine Kd.C_alloc ?_ _) | (with_reducible refine Kd.C_drewN ?_ _) | (with_reducible refine Kd.C_drew ?_))); (case side2 => exact HC0_7.out); rintro e w45 ⟨rfl, hb⟩; have n0_ := Aside0.mk (blk_below (g := gb135) (o := .cells #[.int .i64 a0_0, .int .i64 a0_1, .int .i64 a0_2, .int .i64 a0_3, .int .i64 a0_4, .int .i64 a0_5, .string a0_6, .slice A0_7 l0_7.length c0_7, .int .i64 a0_8, .int .i64 a0_9, .int .i64 a0_10] 31 (0, 0)) (by (with_reducible repeat (first | refine blk_drewN ?_ _ | refine blk_drew ?_ | refine blk_alloc ?_ _)); exact BK135.out) hb); have n1_ := Aside0.mk (below_step (by repeat (first | (with_reducible first | exact HB.out | apply below_alloc | apply pw_below_drewN | apply below_drew1 | refine below_set ?_ GE135.out) | exact HB.out)) hb); clear BK135; clear HB; have BK135 := n0_; have HB := n1_; clear n0_ n1_; (try clear hb); (try clear hb2); (try clear hk); (try clear hi); have hcz46_0 : w45.cell? ⟨gb135, 0, none⟩ = some (.int .i64 a0_0) := bc BK135 0; have hcz46_1 : w45.cell? ⟨gb135, 1, none⟩ = some (.int .i64 a0_1) := bc BK135 1; have hcz46_2 : w45.cell? ⟨gb135, 2, none⟩ = some (.int .i64 a0_2) := bc BK135 2; have hcz46_3 : w45.cell? ⟨gb135, 3, none⟩ = some (.int .i64 a0_3) := bc BK135 3; have hcz46_4 : w45.cell? ⟨gb135, 4, none⟩ = some (.int .i64 a0_4) := bc BK135 4; have hcz46_5 : w45.cell? ⟨gb135, 5, none⟩ = some (.int .i64 a0_5) := bc BK135 5; have hcz46_6 : w45.cell? ⟨gb135, 6, none⟩ = some (.string a0_6) := bc BK135 6; have hcz46_7 : w45.cell? ⟨gb135, 7, none⟩ = some (.slice A0_7 l0_7.length c0_7) := bc BK135 7; have hcz46_8 : w45.cell? ⟨gb135, 8, none⟩ = some (.int .i64 a0_8) := bc BK135 8; have hcz46_9 : w45.cell? ⟨gb135, 9, none⟩ = some (.int .i64 a0_9) := bc BK135 9; have hcz46_10 : w45.cell? ⟨gb135, 10, none⟩ = some (.int .i64 a0_10) := bc BK135 10; have hfz46_0 := bf BK135 0; have hfz46_1 := bf BK135 1; have hfz46_2 := bf BK135 2; have hfz46_3 := bf BK135 3; have hfz46_4 := bf BK135 4; have hfz46_5 := bf BK135 5; have hfz46_6 := bf BK135 6; have hfz46_7 := bf BK135 7; have hfz46_8 := bf BK135 8; have hfz46_9 := bf BK135 9; have hfz46_10 := bf BK135 10))
                go_ret
                exact ⟨by first | rfl | (simp [errW_none, errW_some] <;> rfl) | (simp [*, errW_none, errW_some] <;> rfl), by repeat (first | (with_reducible first | exact HB.out | apply below_alloc | apply pw_below_drewN | apply below_drew1 | refine below_set ?_ GE135.out) | exact HB.out)⟩
              rw [if_neg c39] at H
              have c39b0 : (a0_9 == 0) = false := beq_eq_false_iff_ne.mpr c39
              have c39b1 : (a0_9 != 0) = true := bne_iff_ne.mpr c39
              obtain rfl := Option.some.inj H
              have hcz47_0 : wc.cell? ⟨gb135, 0, none⟩ = some (.int .i64 a0_0) := bc BK135 0
              have hcz47_1 : wc.cell? ⟨gb135, 1, none⟩ = some (.int .i64 a0_1) := bc BK135 1
              have hcz47_2 : wc.cell? ⟨gb135, 2, none⟩ = some (.int .i64 a0_2) := bc BK135 2
              have hcz47_3 : wc.cell? ⟨gb135, 3, none⟩ = some (.int .i64 a0_3) := bc BK135 3
              have hcz47_4 : wc.cell? ⟨gb135, 4, none⟩ = some (.int .i64 a0_4) := bc BK135 4
              have hcz47_5 : wc.cell? ⟨gb135, 5, none⟩ = some (.int .i64 a0_5) := bc BK135 5
              have hcz47_6 : wc.cell? ⟨gb135, 6, none⟩ = some (.string a0_6) := bc BK135 6
              have hcz47_7 : wc.cell? ⟨gb135, 7, none⟩ = some (.slice A0_7 l0_7.length c0_7) := bc BK135 7
              have hcz47_8 : wc.cell? ⟨gb135, 8, none⟩ = some (.int .i64 a0_8) := bc BK135 8
              have hcz47_9 : wc.cell? ⟨gb135, 9, none⟩ = some (.int .i64 a0_9) := bc BK135 9
              have hcz47_10 : wc.cell? ⟨gb135, 10, none⟩ = some (.int .i64 a0_10) := bc BK135 10
              have hfz47_0 := bf BK135 0
              have hfz47_1 := bf BK135 1
              have hfz47_2 := bf BK135 2
              have hfz47_3 := bf BK135 3
              have hfz47_4 := bf BK135 4
              have hfz47_5 := bf BK135 5
              have hfz47_6 := bf BK135 6
              have hfz47_7 := bf BK135 7
              have hfz47_8 := bf BK135 8
              have hfz47_9 := bf BK135 9
              have hfz47_10 := bf BK135 10
              go_wp2_with (first | ((with_reducible refine gate_callee (f := 169) rfl ?_); refine goesL_ (some 37) rfl rfl Tryd.func169 (by kernel_rfl) rfl #[.string a0_6] rfl (by (try simp only [List.map_toArray, List.map_cons, List.map_nil]); first | done | rfl | (simp only [List.length_drop, List.length_take]; rfl)) ?_; (with_reducible refine (text_May.calls a0_6 true _ A32.out).mono ?_); rintro e w48 ⟨rfl, hb⟩; refine ⟨_, rfl, ?_⟩; have n0_ := Aside0.mk (blk_below (g := gb135) (o := .cells #[.int .i64 a0_0, .int .i64 a0_1, .int .i64 a0_2, .int .i64 a0_3, .int .i64 a0_4, .int .i64 a0_5, .string a0_6, .slice A0_7 l0_7.length c0_7, .int .i64 a0_8, .int .i64 a0_9, .int .i64 a0_10] 31 (0, 0)) (by (with_reducible repeat (first | refine blk_drewN ?_ _ | refine blk_drew ?_ | refine blk_alloc ?_ _)); exact BK135.out) hb); have n1_ := Aside0.mk (below_step (by repeat (first | (with_reducible first | exact HB.out | apply below_alloc | apply pw_below_drewN | apply below_drew1 | refine below_set ?_ GE135.out) | exact HB.out)) hb); clear BK135; clear HB; have BK135 := n0_; have HB := n1_; clear n0_ n1_; (try clear hb); (try clear hb2); (try clear hk); (try clear hi); have hcz49_0 : w48.cell? ⟨gb135, 0, none⟩ = some (.int .i64 a0_0) := bc BK135 0; have hcz49_1 : w48.cell? ⟨gb135, 1, none⟩ = some (.int .i64 a0_1) := bc BK135 1; have hcz49_2 : w48.cell? ⟨gb135, 2, none⟩ = some (.int .i64 a0_2) := bc BK135 2; have hcz49_3 : w48.cell? ⟨gb135, 3, none⟩ = some (.int .i64 a0_3) := bc BK135 3; have hcz49_4 : w48.cell? ⟨gb135, 4, none⟩ = some (.int .i64 a0_4) := bc BK135 4; have hcz49_5 : w48.cell? ⟨gb135, 5, none⟩ = some (.int .i64 a0_5) := bc BK135 5; have hcz49_6 : w48.cell? ⟨gb135, 6, none⟩ = some (.string a0_6) := bc BK135 6; have hcz49_7 : w48.cell? ⟨gb135, 7, none⟩ = some (.slice A0_7 l0_7.length c0_7) := bc BK135 7; have hcz49_8 : w48.cell? ⟨gb135, 8, none⟩ = some (.int .i64 a0_8) := bc BK135 8; have hcz49_9 : w48.cell? ⟨gb135, 9, none⟩ = some (.int .i64 a0_9) := bc BK135 9; have hcz49_10 : w48.cell? ⟨gb135, 10, none⟩ = some (.int .i64 a0_10) := bc BK135 10; have hfz49_0 := bf BK135 0; have hfz49_1 := bf BK135 1; have hfz49_2 := bf BK135 2; have hfz49_3 := bf BK135 3; have hfz49_4 := bf BK135 4; have hfz49_5 := bf BK135 5; have hfz49_6 := bf BK135 6; have hfz49_7 := bf BK135 7; have hfz49_8 := bf BK135 8; have hfz49_9 := bf BK135 9; have hfz49_10 := bf BK135 10) | (go_at_call 117; (with_reducible refine (op_Size.calls a0_0 a0_1 a0_2 a0_3 a0_4 a0_5 a0_6 _ _ l0_7 a0_8 a0_9 a0_10 t139 _ ?side1 ?side2 A34.out).mono ?_); (case side1 => repeat (first | exact (Kd.C_below HR0_7.out HB.out) | (with_reducible refine Kd.C_alloc ?_ _) | (with_reducible refine Kd.C_drewN ?_ _) | (with_reducible refine Kd.C_drew ?_))); (case side2 => exact HC0_7.out); rintro e w50 ⟨rfl, hb⟩; have n0_ := Aside0.mk (blk_below (g := gb135) (o := .cells #[.int .i64 a0_0, .int .i64 a0_1, .int .i64 a0_2, .int .i64 a0_3, .int .i64 a0_4, .int .i64 a0_5, .string a0_6, .slice A0_7 l0_7.length c0_7, .int .i64 a0_8, .int .i64 a0_9, .int .i64 a0_10] 31 (0, 0)) (by (with_reducible repeat (first | refine blk_drewN ?_ _ | refine blk_drew ?_ | refine blk_alloc ?_ _)); exact BK135.out) hb); have n1_ := Aside0.mk (below_step (by repeat (first | (with_reducible first | exact HB.out | apply below_alloc | apply pw_below_drewN | apply below_drew1 | refine below_set ?_ GE135.out) | exact HB.out)) hb); clear BK135; clear HB; have BK135 := n0_; have HB := n1_; clear n0_ n1_; (try clear hb); (try clear hb2); (try clear hk); (try clear hi); have hcz51_0 : w50.cell? ⟨gb135, 0, none⟩ = some (.int .i64 a0_0) := bc BK135 0; have hcz51_1 : w50.cell? ⟨gb135, 1, none⟩ = some (.int .i64 a0_1) := bc BK135 1; have hcz51_2 : w50.cell? ⟨gb135, 2, none⟩ = some (.int .i64 a0_2) := bc BK135 2; have hcz51_3 : w50.cell? ⟨gb135, 3, none⟩ = some (.int .i64 a0_3) := bc BK135 3; have hcz51_4 : w50.cell? ⟨gb135, 4, none⟩ = some (.int .i64 a0_4) := bc BK135 4; have hcz51_5 : w50.cell? ⟨gb135, 5, none⟩ = some (.int .i64 a0_5) := bc BK135 5; have hcz51_6 : w50.cell? ⟨gb135, 6, none⟩ = some (.string a0_6) := bc BK135 6; have hcz51_7 : w50.cell? ⟨gb135, 7, none⟩ = some (.slice A0_7 l0_7.length c0_7) := bc BK135 7; have hcz51_8 : w50.cell? ⟨gb135, 8, none⟩ = some (.int .i64 a0_8) := bc BK135 8; have hcz51_9 : w50.cell? ⟨gb135, 9, none⟩ = some (.int .i64 a0_9) := bc BK135 9; have hcz51_10 : w50.cell? ⟨gb135, 10, none⟩ = some (.int .i64 a0_10) := bc BK135 10; have hfz51_0 := bf BK135 0; have hfz51_1 := bf BK135 1; have hfz51_2 := bf BK135 2; have hfz51_3 := bf BK135 3; have hfz51_4 := bf BK135 4; have hfz51_5 := bf BK135 5; have hfz51_6 := bf BK135 6; have hfz51_7 := bf BK135 7; have hfz51_8 := bf BK135 8; have hfz51_9 := bf BK135 9; have hfz51_10 := bf BK135 10) | (go_at_call 170; (with_reducible refine (op_gone.calls kj1 a0_0 a0_1 a0_2 a0_3 a0_4 a0_5 a0_6 _ _ l0_7 a0_8 a0_9 a0_10 true _ ?side1 ?side2 A36.out).mono ?_); (case side1 => repeat (first | exact (Kd.C_below HR0_7.out HB.out) | (with_reducible refine Kd.C_alloc ?_ _) | (with_reducible refine Kd.C_drewN ?_ _) | (with_reducible refine Kd.C_drew ?_))); (case side2 => exact HC0_7.out); rintro e w52 ⟨rfl, hb⟩; have n0_ := Aside0.mk (blk_below (g := gb135) (o := .cells #[.int .i64 a0_0, .int .i64 a0_1, .int .i64 a0_2, .int .i64 a0_3, .int .i64 a0_4, .int .i64 a0_5, .string a0_6, .slice A0_7 l0_7.length c0_7, .int .i64 a0_8, .int .i64 a0_9, .int .i64 a0_10] 31 (0, 0)) (by (with_reducible repeat (first | refine blk_drewN ?_ _ | refine blk_drew ?_ | refine blk_alloc ?_ _)); exact BK135.out) hb); have n1_ := Aside0.mk (below_step (by repeat (first | (with_reducible first | exact HB.out | apply below_alloc | apply pw_below_drewN | apply below_drew1 | refine below_set ?_ GE135.out) | exact HB.out)) hb); clear BK135; clear HB; have BK135 := n0_; have HB := n1_; clear n0_ n1_; (try clear hb); (try clear hb2); (try clear hk); (try clear hi); have hcz53_0 : w52.cell? ⟨gb135, 0, none⟩ = some (.int .i64 a0_0) := bc BK135 0; have hcz53_1 : w52.cell? ⟨gb135, 1, none⟩ = some (.int .i64 a0_1) := bc BK135 1; have hcz53_2 : w52.cell? ⟨gb135, 2, none⟩ = some (.int .i64 a0_2) := bc BK135 2; have hcz53_3 : w52.cell? ⟨gb135, 3, none⟩ = some (.int .i64 a0_3) := bc BK135 3; have hcz53_4 : w52.cell? ⟨gb135, 4, none⟩ = some (.int .i64 a0_4) := bc BK135 4; have hcz53_5 : w52.cell? ⟨gb135, 5, none⟩ = some (.int .i64 a0_5) := bc BK135 5; have hcz53_6 : w52.cell? ⟨gb135, 6, none⟩ = some (.string a0_6) := bc BK135 6; have hcz53_7 : w52.cell? ⟨gb135, 7, none⟩ = some (.slice A0_7 l0_7.length c0_7) := bc BK135 7; have hcz53_8 : w52.cell? ⟨gb135, 8, none⟩ = some (.int .i64 a0_8) := bc BK135 8; have hcz53_9 : w52.cell? ⟨gb135, 9, none⟩ = some (.int .i64 a0_9) := bc BK135 9; have hcz53_10 : w52.cell? ⟨gb135, 10, none⟩ = some (.int .i64 a0_10) := bc BK135 10; have hfz53_0 := bf BK135 0; have hfz53_1 := bf BK135 1; have hfz53_2 := bf BK135 2; have hfz53_3 := bf BK135 3; have hfz53_4 := bf BK135 4; have hfz53_5 := bf BK135 5; have hfz53_6 := bf BK135 6; have hfz53_7 := bf BK135 7; have hfz53_8 := bf BK135 8; have hfz53_9 := bf BK135 9; have hfz53_10 := bf BK135 10))
              go_ret
              exact ⟨by first | rfl | (simp [errW_none, errW_some] <;> rfl) | (simp [*, errW_none, errW_some] <;> rfl), by repeat (first | (with_reducible first | exact HB.out | apply below_alloc | apply pw_below_drewN | apply below_drew1 | refine below_set ?_ GE135.out) | exact HB.out)⟩
            rw [if_neg c38] at H
            have c38b0 : (a0_8 == 0) = false := beq_eq_false_iff_ne.mpr c38
            have c38b1 : (a0_8 != 0) = true := bne_iff_ne.mpr c38
            obtain rfl := Option.some.inj H
            have hcz54_0 : wc.cell? ⟨gb135, 0, none⟩ = some (.int .i64 a0_0) := bc BK135 0
            have hcz54_1 : wc.cell? ⟨gb135, 1, none⟩ = some (.int .i64 a0_1) := bc BK135 1
            have hcz54_2 : wc.cell? ⟨gb135, 2, none⟩ = some (.int .i64 a0_2) := bc BK135 2
            have hcz54_3 : wc.cell? ⟨gb135, 3, none⟩ = some (.int .i64 a0_3) := bc BK135 3
            have hcz54_4 : wc.cell? ⟨gb135, 4, none⟩ = some (.int .i64 a0_4) := bc BK135 4
            have hcz54_5 : wc.cell? ⟨gb135, 5, none⟩ = some (.int .i64 a0_5) := bc BK135 5
            have hcz54_6 : wc.cell? ⟨gb135, 6, none⟩ = some (.string a0_6) := bc BK135 6
            have hcz54_7 : wc.cell? ⟨gb135, 7, none⟩ = some (.slice A0_7 l0_7.length c0_7) := bc BK135 7
            have hcz54_8 : wc.cell? ⟨gb135, 8, none⟩ = some (.int .i64 a0_8) := bc BK135 8
            have hcz54_9 : wc.cell? ⟨gb135, 9, none⟩ = some (.int .i64 a0_9) := bc BK135 9
            have hcz54_10 : wc.cell? ⟨gb135, 10, none⟩ = some (.int .i64 a0_10) := bc BK135 10
            have hfz54_0 := bf BK135 0
            have hfz54_1 := bf BK135 1
            have hfz54_2 := bf BK135 2
            have hfz54_3 := bf BK135 3
            have hfz54_4 := bf BK135 4
            have hfz54_5 := bf BK135 5
            have hfz54_6 := bf BK135 6
            have hfz54_7 := bf BK135 7
            have hfz54_8 := bf BK135 8
            have hfz54_9 := bf BK135 9
            have hfz54_10 := bf BK135 10
            go_wp2_with (first | ((with_reducible refine gate_callee (f := 169) rfl ?_); refine goesL_ (some 37) rfl rfl Tryd.func169 (by kernel_rfl) rfl #[.string a0_6] rfl (by (try simp only [List.map_toArray, List.map_cons, List.map_nil]); first | done | rfl | (simp only [List.length_drop, List.length_take]; rfl)) ?_; (with_reducible refine (text_May.calls a0_6 true _ A32.out).mono ?_); rintro e w55 ⟨rfl, hb⟩; refine ⟨_, rfl, ?_⟩; have n0_ := Aside0.mk (blk_below (g := gb135) (o := .cells #[.int .i64 a0_0, .int .i64 a0_1, .int .i64 a0_2, .int .i64 a0_3, .int .i64 a0_4, .int .i64 a0_5, .string a0_6, .slice A0_7 l0_7.length c0_7, .int .i64 a0_8, .int .i64 a0_9, .int .i64 a0_10] 31 (0, 0)) (by (with_reducible repeat (first | refine blk_drewN ?_ _ | refine blk_drew ?_ | refine blk_alloc ?_ _)); exact BK135.out) hb); have n1_ := Aside0.mk (below_step (by repeat (first | (with_reducible first | exact HB.out | apply below_alloc | apply pw_below_drewN | apply below_drew1 | refine below_set ?_ GE135.out) | exact HB.out)) hb); clear BK135; clear HB; have BK135 := n0_; have HB := n1_; clear n0_ n1_; (try clear hb); (try clear hb2); (try clear hk); (try clear hi); have hcz56_0 : w55.cell? ⟨gb135, 0, none⟩ = some (.int .i64 a0_0) := bc BK135 0; have hcz56_1 : w55.cell? ⟨gb135, 1, none⟩ = some (.int .i64 a0_1) := bc BK135 1; have hcz56_2 : w55.cell? ⟨gb135, 2, none⟩ = some (.int .i64 a0_2) := bc BK135 2; have hcz56_3 : w55.cell? ⟨gb135, 3, none⟩ = some (.int .i64 a0_3) := bc BK135 3; have hcz56_4 : w55.cell? ⟨gb135, 4, none⟩ = some (.int .i64 a0_4) := bc BK135 4; have hcz56_5 : w55.cell? ⟨gb135, 5, none⟩ = some (.int .i64 a0_5) := bc BK135 5; have hcz56_6 : w55.cell? ⟨gb135, 6, none⟩ = some (.string a0_6) := bc BK135 6; have hcz56_7 : w55.cell? ⟨gb135, 7, none⟩ = some (.slice A0_7 l0_7.length c0_7) := bc BK135 7; have hcz56_8 : w55.cell? ⟨gb135, 8, none⟩ = some (.int .i64 a0_8) := bc BK135 8; have hcz56_9 : w55.cell? ⟨gb135, 9, none⟩ = some (.int .i64 a0_9) := bc BK135 9; have hcz56_10 : w55.cell? ⟨gb135, 10, none⟩ = some (.int .i64 a0_10) := bc BK135 10; have hfz56_0 := bf BK135 0; have hfz56_1 := bf BK135 1; have hfz56_2 := bf BK135 2; have hfz56_3 := bf BK135 3; have hfz56_4 := bf BK135 4; have hfz56_5 := bf BK135 5; have hfz56_6 := bf BK135 6; have hfz56_7 := bf BK135 7; have hfz56_8 := bf BK135 8; have hfz56_9 := bf BK135 9; have hfz56_10 := bf BK135 10) | (go_at_call 117; (with_reducible refine (op_Size.calls a0_0 a0_1 a0_2 a0_3 a0_4 a0_5 a0_6 _ _ l0_7 a0_8 a0_9 a0_10 t139 _ ?side1 ?side2 A34.out).mono ?_); (case side1 => repeat (first | exact (Kd.C_below HR0_7.out HB.out) | (with_reducible refine Kd.C_alloc ?_ _) | (with_reducible refine Kd.C_drewN ?_ _) | (with_reducible refine Kd.C_drew ?_))); (case side2 => exact HC0_7.out); rintro e w57 ⟨rfl, hb⟩; have n0_ := Aside0.mk (blk_below (g := gb135) (o := .cells #[.int .i64 a0_0, .int .i64 a0_1, .int .i64 a0_2, .int .i64 a0_3, .int .i64 a0_4, .int .i64 a0_5, .string a0_6, .slice A0_7 l0_7.length c0_7, .int .i64 a0_8, .int .i64 a0_9, .int .i64 a0_10] 31 (0, 0)) (by (with_reducible repeat (first | refine blk_drewN ?_ _ | refine blk_drew ?_ | refine blk_alloc ?_ _)); exact BK135.out) hb); have n1_ := Aside0.mk (below_step (by repeat (first | (with_reducible first | exact HB.out | apply below_alloc | apply pw_below_drewN | apply below_drew1 | refine below_set ?_ GE135.out) | exact HB.out)) hb); clear BK135; clear HB; have BK135 := n0_; have HB := n1_; clear n0_ n1_; (try clear hb); (try clear hb2); (try clear hk); (try clear hi); have hcz58_0 : w57.cell? ⟨gb135, 0, none⟩ = some (.int .i64 a0_0) := bc BK135 0; have hcz58_1 : w57.cell? ⟨gb135, 1, none⟩ = some (.int .i64 a0_1) := bc BK135 1; have hcz58_2 : w57.cell? ⟨gb135, 2, none⟩ = some (.int .i64 a0_2) := bc BK135 2; have hcz58_3 : w57.cell? ⟨gb135, 3, none⟩ = some (.int .i64 a0_3) := bc BK135 3; have hcz58_4 : w57.cell? ⟨gb135, 4, none⟩ = some (.int .i64 a0_4) := bc BK135 4; have hcz58_5 : w57.cell? ⟨gb135, 5, none⟩ = some (.int .i64 a0_5) := bc BK135 5; have hcz58_6 : w57.cell? ⟨gb135, 6, none⟩ = some (.string a0_6) := bc BK135 6; have hcz58_7 : w57.cell? ⟨gb135, 7, none⟩ = some (.slice A0_7 l0_7.length c0_7) := bc BK135 7; have hcz58_8 : w57.cell? ⟨gb135, 8, none⟩ = some (.int .i64 a0_8) := bc BK135 8; have hcz58_9 : w57.cell? ⟨gb135, 9, none⟩ = some (.int .i64 a0_9) := bc BK135 9; have hcz58_10 : w57.cell? ⟨gb135, 10, none⟩ = some (.int .i64 a0_10) := bc BK135 10; have hfz58_0 := bf BK135 0; have hfz58_1 := bf BK135 1; have hfz58_2 := bf BK135 2; have hfz58_3 := bf BK135 3; have hfz58_4 := bf BK135 4; have hfz58_5 := bf BK135 5; have hfz58_6 := bf BK135 6; have hfz58_7 := bf BK135 7; have hfz58_8 := bf BK135 8; have hfz58_9 := bf BK135 9; have hfz58_10 := bf BK135 10) | (go_at_call 170; (with_reducible refine (op_gone.calls kj1 a0_0 a0_1 a0_2 a0_3 a0_4 a0_5 a0_6 _ _ l0_7 a0_8 a0_9 a0_10 true _ ?side1 ?side2 A36.out).mono ?_); (case side1 => repeat (first | exact (Kd.C_below HR0_7.out HB.out) | (with_reducible refine Kd.C_alloc ?_ _) | (with_reducible refine Kd.C_drewN ?_ _) | (with_reducible refine Kd.C_drew ?_))); (case side2 => exact HC0_7.out); rintro e w59 ⟨rfl, hb⟩; have n0_ := Aside0.mk (blk_below (g := gb135) (o := .cells #[.int .i64 a0_0, .int .i64 a0_1, .int .i64 a0_2, .int .i64 a0_3, .int .i64 a0_4, .int .i64 a0_5, .string a0_6, .slice A0_7 l0_7.length c0_7, .int .i64 a0_8, .int .i64 a0_9, .int .i64 a0_10] 31 (0, 0)) (by (with_reducible repeat (first | refine blk_drewN ?_ _ | refine blk_drew ?_ | refine blk_alloc ?_ _)); exact BK135.out) hb); have n1_ := Aside0.mk (below_step (by repeat (first | (with_reducible first | exact HB.out | apply below_alloc | apply pw_below_drewN | apply below_drew1 | refine below_set ?_ GE135.out) | exact HB.out)) hb); clear BK135; clear HB; have BK135 := n0_; have HB := n1_; clear n0_ n1_; (try clear hb); (try clear hb2); (try clear hk); (try clear hi); have hcz60_0 : w59.cell? ⟨gb135, 0, none⟩ = some (.int .i64 a0_0) := bc BK135 0; have hcz60_1 : w59.cell? ⟨gb135, 1, none⟩ = some (.int .i64 a0_1) := bc BK135 1; have hcz60_2 : w59.cell? ⟨gb135, 2, none⟩ = some (.int .i64 a0_2) := bc BK135 2; have hcz60_3 : w59.cell? ⟨gb135, 3, none⟩ = some (.int .i64 a0_3) := bc BK135 3; have hcz60_4 : w59.cell? ⟨gb135, 4, none⟩ = some (.int .i64 a0_4) := bc BK135 4; have hcz60_5 : w59.cell? ⟨gb135, 5, none⟩ = some (.int .i64 a0_5) := bc BK135 5; have hcz60_6 : w59.cell? ⟨gb135, 6, none⟩ = some (.string a0_6) := bc BK135 6; have hcz60_7 : w59.cell? ⟨gb135, 7, none⟩ = some (.slice A0_7 l0_7.length c0_7) := bc BK135 7; have hcz60_8 : w59.cell? ⟨gb135, 8, none⟩ = some (.int .i64 a0_8) := bc BK135 8; have hcz60_9 : w59.cell? ⟨gb135, 9, none⟩ = some (.int .i64 a0_9) := bc BK135 9; have hcz60_10 : w59.cell? ⟨gb135, 10, none⟩ = some (.int .i64 a0_10) := bc BK135 10; have hfz60_0 := bf BK135 0; have hfz60_1 := bf BK135 1; have hfz60_2 := bf BK135 2; have hfz60_3 := bf BK135 3; have hfz60_4 := bf BK135 4; have hfz60_5 := bf BK135 5; have hfz60_6 := bf BK135 6; have hfz60_7 := bf BK135 7; have hfz60_8 := bf BK135 8; have hfz60_9 := bf BK135 9; have hfz60_10 := bf BK135 10))
            go_ret
            exact ⟨by first | rfl | (simp [errW_none, errW_some] <;> rfl) | (simp [*, errW_none, errW_some] <;> rfl), by repeat (first | (with_reducible first | exact HB.out | apply below_alloc | apply pw_below_drewN | apply below_drew1 | refine below_set ?_ GE135.out) | exact HB.out)⟩
          replace c37 := Bool.eq_false_iff.mpr c37
          subst c37
          have H1 : (some false) = some r := by rw [if_neg (show ¬ (false = true) by decide)] at H; exact H
          clear H
          have H := H1
          clear H1
          obtain rfl := Option.some.inj H
          have hcz61_0 : wc.cell? ⟨gb135, 0, none⟩ = some (.int .i64 a0_0) := bc BK135 0
          have hcz61_1 : wc.cell? ⟨gb135, 1, none⟩ = some (.int .i64 a0_1) := bc BK135 1
          have hcz61_2 : wc.cell? ⟨gb135, 2, none⟩ = some (.int .i64 a0_2) := bc BK135 2
          have hcz61_3 : wc.cell? ⟨gb135, 3, none⟩ = some (.int .i64 a0_3) := bc BK135 3
          have hcz61_4 : wc.cell? ⟨gb135, 4, none⟩ = some (.int .i64 a0_4) := bc BK135 4
          have hcz61_5 : wc.cell? ⟨gb135, 5, none⟩ = some (.int .i64 a0_5) := bc BK135 5
          have hcz61_6 : wc.cell? ⟨gb135, 6, none⟩ = some (.string a0_6) := bc BK135 6
          have hcz61_7 : wc.cell? ⟨gb135, 7, none⟩ = some (.slice A0_7 l0_7.length c0_7) := bc BK135 7
          have hcz61_8 : wc.cell? ⟨gb135, 8, none⟩ = some (.int .i64 a0_8) := bc BK135 8
          have hcz61_9 : wc.cell? ⟨gb135, 9, none⟩ = some (.int .i64 a0_9) := bc BK135 9
          have hcz61_10 : wc.cell? ⟨gb135, 10, none⟩ = some (.int .i64 a0_10) := bc BK135 10
          have hfz61_0 := bf BK135 0
          have hfz61_1 := bf BK135 1
          have hfz61_2 := bf BK135 2
          have hfz61_3 := bf BK135 3
          have hfz61_4 := bf BK135 4
          have hfz61_5 := bf BK135 5
          have hfz61_6 := bf BK135 6
          have hfz61_7 := bf BK135 7
          have hfz61_8 := bf BK135 8
          have hfz61_9 := bf BK135 9
          have hfz61_10 := bf BK135 10
          go_wp2_with (first | ((with_reducible refine gate_callee (f := 169) rfl ?_); refine goesL_ (some 37) rfl rfl Tryd.func169 (by kernel_rfl) rfl #[.string a0_6] rfl (by (try simp only [List.map_toArray, List.map_cons, List.map_nil]); first | done | rfl | (simp only [List.length_drop, List.length_take]; rfl)) ?_; (with_reducible refine (text_May.calls a0_6 true _ A32.out).mono ?_); rintro e w62 ⟨rfl, hb⟩; refine ⟨_, rfl, ?_⟩; have n0_ := Aside0.mk (blk_below (g := gb135) (o := .cells #[.int .i64 a0_0, .int .i64 a0_1, .int .i64 a0_2, .int .i64 a0_3, .int .i64 a0_4, .int .i64 a0_5, .string a0_6, .slice A0_7 l0_7.length c0_7, .int .i64 a0_8, .int .i64 a0_9, .int .i64 a0_10] 31 (0, 0)) (by (with_reducible repeat (first | refine blk_drewN ?_ _ | refine blk_drew ?_ | refine blk_alloc ?_ _)); exact BK135.out) hb); have n1_ := Aside0.mk (below_step (by repeat (first | (with_reducible first | exact HB.out | apply below_alloc | apply pw_below_drewN | apply below_drew1 | refine below_set ?_ GE135.out) | exact HB.out)) hb); clear BK135; clear HB; have BK135 := n0_; have HB := n1_; clear n0_ n1_; (try clear hb); (try clear hb2); (try clear hk); (try clear hi); have hcz63_0 : w62.cell? ⟨gb135, 0, none⟩ = some (.int .i64 a0_0) := bc BK135 0; have hcz63_1 : w62.cell? ⟨gb135, 1, none⟩ = some (.int .i64 a0_1) := bc BK135 1; have hcz63_2 : w62.cell? ⟨gb135, 2, none⟩ = some (.int .i64 a0_2) := bc BK135 2; have hcz63_3 : w62.cell? ⟨gb135, 3, none⟩ = some (.int .i64 a0_3) := bc BK135 3; have hcz63_4 : w62.cell? ⟨gb135, 4, none⟩ = some (.int .i64 a0_4) := bc BK135 4; have hcz63_5 : w62.cell? ⟨gb135, 5, none⟩ = some (.int .i64 a0_5) := bc BK135 5; have hcz63_6 : w62.cell? ⟨gb135, 6, none⟩ = some (.string a0_6) := bc BK135 6; have hcz63_7 : w62.cell? ⟨gb135, 7, none⟩ = some (.slice A0_7 l0_7.length c0_7) := bc BK135 7; have hcz63_8 : w62.cell? ⟨gb135, 8, none⟩ = some (.int .i64 a0_8) := bc BK135 8; have hcz63_9 : w62.cell? ⟨gb135, 9, none⟩ = some (.int .i64 a0_9) := bc BK135 9; have hcz63_10 : w62.cell? ⟨gb135, 10, none⟩ = some (.int .i64 a0_10) := bc BK135 10; have hfz63_0 := bf BK135 0; have hfz63_1 := bf BK135 1; have hfz63_2 := bf BK135 2; have hfz63_3 := bf BK135 3; have hfz63_4 := bf BK135 4; have hfz63_5 := bf BK135 5; have hfz63_6 := bf BK135 6; have hfz63_7 := bf BK135 7; have hfz63_8 := bf BK135 8; have hfz63_9 := bf BK135 9; have hfz63_10 := bf BK135 10) | (go_at_call 117; (with_reducible refine (op_Size.calls a0_0 a0_1 a0_2 a0_3 a0_4 a0_5 a0_6 _ _ l0_7 a0_8 a0_9 a0_10 t139 _ ?side1 ?side2 A34.out).mono ?_); (case side1 => repeat (first | exact (Kd.C_below HR0_7.out HB.out) | (with_reducible refine Kd.C_alloc ?_ _) | (with_reducible refine Kd.C_drewN ?_ _) | (with_reducible refine Kd.C_drew ?_))); (case side2 => exact HC0_7.out); rintro e w64 ⟨rfl, hb⟩; have n0_ := Aside0.mk (blk_below (g := gb135) (o := .cells #[.int .i64 a0_0, .int .i64 a0_1, .int .i64 a0_2, .int .i64 a0_3, .int .i64 a0_4, .int .i64 a0_5, .string a0_6, .slice A0_7 l0_7.length c0_7, .int .i64 a0_8, .int .i64 a0_9, .int .i64 a0_10] 31 (0, 0)) (by (with_reducible repeat (first | refine blk_drewN ?_ _ | refine blk_drew ?_ | refine blk_alloc ?_ _)); exact BK135.out) hb); have n1_ := Aside0.mk (below_step (by repeat (first | (with_reducible first | exact HB.out | apply below_alloc | apply pw_below_drewN | apply below_drew1 | refine below_set ?_ GE135.out) | exact HB.out)) hb); clear BK135; clear HB; have BK135 := n0_; have HB := n1_; clear n0_ n1_; (try clear hb); (try clear hb2); (try clear hk); (try clear hi); have hcz65_0 : w64.cell? ⟨gb135, 0, none⟩ = some (.int .i64 a0_0) := bc BK135 0; have hcz65_1 : w64.cell? ⟨gb135, 1, none⟩ = some (.int .i64 a0_1) := bc BK135 1; have hcz65_2 : w64.cell? ⟨gb135, 2, none⟩ = some (.int .i64 a0_2) := bc BK135 2; have hcz65_3 : w64.cell? ⟨gb135, 3, none⟩ = some (.int .i64 a0_3) := bc BK135 3; have hcz65_4 : w64.cell? ⟨gb135, 4, none⟩ = some (.int .i64 a0_4) := bc BK135 4; have hcz65_5 : w64.cell? ⟨gb135, 5, none⟩ = some (.int .i64 a0_5) := bc BK135 5; have hcz65_6 : w64.cell? ⟨gb135, 6, none⟩ = some (.string a0_6) := bc BK135 6; have hcz65_7 : w64.cell? ⟨gb135, 7, none⟩ = some (.slice A0_7 l0_7.length c0_7) := bc BK135 7; have hcz65_8 : w64.cell? ⟨gb135, 8, none⟩ = some (.int .i64 a0_8) := bc BK135 8; have hcz65_9 : w64.cell? ⟨gb135, 9, none⟩ = some (.int .i64 a0_9) := bc BK135 9; have hcz65_10 : w64.cell? ⟨gb135, 10, none⟩ = some (.int .i64 a0_10) := bc BK135 10; have hfz65_0 := bf BK135 0; have hfz65_1 := bf BK135 1; have hfz65_2 := bf BK135 2; have hfz65_3 := bf BK135 3; have hfz65_4 := bf BK135 4; have hfz65_5 := bf BK135 5; have hfz65_6 := bf BK135 6; have hfz65_7 := bf BK135 7; have hfz65_8 := bf BK135 8; have hfz65_9 := bf BK135 9; have hfz65_10 := bf BK135 10) | (go_at_call 170; (with_reducible refine (op_gone.calls kj1 a0_0 a0_1 a0_2 a0_3 a0_4 a0_5 a0_6 _ _ l0_7 a0_8 a0_9 a0_10 false _ ?side1 ?side2 A36.out).mono ?_); (case side1 => repeat (first | exact (Kd.C_below HR0_7.out HB.out) | (with_reducible refine Kd.C_alloc ?_ _) | (with_reducible refine Kd.C_drewN ?_ _) | (with_reducible refine Kd.C_drew ?_))); (case side2 => exact HC0_7.out); rintro e w66 ⟨rfl, hb⟩; have n0_ := Aside0.mk (blk_below (g := gb135) (o := .cells #[.int .i64 a0_0, .int .i64 a0_1, .int .i64 a0_2, .int .i64 a0_3, .int .i64 a0_4, .int .i64 a0_5, .string a0_6, .slice A0_7 l0_7.length c0_7, .int .i64 a0_8, .int .i64 a0_9, .int .i64 a0_10] 31 (0, 0)) (by (with_reducible repeat (first | refine blk_drewN ?_ _ | refine blk_drew ?_ | refine blk_alloc ?_ _)); exact BK135.out) hb); have n1_ := Aside0.mk (below_step (by repeat (first | (with_reducible first | exact HB.out | apply below_alloc | apply pw_below_drewN | apply below_drew1 | refine below_set ?_ GE135.out) | exact HB.out)) hb); clear BK135; clear HB; have BK135 := n0_; have HB := n1_; clear n0_ n1_; (try clear hb); (try clear hb2); (try clear hk); (try clear hi)))
          go_ret
          exact ⟨by first | rfl | (simp [errW_none, errW_some] <;> rfl) | (simp [*, errW_none, errW_some] <;> rfl), by repeat (first | (with_reducible first | exact HB.out | apply below_alloc | apply pw_below_drewN | apply below_drew1 | refine below_set ?_ GE135.out) | exact HB.out)⟩
        rw [if_neg c35] at H
        have c35b0 : decide (t139 ≤ 12) = false := decide_eq_false c35
        clear c35
        obtain rfl := Option.some.inj H
        have hcz67_0 : wc.cell? ⟨gb135, 0, none⟩ = some (.int .i64 a0_0) := bc BK135 0
        have hcz67_1 : wc.cell? ⟨gb135, 1, none⟩ = some (.int .i64 a0_1) := bc BK135 1
        have hcz67_2 : wc.cell? ⟨gb135, 2, none⟩ = some (.int .i64 a0_2) := bc BK135 2
        have hcz67_3 : wc.cell? ⟨gb135, 3, none⟩ = some (.int .i64 a0_3) := bc BK135 3
        have hcz67_4 : wc.cell? ⟨gb135, 4, none⟩ = some (.int .i64 a0_4) := bc BK135 4
        have hcz67_5 : wc.cell? ⟨gb135, 5, none⟩ = some (.int .i64 a0_5) := bc BK135 5
        have hcz67_6 : wc.cell? ⟨gb135, 6, none⟩ = some (.string a0_6) := bc BK135 6
        have hcz67_7 : wc.cell? ⟨gb135, 7, none⟩ = some (.slice A0_7 l0_7.length c0_7) := bc BK135 7
        have hcz67_8 : wc.cell? ⟨gb135, 8, none⟩ = some (.int .i64 a0_8) := bc BK135 8
        have hcz67_9 : wc.cell? ⟨gb135, 9, none⟩ = some (.int .i64 a0_9) := bc BK135 9
        have hcz67_10 : wc.cell? ⟨gb135, 10, none⟩ = some (.int .i64 a0_10) := bc BK135 10
        have hfz67_0 := bf BK135 0
        have hfz67_1 := bf BK135 1
        have hfz67_2 := bf BK135 2
        have hfz67_3 := bf BK135 3
        have hfz67_4 := bf BK135 4
        have hfz67_5 := bf BK135 5
        have hfz67_6 := bf BK135 6
        have hfz67_7 := bf BK135 7
        have hfz67_8 := bf BK135 8
        have hfz67_9 := bf BK135 9
        have hfz67_10 := bf BK135 10
        go_wp2_with (first | ((with_reducible refine gate_callee (f := 169) rfl ?_); refine goesL_ (some 37) rfl rfl Tryd.func169 (by kernel_rfl) rfl #[.string a0_6] rfl (by (try simp only [List.map_toArray, List.map_cons, List.map_nil]); first | done | rfl | (simp only [List.length_drop, List.length_take]; rfl)) ?_; (with_reducible refine (text_May.calls a0_6 true _ A32.out).mono ?_); rintro e w68 ⟨rfl, hb⟩; refine ⟨_, rfl, ?_⟩; have n0_ := Aside0.mk (blk_below (g := gb135) (o := .cells #[.int .i64 a0_0, .int .i64 a0_1, .int .i64 a0_2, .int .i64 a0_3, .int .i64 a0_4, .int .i64 a0_5, .string a0_6, .slice A0_7 l0_7.length c0_7, .int .i64 a0_8, .int .i64 a0_9, .int .i64 a0_10] 31 (0, 0)) (by (with_reducible repeat (first | refine blk_drewN ?_ _ | refine blk_drew ?_ | refine blk_alloc ?_ _)); exact BK135.out) hb); have n1_ := Aside0.mk (below_step (by repeat (first | (with_reducible first | exact HB.out | apply below_alloc | apply pw_below_drewN | apply below_drew1 | refine below_set ?_ GE135.out) | exact HB.out)) hb); clear BK135; clear HB; have BK135 := n0_; have HB := n1_; clear n0_ n1_; (try clear hb); (try clear hb2); (try clear hk); (try clear hi); have hcz69_0 : w68.cell? ⟨gb135, 0, none⟩ = some (.int .i64 a0_0) := bc BK135 0; have hcz69_1 : w68.cell? ⟨gb135, 1, none⟩ = some (.int .i64 a0_1) := bc BK135 1; have hcz69_2 : w68.cell? ⟨gb135, 2, none⟩ = some (.int .i64 a0_2) := bc BK135 2; have hcz69_3 : w68.cell? ⟨gb135, 3, none⟩ = some (.int .i64 a0_3) := bc BK135 3; have hcz69_4 : w68.cell? ⟨gb135, 4, none⟩ = some (.int .i64 a0_4) := bc BK135 4; have hcz69_5 : w68.cell? ⟨gb135, 5, none⟩ = some (.int .i64 a0_5) := bc BK135 5; have hcz69_6 : w68.cell? ⟨gb135, 6, none⟩ = some (.string a0_6) := bc BK135 6; have hcz69_7 : w68.cell? ⟨gb135, 7, none⟩ = some (.slice A0_7 l0_7.length c0_7) := bc BK135 7; have hcz69_8 : w68.cell? ⟨gb135, 8, none⟩ = some (.int .i64 a0_8) := bc BK135 8; have hcz69_9 : w68.cell? ⟨gb135, 9, none⟩ = some (.int .i64 a0_9) := bc BK135 9; have hcz69_10 : w68.cell? ⟨gb135, 10, none⟩ = some (.int .i64 a0_10) := bc BK135 10; have hfz69_0 := bf BK135 0; have hfz69_1 := bf BK135 1; have hfz69_2 := bf BK135 2; have hfz69_3 := bf BK135 3; have hfz69_4 := bf BK135 4; have hfz69_5 := bf BK135 5; have hfz69_6 := bf BK135 6; have hfz69_7 := bf BK135 7; have hfz69_8 := bf BK135 8; have hfz69_9 := bf BK135 9; have hfz69_10 := bf BK135 10) | (go_at_call 117; (with_reducible refine (op_Size.calls a0_0 a0_1 a0_2 a0_3 a0_4 a0_5 a0_6 _ _ l0_7 a0_8 a0_9 a0_10 t139 _ ?side1 ?side2 A34.out).mono ?_); (case side1 => repeat (first | exact (Kd.C_below HR0_7.out HB.out) | (with_reducible refine Kd.C_alloc ?_ _) | (with_reducible refine Kd.C_drewN ?_ _) | (with_reducible refine Kd.C_drew ?_))); (case side2 => exact HC0_7.out); rintro e w70 ⟨rfl, hb⟩; have n0_ := Aside0.mk (blk_below (g := gb135) (o := .cells #[.int .i64 a0_0, .int .i64 a0_1, .int .i64 a0_2, .int .i64 a0_3, .int .i64 a0_4, .int .i64 a0_5, .string a0_6, .slice A0_7 l0_7.length c0_7, .int .i64 a0_8, .int .i64 a0_9, .int .i64 a0_10] 31 (0, 0)) (by (with_reducible repeat (first | refine blk_drewN ?_ _ | refine blk_drew ?_ | refine blk_alloc ?_ _)); exact BK135.out) hb); have n1_ := Aside0.mk (below_step (by repeat (first | (with_reducible first | exact HB.out | apply below_alloc | apply pw_below_drewN | apply below_drew1 | refine below_set ?_ GE135.out) | exact HB.out)) hb); clear BK135; clear HB; have BK135 := n0_; have HB := n1_; clear n0_ n1_; (try clear hb); (try clear hb2); (try clear hk); (try clear hi)))
        go_ret
        exact ⟨by first | rfl | (simp [errW_none, errW_some] <;> rfl) | (simp [*, errW_none, errW_some] <;> rfl), by repeat (first | (with_reducible first | exact HB.out | apply below_alloc | apply pw_below_drewN | apply below_drew1 | refine below_set ?_ GE135.out) | exact HB.out)⟩
      replace c33 := Bool.eq_false_iff.mpr c33
      subst c33
      have H1 : (some false) = some r := by rw [if_neg (show ¬ (false = true) by decide)] at H; exact H
      clear H
      have H := H1
      clear H1
      obtain rfl := Option.some.inj H
      have hcz71_0 : wc.cell? ⟨gb135, 0, none⟩ = some (.int .i64 a0_0) := bc BK135 0
      have hcz71_1 : wc.cell? ⟨gb135, 1, none⟩ = some (.int .i64 a0_1) := bc BK135 1
      have hcz71_2 : wc.cell? ⟨gb135, 2, none⟩ = some (.int .i64 a0_2) := bc BK135 2
      have hcz71_3 : wc.cell? ⟨gb135, 3, none⟩ = some (.int .i64 a0_3) := bc BK135 3
      have hcz71_4 : wc.cell? ⟨gb135, 4, none⟩ = some (.int .i64 a0_4) := bc BK135 4
      have hcz71_5 : wc.cell? ⟨gb135, 5, none⟩ = some (.int .i64 a0_5) := bc BK135 5
      have hcz71_6 : wc.cell? ⟨gb135, 6, none⟩ = some (.string a0_6) := bc BK135 6
      have hcz71_7 : wc.cell? ⟨gb135, 7, none⟩ = some (.slice A0_7 l0_7.length c0_7) := bc BK135 7
      have hcz71_8 : wc.cell? ⟨gb135, 8, none⟩ = some (.int .i64 a0_8) := bc BK135 8
      have hcz71_9 : wc.cell? ⟨gb135, 9, none⟩ = some (.int .i64 a0_9) := bc BK135 9
      have hcz71_10 : wc.cell? ⟨gb135, 10, none⟩ = some (.int .i64 a0_10) := bc BK135 10
      have hfz71_0 := bf BK135 0
      have hfz71_1 := bf BK135 1
      have hfz71_2 := bf BK135 2
      have hfz71_3 := bf BK135 3
      have hfz71_4 := bf BK135 4
      have hfz71_5 := bf BK135 5
      have hfz71_6 := bf BK135 6
      have hfz71_7 := bf BK135 7
      have hfz71_8 := bf BK135 8
      have hfz71_9 := bf BK135 9
      have hfz71_10 := bf BK135 10
      go_wp2_with (first | ((with_reducible refine gate_callee (f := 169) rfl ?_); refine goesL_ (some 37) rfl rfl Tryd.func169 (by kernel_rfl) rfl #[.string a0_6] rfl (by (try simp only [List.map_toArray, List.map_cons, List.map_nil]); first | done | rfl | (simp only [List.length_drop, List.length_take]; rfl)) ?_; (with_reducible refine (text_May.calls a0_6 false _ A32.out).mono ?_); rintro e w72 ⟨rfl, hb⟩; refine ⟨_, rfl, ?_⟩; have n0_ := Aside0.mk (blk_below (g := gb135) (o := .cells #[.int .i64 a0_0, .int .i64 a0_1, .int .i64 a0_2, .int .i64 a0_3, .int .i64 a0_4, .int .i64 a0_5, .string a0_6, .slice A0_7 l0_7.length c0_7, .int .i64 a0_8, .int .i64 a0_9, .int .i64 a0_10] 31 (0, 0)) (by (with_reducible repeat (first | refine blk_drewN ?_ _ | refine blk_drew ?_ | refine blk_alloc ?_ _)); exact BK135.out) hb); have n1_ := Aside0.mk (below_step (by repeat (first | (with_reducible first | exact HB.out | apply below_alloc | apply pw_below_drewN | apply below_drew1 | refine below_set ?_ GE135.out) | exact HB.out)) hb); clear BK135; clear HB; have BK135 := n0_; have HB := n1_; clear n0_ n1_; (try clear hb); (try clear hb2); (try clear hk); (try clear hi)))
      go_ret
      exact ⟨by first | rfl | (simp [errW_none, errW_some] <;> rfl) | (simp [*, errW_none, errW_some] <;> rfl), by repeat (first | (with_reducible first | exact HB.out | apply below_alloc | apply pw_below_drewN | apply below_drew1 | refine below_set ?_ GE135.out) | exact HB.out)⟩
end Go.Proofs.YtdahgnalojekdaaDoor.L
end

section
namespace Go.Proofs.YtdahgnalojekdaaDoor.L
open Go.RowKit Go.Proofs.YtdahgnalojekdaaDoorW.PrintWords Go.Proofs.YtdahgnalojekdaaDoorW.PrintLast Go.Proofs.YtdahgnalojekdaaDoorW.PrintMore
attribute [local go_sem] max2_int min2_int max_two min_two max_three min_three max_four min_four
set_option linter.unusedVariables false
set_option linter.unusedSimpArgs false
attribute [local go_sem high] eqAElem
def op_toggle.f (a0_0 : Int) (a0_1 : Int) (a0_2 : Int) (a0_3 : Int) (a0_4 : Int) (a0_5 : Int) (a0_6 : ByteArray) (l0_7 : List (SElem)) (a0_8 : Int) (a0_9 : Int) (a0_10 : Int) : Option (Bool) := (op_Name.f a0_8 a0_9).bind fun t142 => (if t142 = true then (if a0_8 = a0_0 then (if a0_9 = a0_1 then (some false) else (if a0_10 < 0 then (some false) else (if a0_10 > 268435456 then (some false) else (if (a0_3 == 0 && (a0_4 == 0 && (a0_5 == 0))) = true then (if a0_6.toList = ([] : List UInt8) then (some ((l0_7.length : Int) == 0)) else (some false)) else (some false))))) else (if a0_10 < 0 then (some false) else (if a0_10 > 268435456 then (some false) else (if (a0_3 == 0 && (a0_4 == 0 && (a0_5 == 0))) = true then (if a0_6.toList = ([] : List UInt8) then (some ((l0_7.length : Int) == 0)) else (some false)) else (some false))))) else (some false))
set_option maxHeartbeats 8000000 in
set_option maxRecDepth 100000 in
theorem op_toggle.calls (a0_0 : Int) (a0_1 : Int) (a0_2 : Int) (a0_3 : Int) (a0_4 : Int) (a0_5 : Int) (a0_6 : ByteArray) (A0_7 : Option Addr) (c0_7 : Nat) (l0_7 : List (SElem)) (a0_8 : Int) (a0_9 : Int) (a0_10 : Int) (r : Bool) (w : World) (hr0_7 : Kd.C kElem w A0_7 l0_7.length l0_7) (hc0_7 : l0_7.length ≤ c0_7) (h : op_toggle.f a0_0 a0_1 a0_2 a0_3 a0_4 a0_5 a0_6 l0_7 a0_8 a0_9 a0_10 = some r) :
    Calls Tryd.prog 146 #[.agg #[.int .i64 a0_0, .int .i64 a0_1, .int .i64 a0_2, .int .i64 a0_3, .int .i64 a0_4, .int .i64 a0_5, .string a0_6, .slice A0_7 l0_7.length c0_7, .int .i64 a0_8, .int .i64 a0_9, .int .i64 a0_10]] w fun e w' => e = .returned (.bool r) ∧ Below w.heap.size w w' := by
  have hu31 := Tryd.underlying31
  have hu29 := Tryd.underlying29
  have HR0_7 := Aside0.mk hr0_7
  have HC0_7 := Aside0.mk hc0_7
  clear hr0_7 hc0_7
  have HB := Aside0.mk (Below.refl w.heap.size w)
  have H : ((op_Name.f a0_8 a0_9).bind fun t142 => (if t142 = true then (if a0_8 = a0_0 then (if a0_9 = a0_1 then (some false) else (if a0_10 < 0 then (some false) else (if a0_10 > 268435456 then (some false) else (if (a0_3 == 0 && (a0_4 == 0 && (a0_5 == 0))) = true then (if a0_6.toList = ([] : List UInt8) then (some ((l0_7.length : Int) == 0)) else (some false)) else (some false))))) else (if a0_10 < 0 then (some false) else (if a0_10 > 268435456 then (some false) else (if (a0_3 == 0 && (a0_4 == 0 && (a0_5 == 0))) = true then (if a0_6.toList = ([] : List UInt8) then (some ((l0_7.length : Int) == 0)) else (some false)) else (some false))))) else (some false))) = some r := h
  clear h
  replace H := Option.bind_eq_some_iff.mp H
  obtain ⟨t142, A20, H⟩ := H
  replace H : (if t142 = true then (if a0_8 = a0_0 then (if a0_9 = a0_1 then (some false) else (if a0_10 < 0 then (some false) else (if a0_10 > 268435456 then (some false) else (if (a0_3 == 0 && (a0_4 == 0 && (a0_5 == 0))) = true then (if a0_6.toList = ([] : List UInt8) then (some ((l0_7.length : Int) == 0)) else (some false)) else (some false))))) else (if a0_10 < 0 then (some false) else (if a0_10 > 268435456 then (some false) else (if (a0_3 == 0 && (a0_4 == 0 && (a0_5 == 0))) = true then (if a0_6.toList = ([] : List UInt8) then (some ((l0_7.length : Int) == 0)) else (some false)) else (some false))))) else (some false)) = some r := H
  have A2 := Aside0.mk A20
  clear A20
  by_cases c3 : t142 = true
  · subst c3
    have H1 : (if a0_8 = a0_0 then (if a0_9 = a0_1 then (some false) else (if a0_10 < 0 then (some false) else (if a0_10 > 268435456 then (some false) else (if (a0_3 == 0 && (a0_4 == 0 && (a0_5 == 0))) = true then (if a0_6.toList = ([] : List UInt8) then (some ((l0_7.length : Int) == 0)) else (some false)) else (some false))))) else (if a0_10 < 0 then (some false) else (if a0_10 > 268435456 then (some false) else (if (a0_3 == 0 && (a0_4 == 0 && (a0_5 == 0))) = true then (if a0_6.toList = ([] : List UInt8) then (some ((l0_7.length : Int) == 0)) else (some false)) else (some false))))) = some r := by rw [if_pos rfl] at H; exact H
    clear H
    have H := H1
    clear H1
    by_cases c4 : a0_8 = a0_0
    · rw [if_pos c4] at H
      have c4b0 : (a0_8 == a0_0) = true := beq_iff_eq.mpr c4
      have c4b1 : (a0_8 != a0_0) = false := bne_eq_false_iff_eq.mpr c4
      clear c4
      by_cases c5 : a0_9 = a0_1
      · rw [if_pos c5] at H
        have c5b0 : (a0_9 == a0_1) = true := beq_iff_eq.mpr c5
        have c5b1 : (a0_9 != a0_1) = false := bne_eq_false_iff_eq.mpr c5
        clear c5
        obtain rfl := Option.some.inj H
        go_enter Tryd.func146, Tryd.ntmps146
        go_wp2_with (first | ((with_reducible refine gate_dst (N := 1) rfl ?_); (try (refine gate_guard (by rfl) ?_; dsimp only)); refine box_event ?hg (N := 1) ?hd (cs := #[.int .i64 a0_0, .int .i64 a0_1, .int .i64 a0_2, .int .i64 a0_3, .int .i64 a0_4, .int .i64 a0_5, .string a0_6, .slice A0_7 l0_7.length c0_7, .int .i64 a0_8, .int .i64 a0_9, .int .i64 a0_10]) (t := 31) ?hr ?_; (case hd => rfl); (case hg => rfl); (case hr => first | (go_simp; done) | (go_simp; rfl)); intro gb141 hg w6 hbox hb; have n0_ := Aside0.mk (below_step (by repeat (first | (with_reducible first | exact HB.out | apply below_alloc | apply pw_below_drewN | apply below_drew1) | exact HB.out)) hb); have n1_ := Aside0.mk (hbox); have n2_ := Aside0.mk ((by rw [hg]; exact (below_size (by repeat (first | (with_reducible first | exact HB.out | apply below_alloc | apply pw_below_drewN | apply below_drew1) | exact HB.out))) : w.heap.size ≤ gb141)); have n3_ := Aside0.mk ((by rw [hg]; exact (below_size (by repeat (first | (with_reducible first | exact HB.out | apply below_alloc | apply pw_below_drewN | apply below_drew1) | exact HB.out))) : w.heap.size ≤ gb141)); clear HB; have HB := n0_; have BK141 := n1_; have GW141 := n2_; have GE141 := n3_; clear n0_ n1_ n2_ n3_; clear hb hbox hg; have hcz7_0 : w6.cell? ⟨gb141, 0, none⟩ = some (.int .i64 a0_0) := bc BK141 0; have hcz7_1 : w6.cell? ⟨gb141, 1, none⟩ = some (.int .i64 a0_1) := bc BK141 1; have hcz7_2 : w6.cell? ⟨gb141, 2, none⟩ = some (.int .i64 a0_2) := bc BK141 2; have hcz7_3 : w6.cell? ⟨gb141, 3, none⟩ = some (.int .i64 a0_3) := bc BK141 3; have hcz7_4 : w6.cell? ⟨gb141, 4, none⟩ = some (.int .i64 a0_4) := bc BK141 4; have hcz7_5 : w6.cell? ⟨gb141, 5, none⟩ = some (.int .i64 a0_5) := bc BK141 5; have hcz7_6 : w6.cell? ⟨gb141, 6, none⟩ = some (.string a0_6) := bc BK141 6; have hcz7_7 : w6.cell? ⟨gb141, 7, none⟩ = some (.slice A0_7 l0_7.length c0_7) := bc BK141 7; have hcz7_8 : w6.cell? ⟨gb141, 8, none⟩ = some (.int .i64 a0_8) := bc BK141 8; have hcz7_9 : w6.cell? ⟨gb141, 9, none⟩ = some (.int .i64 a0_9) := bc BK141 9; have hcz7_10 : w6.cell? ⟨gb141, 10, none⟩ = some (.int .i64 a0_10) := bc BK141 10; have hfz7_0 := bf BK141 0; have hfz7_1 := bf BK141 1; have hfz7_2 := bf BK141 2; have hfz7_3 := bf BK141 3; have hfz7_4 := bf BK141 4; have hfz7_5 := bf BK141 5; have hfz7_6 := bf BK141 6; have hfz7_7 := bf BK141 7; have hfz7_8 := bf BK141 8; have hfz7_9 := bf BK141 9; have hfz7_10 := bf BK141 10) | ((with_reducible refine gate_callee (f := 144) rfl ?_); refine goesL_ (some 7) rfl rfl Tryd.func144 (by kernel_rfl) rfl #[.int .i64 a0_8, .int .i64 a0_9] rfl (by (try simp only [List.map_toArray, List.map_cons, List.map_nil]); first | done | rfl | (simp only [List.length_drop, List.length_take]; rfl)) ?_; (with_reducible refine (op_Name.calls a0_8 a0_9 true _ A2.out).mono ?_); rintro e w' ⟨rfl, ⟨nd, rfl⟩⟩; refine ⟨_, rfl, ?_⟩))
        go_ret
        exact ⟨by first | rfl | (simp [errW_none, errW_some] <;> rfl) | (simp [*, errW_none, errW_some] <;> rfl), by repeat (first | (with_reducible first | exact HB.out | apply below_alloc | apply pw_below_drewN | apply below_drew1 | refine below_set ?_ GE141.out) | exact HB.out)⟩
      rw [if_neg c5] at H
      have c5b0 : (a0_9 == a0_1) = false := beq_eq_false_iff_ne.mpr c5
      have c5b1 : (a0_9 != a0_1) = true := bne_iff_ne.mpr c5
      by_cases c8 : a0_10 < 0
      · rw [if_pos c8] at H
        have c8b0 : decide (a0_10 < 0) = true := decide_eq_true c8
        clear c8
        obtain rfl := Option.some.inj H
        go_enter Tryd.func146, Tryd.ntmps146
        go_wp2_with (first | ((with_reducible refine gate_dst (N := 1) rfl ?_); (try (refine gate_guard (by rfl) ?_; dsimp only)); refine box_event ?hg (N := 1) ?hd (cs := #[.int .i64 a0_0, .int .i64 a0_1, .int .i64 a0_2, .int .i64 a0_3, .int .i64 a0_4, .int .i64 a0_5, .string a0_6, .slice A0_7 l0_7.length c0_7, .int .i64 a0_8, .int .i64 a0_9, .int .i64 a0_10]) (t := 31) ?hr ?_; (case hd => rfl); (case hg => rfl); (case hr => first | (go_simp; done) | (go_simp; rfl)); intro gb141 hg w9 hbox hb; have n0_ := Aside0.mk (below_step (by repeat (first | (with_reducible first | exact HB.out | apply below_alloc | apply pw_below_drewN | apply below_drew1) | exact HB.out)) hb); have n1_ := Aside0.mk (hbox); have n2_ := Aside0.mk ((by rw [hg]; exact (below_size (by repeat (first | (with_reducible first | exact HB.out | apply below_alloc | apply pw_below_drewN | apply below_drew1) | exact HB.out))) : w.heap.size ≤ gb141)); have n3_ := Aside0.mk ((by rw [hg]; exact (below_size (by repeat (first | (with_reducible first | exact HB.out | apply below_alloc | apply pw_below_drewN | apply below_drew1) | exact HB.out))) : w.heap.size ≤ gb141)); clear HB; have HB := n0_; have BK141 := n1_; have GW141 := n2_; have GE141 := n3_; clear n0_ n1_ n2_ n3_; clear hb hbox hg; have hcz10_0 : w9.cell? ⟨gb141, 0, none⟩ = some (.int .i64 a0_0) := bc BK141 0; have hcz10_1 : w9.cell? ⟨gb141, 1, none⟩ = some (.int .i64 a0_1) := bc BK141 1; have hcz10_2 : w9.cell? ⟨gb141, 2, none⟩ = some (.int .i64 a0_2) := bc BK141 2; have hcz10_3 : w9.cell? ⟨gb141, 3, none⟩ = some (.int .i64 a0_3) := bc BK141 3; have hcz10_4 : w9.cell? ⟨gb141, 4, none⟩ = some (.int .i64 a0_4) := bc BK141 4; have hcz10_5 : w9.cell? ⟨gb141, 5, none⟩ = some (.int .i64 a0_5) := bc BK141 5; have hcz10_6 : w9.cell? ⟨gb141, 6, none⟩ = some (.string a0_6) := bc BK141 6; have hcz10_7 : w9.cell? ⟨gb141, 7, none⟩ = some (.slice A0_7 l0_7.length c0_7) := bc BK141 7; have hcz10_8 : w9.cell? ⟨gb141, 8, none⟩ = some (.int .i64 a0_8) := bc BK141 8; have hcz10_9 : w9.cell? ⟨gb141, 9, none⟩ = some (.int .i64 a0_9) := bc BK141 9; have hcz10_10 : w9.cell? ⟨gb141, 10, none⟩ = some (.int .i64 a0_10) := bc BK141 10; have hfz10_0 := bf BK141 0; have hfz10_1 := bf BK141 1; have hfz10_2 := bf BK141 2; have hfz10_3 := bf BK141 3; have hfz10_4 := bf BK141 4; have hfz10_5 := bf BK141 5; have hfz10_6 := bf BK141 6; have hfz10_7 := bf BK141 7; have hfz10_8 := bf BK141 8; have hfz10_9 := bf BK141 9; have hfz10_10 := bf BK141 10) | ((with_reducible refine gate_callee (f := 144) rfl ?_); refine goesL_ (some 7) rfl rfl Tryd.func144 (by kernel_rfl) rfl #[.int .i64 a0_8, .int .i64 a0_9] rfl (by (try simp only [List.map_toArray, List.map_cons, List.map_nil]); first | done | rfl | (simp only [List.length_drop, List.length_take]; rfl)) ?_; (with_reducible refine (op_Name.calls a0_8 a0_9 true _ A2.out).mono ?_); rintro e w' ⟨rfl, ⟨nd, rfl⟩⟩; refine ⟨_, rfl, ?_⟩))
        go_ret
        exact ⟨by first | rfl | (simp [errW_none, errW_some] <;> rfl) | (simp [*, errW_none, errW_some] <;> rfl), by repeat (first | (with_reducible first | exact HB.out | apply below_alloc | apply pw_below_drewN | apply below_drew1 | refine below_set ?_ GE141.out) | exact HB.out)⟩
      rw [if_neg c8] at H
      have c8b0 : decide (a0_10 < 0) = false := decide_eq_false c8
      clear c8
      by_cases c11 : a0_10 > 268435456
      · rw [if_pos c11] at H
        have c11b0 : decide (268435456 < a0_10) = true := decide_eq_true c11
        clear c11
        obtain rfl := Option.some.inj H
        go_enter Tryd.func146, Tryd.ntmps146
        go_wp2_with (first | ((with_reducible refine gate_dst (N := 1) rfl ?_); (try (refine gate_guard (by rfl) ?_; dsimp only)); refine box_event ?hg (N := 1) ?hd (cs := #[.int .i64 a0_0, .int .i64 a0_1, .int .i64 a0_2, .int .i64 a0_3, .int .i64 a0_4, .int .i64 a0_5, .string a0_6, .slice A0_7 l0_7.length c0_7, .int .i64 a0_8, .int .i64 a0_9, .int .i64 a0_10]) (t := 31) ?hr ?_; (case hd => rfl); (case hg => rfl); (case hr => first | (go_simp; done) | (go_simp; rfl)); intro gb141 hg w12 hbox hb; have n0_ := Aside0.mk (below_step (by repeat (first | (with_reducible first | exact HB.out | apply below_alloc | apply pw_below_drewN | apply below_drew1) | exact HB.out)) hb); have n1_ := Aside0.mk (hbox); have n2_ := Aside0.mk ((by rw [hg]; exact (below_size (by repeat (first | (with_reducible first | exact HB.out | apply below_alloc | apply pw_below_drewN | apply below_drew1) | exact HB.out))) : w.heap.size ≤ gb141)); have n3_ := Aside0.mk ((by rw [hg]; exact (below_size (by repeat (first | (with_reducible first | exact HB.out | apply below_alloc | apply pw_below_drewN | apply below_drew1) | exact HB.out))) : w.heap.size ≤ gb141)); clear HB; have HB := n0_; have BK141 := n1_; have GW141 := n2_; have GE141 := n3_; clear n0_ n1_ n2_ n3_; clear hb hbox hg; have hcz13_0 : w12.cell? ⟨gb141, 0, none⟩ = some (.int .i64 a0_0) := bc BK141 0; have hcz13_1 : w12.cell? ⟨gb141, 1, none⟩ = some (.int .i64 a0_1) := bc BK141 1; have hcz13_2 : w12.cell? ⟨gb141, 2, none⟩ = some (.int .i64 a0_2) := bc BK141 2; have hcz13_3 : w12.cell? ⟨gb141, 3, none⟩ = some (.int .i64 a0_3) := bc BK141 3; have hcz13_4 : w12.cell? ⟨gb141, 4, none⟩ = some (.int .i64 a0_4) := bc BK141 4; have hcz13_5 : w12.cell? ⟨gb141, 5, none⟩ = some (.int .i64 a0_5) := bc BK141 5; have hcz13_6 : w12.cell? ⟨gb141, 6, none⟩ = some (.string a0_6) := bc BK141 6; have hcz13_7 : w12.cell? ⟨gb141, 7, none⟩ = some (.slice A0_7 l0_7.length c0_7) := bc BK141 7; have hcz13_8 : w12.cell? ⟨gb141, 8, none⟩ = some (.int .i64 a0_8) := bc BK141 8; have hcz13_9 : w12.cell? ⟨gb141, 9, none⟩ = some (.int .i64 a0_9) := bc BK141 9; have hcz13_10 : w12.cell? ⟨gb141, 10, none⟩ = some (.int .i64 a0_10) := bc BK141 10; have hfz13_0 := bf BK141 0; have hfz13_1 := bf BK141 1; have hfz13_2 := bf BK141 2; have hfz13_3 := bf BK141 3; have hfz13_4 := bf BK141 4; have hfz13_5 := bf BK141 5; have hfz13_6 := bf BK141 6; have hfz13_7 := bf BK141 7; have hfz13_8 := bf BK141 8; have hfz13_9 := bf BK141 9; have hfz13_10 := bf BK141 10) | ((with_reducible refine gate_callee (f := 144) rfl ?_); refine goesL_ (some 7) rfl rfl Tryd.func144 (by kernel_rfl) rfl #[.int .i64 a0_8, .int .i64 a0_9] rfl (by (try simp only [List.map_toArray, List.map_cons, List.map_nil]); first | done | rfl | (simp only [List.length_drop, List.length_take]; rfl)) ?_; (with_reducible refine (op_Name.calls a0_8 a0_9 true _ A2.out).mono ?_); rintro e w' ⟨rfl, ⟨nd, rfl⟩⟩; refine ⟨_, rfl, ?_⟩))
        go_ret
        exact ⟨by first | rfl | (simp [errW_none, errW_some] <;> rfl) | (simp [*, errW_none, errW_some] <;> rfl), by repeat (first | (with_reducible first | exact HB.out | apply below_alloc | apply pw_below_drewN | apply below_drew1 | refine below_set ?_ GE141.out) | exact HB.out)⟩
      rw [if_neg c11] at H
      have c11b0 : decide (268435456 < a0_10) = false := decide_eq_false c11
      clear c11
      by_cases c14 : (a0_3 == 0 && (a0_4 == 0 && (a0_5 == 0))) = true
      · rw [if_pos c14] at H
        have c14b0 : (a0_3 == 0 && (a0_4 == 0 && (a0_5 == 0))) = true := c14
        (try (have c14b1 : decide (a0_3 = 0 && (a0_4 == 0 && (a0_5 == 0))) = true := by simpa using c14))
        (try (have c14b2 : (a0_3 == 0 && (a0_4 == 0 && (a0_5 == 0))) = true := by simpa using c14))
        clear c14
        by_cases c15 : a0_6.toList = ([] : List UInt8)
        · rw [if_pos c15] at H
          have c15b0 : (a0_6.toList == ([] : List UInt8)) = true := beq_iff_eq.mpr c15
          have c15b1 : (a0_6.toList != ([] : List UInt8)) = false := bne_eq_false_iff_eq.mpr c15
          clear c15
          obtain rfl := Option.some.inj H
          go_enter Tryd.func146, Tryd.ntmps146
          go_wp2_with (first | ((with_reducible refine gate_dst (N := 1) rfl ?_); (try (refine gate_guard (by rfl) ?_; dsimp only)); refine box_event ?hg (N := 1) ?hd (cs := #[.int .i64 a0_0, .int .i64 a0_1, .int .i64 a0_2, .int .i64 a0_3, .int .i64 a0_4, .int .i64 a0_5, .string a0_6, .slice A0_7 l0_7.length c0_7, .int .i64 a0_8, .int .i64 a0_9, .int .i64 a0_10]) (t := 31) ?hr ?_; (case hd => rfl); (case hg => rfl); (case hr => first | (go_simp; done) | (go_simp; rfl)); intro gb141 hg w16 hbox hb; have n0_ := Aside0.mk (below_step (by repeat (first | (with_reducible first | exact HB.out | apply below_alloc | apply pw_below_drewN | apply below_drew1) | exact HB.out)) hb); have n1_ := Aside0.mk (hbox); have n2_ := Aside0.mk ((by rw [hg]; exact (below_size (by repeat (first | (with_reducible first | exact HB.out | apply below_alloc | apply pw_below_drewN | apply below_drew1) | exact HB.out))) : w.heap.size ≤ gb141)); have n3_ := Aside0.mk ((by rw [hg]; exact (below_size (by repeat (first | (with_reducible first | exact HB.out | apply below_alloc | apply pw_below_drewN | apply below_drew1) | exact HB.out))) : w.heap.size ≤ gb141)); clear HB; have HB := n0_; have BK141 := n1_; have GW141 := n2_; have GE141 := n3_; clear n0_ n1_ n2_ n3_; clear hb hbox hg; have hcz17_0 : w16.cell? ⟨gb141, 0, none⟩ = some (.int .i64 a0_0) := bc BK141 0; have hcz17_1 : w16.cell? ⟨gb141, 1, none⟩ = some (.int .i64 a0_1) := bc BK141 1; have hcz17_2 : w16.cell? ⟨gb141, 2, none⟩ = some (.int .i64 a0_2) := bc BK141 2; have hcz17_3 : w16.cell? ⟨gb141, 3, none⟩ = some (.int .i64 a0_3) := bc BK141 3; have hcz17_4 : w16.cell? ⟨gb141, 4, none⟩ = some (.int .i64 a0_4) := bc BK141 4; have hcz17_5 : w16.cell? ⟨gb141, 5, none⟩ = some (.int .i64 a0_5) := bc BK141 5; have hcz17_6 : w16.cell? ⟨gb141, 6, none⟩ = some (.string a0_6) := bc BK141 6; have hcz17_7 : w16.cell? ⟨gb141, 7, none⟩ = some (.slice A0_7 l0_7.length c0_7) := bc BK141 7; have hcz17_8 : w16.cell? ⟨gb141, 8, none⟩ = some (.int .i64 a0_8) := bc BK141 8; have hcz17_9 : w16.cell? ⟨gb141, 9, none⟩ = some (.int .i64 a0_9) := bc BK141 9; have hcz17_10 : w16.cell? ⟨gb141, 10, none⟩ = some (.int .i64 a0_10) := bc BK141 10; have hfz17_0 := bf BK141 0; have hfz17_1 := bf BK141 1; have hfz17_2 := bf BK141 2; have hfz17_3 := bf BK141 3; have hfz17_4 := bf BK141 4; have hfz17_5 := bf BK141 5; have hfz17_6 := bf BK141 6; have hfz17_7 := bf BK141 7; have hfz17_8 := bf BK141 8; have hfz17_9 := bf BK141 9; have hfz17_10 := bf BK141 10) | ((with_reducible refine gate_callee (f := 144) rfl ?_); refine goesL_ (some 7) rfl rfl Tryd.func144 (by kernel_rfl) rfl #[.int .i64 a0_8, .int .i64 a0_9] rfl (by (try simp only [List.map_toArray, List.map_cons, List.map_nil]); first | done | rfl | (simp only [List.length_drop, List.length_take]; rfl)) ?_; (with_reducible refine (op_Name.calls a0_8 a0_9 true _ A2.out).mono ?_); rintro e w' ⟨rfl, ⟨nd, rfl⟩⟩; refine ⟨_, rfl, ?_⟩))
          go_ret
          exact ⟨by first | rfl | (simp [errW_none, errW_some] <;> rfl) | (simp [*, errW_none, errW_some] <;> rfl), by repeat (first | (with_reducible first | exact HB.out | apply below_alloc | apply pw_below_drewN | apply below_drew1 | refine below_set ?_ GE141.out) | exact HB.out)⟩
        rw [if_neg c15] at H
        have c15b0 : (a0_6.toList == ([] : List UInt8)) = false := beq_eq_false_iff_ne.mpr c15
        have c15b1 : (a0_6.toList != ([] : List UInt8)) = true := bne_iff_ne.mpr c15
        obtain rfl := Option.some.inj H
        go_enter Tryd.func146, Tryd.ntmps146
        go_wp2_with (first | ((with_reducible refine gate_dst (N := 1) rfl ?_); (try (refine gate_guard (by rfl) ?_; dsimp only)); refine box_event ?hg (N := 1) ?hd (cs := #[.int .i64 a0_0, .int .i64 a0_1, .int .i64 a0_2, .int .i64 a0_3, .int .i64 a0_4, .int .i64 a0_5, .string a0_6, .slice A0_7 l0_7.length c0_7, .int .i64 a0_8, .int .i64 a0_9, .int .i64 a0_10]) (t := 31) ?hr ?_; (case hd => rfl); (case hg => rfl); (case hr => first | (go_simp; done) | (go_simp; rfl)); intro gb141 hg w18 hbox hb; have n0_ := Aside0.mk (below_step (by repeat (first | (with_reducible first | exact HB.out | apply below_alloc | apply pw_below_drewN | apply below_drew1) | exact HB.out)) hb); have n1_ := Aside0.mk (hbox); have n2_ := Aside0.mk ((by rw [hg]; exact (below_size (by repeat (first | (with_reducible first | exact HB.out | apply below_alloc | apply pw_below_drewN | apply below_drew1) | exact HB.out))) : w.heap.size ≤ gb141)); have n3_ := Aside0.mk ((by rw [hg]; exact (below_size (by repeat (first | (with_reducible first | exact HB.out | apply below_alloc | apply pw_below_drewN | apply below_drew1) | exact HB.out))) : w.heap.size ≤ gb141)); clear HB; have HB := n0_; have BK141 := n1_; have GW141 := n2_; have GE141 := n3_; clear n0_ n1_ n2_ n3_; clear hb hbox hg; have hcz19_0 : w18.cell? ⟨gb141, 0, none⟩ = some (.int .i64 a0_0) := bc BK141 0; have hcz19_1 : w18.cell? ⟨gb141, 1, none⟩ = some (.int .i64 a0_1) := bc BK141 1; have hcz19_2 : w18.cell? ⟨gb141, 2, none⟩ = some (.int .i64 a0_2) := bc BK141 2; have hcz19_3 : w18.cell? ⟨gb141, 3, none⟩ = some (.int .i64 a0_3) := bc BK141 3; have hcz19_4 : w18.cell? ⟨gb141, 4, none⟩ = some (.int .i64 a0_4) := bc BK141 4; have hcz19_5 : w18.cell? ⟨gb141, 5, none⟩ = some (.int .i64 a0_5) := bc BK141 5; have hcz19_6 : w18.cell? ⟨gb141, 6, none⟩ = some (.string a0_6) := bc BK141 6; have hcz19_7 : w18.cell? ⟨gb141, 7, none⟩ = some (.slice A0_7 l0_7.length c0_7) := bc BK141 7; have hcz19_8 : w18.cell? ⟨gb141, 8, none⟩ = some (.int .i64 a0_8) := bc BK141 8; have hcz19_9 : w18.cell? ⟨gb141, 9, none⟩ = some (.int .i64 a0_9) := bc BK141 9; have hcz19_10 : w18.cell? ⟨gb141, 10, none⟩ = some (.int .i64 a0_10) := bc BK141 10; have hfz19_0 := bf BK141 0; have hfz19_1 := bf BK141 1; have hfz19_2 := bf BK141 2; have hfz19_3 := bf BK141 3; have hfz19_4 := bf BK141 4; have hfz19_5 := bf BK141 5; have hfz19_6 := bf BK141 6; have hfz19_7 := bf BK141 7; have hfz19_8 := bf BK141 8; have hfz19_9 := bf BK141 9; have hfz19_10 := bf BK141 10) | ((with_reducible refine gate_callee (f := 144) rfl ?_); refine goesL_ (some 7) rfl rfl Tryd.func144 (by kernel_rfl) rfl #[.int .i64 a0_8, .int .i64 a0_9] rfl (by (try simp only [List.map_toArray, List.map_cons, List.map_nil]); first | done | rfl | (simp only [List.length_drop, List.length_take]; rfl)) ?_; (with_reducible refine (op_Name.calls a0_8 a0_9 true _ A2.out).mono ?_); rintro e w' ⟨rfl, ⟨nd, rfl⟩⟩; refine ⟨_, rfl, ?_⟩))
        go_ret
        exact ⟨by first | rfl | (simp [errW_none, errW_some] <;> rfl) | (simp [*, errW_none, errW_some] <;> rfl), by repeat (first | (with_reducible first | exact HB.out | apply below_alloc | apply pw_below_drewN | apply below_drew1 | refine below_set ?_ GE141.out) | exact HB.out)⟩
      rw [if_neg c14] at H
      have c14b0 : (a0_3 == 0 && (a0_4 == 0 && (a0_5 == 0))) = false := by simpa using c14
      (try (have c14b1 : decide (a0_3 = 0 && (a0_4 == 0 && (a0_5 == 0))) = false := by simpa using c14))
      (try (have c14b2 : (a0_3 == 0 && (a0_4 == 0 && (a0_5 == 0))) = false := by simpa using c14))
      (try (have c14b3 : ¬ (a0_3 = 0 && (a0_4 == 0 && (a0_5 == 0))) := by simpa using c14))
      clear c14
      obtain rfl := Option.some.inj H
      go_enter Tryd.func146, Tryd.ntmps146
      go_wp2_with (first | ((with_reducible refine gate_dst (N := 1) rfl ?_); (try (refine gate_guard (by rfl) ?_; dsimp only)); refine box_event ?hg (N := 1) ?hd (cs := #[.int .i64 a0_0, .int .i64 a0_1, .int .i64 a0_2, .int .i64 a0_3, .int .i64 a0_4, .int .i64 a0_5, .string a0_6, .slice A0_7 l0_7.length c0_7, .int .i64 a0_8, .int .i64 a0_9, .int .i64 a0_10]) (t := 31) ?hr ?_; (case hd => rfl); (case hg => rfl); (case hr => first | (go_simp; done) | (go_simp; rfl)); intro gb141 hg w20 hbox hb; have n0_ := Aside0.mk (below_step (by repeat (first | (with_reducible first | exact HB.out | apply below_alloc | apply pw_below_drewN | apply below_drew1) | exact HB.out)) hb); have n1_ := Aside0.mk (hbox); have n2_ := Aside0.mk ((by rw [hg]; exact (below_size (by repeat (first | (with_reducible first | exact HB.out | apply below_alloc | apply pw_below_drewN | apply below_drew1) | exact HB.out))) : w.heap.size ≤ gb141)); have n3_ := Aside0.mk ((by rw [hg]; exact (below_size (by repeat (first | (with_reducible first | exact HB.out | apply below_alloc | apply pw_below_drewN | apply below_drew1) | exact HB.out))) : w.heap.size ≤ gb141)); clear HB; have HB := n0_; have BK141 := n1_; have GW141 := n2_; have GE141 := n3_; clear n0_ n1_ n2_ n3_; clear hb hbox hg; have hcz21_0 : w20.cell? ⟨gb141, 0, none⟩ = some (.int .i64 a0_0) := bc BK141 0; have hcz21_1 : w20.cell? ⟨gb141, 1, none⟩ = some (.int .i64 a0_1) := bc BK141 1; have hcz21_2 : w20.cell? ⟨gb141, 2, none⟩ = some (.int .i64 a0_2) := bc BK141 2; have hcz21_3 : w20.cell? ⟨gb141, 3, none⟩ = some (.int .i64 a0_3) := bc BK141 3; have hcz21_4 : w20.cell? ⟨gb141, 4, none⟩ = some (.int .i64 a0_4) := bc BK141 4; have hcz21_5 : w20.cell? ⟨gb141, 5, none⟩ = some (.int .i64 a0_5) := bc BK141 5; have hcz21_6 : w20.cell? ⟨gb141, 6, none⟩ = some (.string a0_6) := bc BK141 6; have hcz21_7 : w20.cell? ⟨gb141, 7, none⟩ = some (.slice A0_7 l0_7.length c0_7) := bc BK141 7; have hcz21_8 : w20.cell? ⟨gb141, 8, none⟩ = some (.int .i64 a0_8) := bc BK141 8; have hcz21_9 : w20.cell? ⟨gb141, 9, none⟩ = some (.int .i64 a0_9) := bc BK141 9; have hcz21_10 : w20.cell? ⟨gb141, 10, none⟩ = some (.int .i64 a0_10) := bc BK141 10; have hfz21_0 := bf BK141 0; have hfz21_1 := bf BK141 1; have hfz21_2 := bf BK141 2; have hfz21_3 := bf BK141 3; have hfz21_4 := bf BK141 4; have hfz21_5 := bf BK141 5; have hfz21_6 := bf BK141 6; have hfz21_7 := bf BK141 7; have hfz21_8 := bf BK141 8; have hfz21_9 := bf BK141 9; have hfz21_10 := bf BK141 10) | ((with_reducible refine gate_callee (f := 144) rfl ?_); refine goesL_ (some 7) rfl rfl Tryd.func144 (by kernel_rfl) rfl #[.int .i64 a0_8, .int .i64 a0_9] rfl (by (try simp only [List.map_toArray, List.map_cons, List.map_nil]); first | done | rfl | (simp only [List.length_drop, List.length_take]; rfl)) ?_; (with_reducible refine (op_Name.calls a0_8 a0_9 true _ A2.out).mono ?_); rintro e w' ⟨rfl, ⟨nd, rfl⟩⟩; refine ⟨_, rfl, ?_⟩))
      go_ret
      exact ⟨by first | rfl | (simp [errW_none, errW_some] <;> rfl) | (simp [*, errW_none, errW_some] <;> rfl), by repeat (first | (with_reducible first | exact HB.out | apply below_alloc | apply pw_below_drewN | apply below_drew1 | refine below_set ?_ GE141.out) | exact HB.out)⟩
    rw [if_neg c4] at H
    have c4b0 : (a0_8 == a0_0) = false := beq_eq_false_iff_ne.mpr c4
    have c4b1 : (a0_8 != a0_0) = true := bne_iff_ne.mpr c4
    by_cases c22 : a0_10 < 0
    · rw [if_pos c22] at H
      have c22b0 : decide (a0_10 < 0) = true := decide_eq_true c22
      clear c22
      obtain rfl := Option.some.inj H
      go_enter Tryd.func146, Tryd.ntmps146
      go_wp2_with (first | ((with_reducible refine gate_dst (N := 1) rfl ?_); (try (refine gate_guard (by rfl) ?_; dsimp only)); refine box_event ?hg (N := 1) ?hd (cs := #[.int .i64 a0_0, .int .i64 a0_1, .int .i64 a0_2, .int .i64 a0_3, .int .i64 a0_4, .int .i64 a0_5, .string a0_6, .slice A0_7 l0_7.length c0_7, .int .i64 a0_8, .int .i64 a0_9, .int .i64 a0_10]) (t := 31) ?hr ?_; (case hd => rfl); (case hg => rfl); (case hr => first | (go_simp; done) | (go_simp; rfl)); intro gb141 hg w23 hbox hb; have n0_ := Aside0.mk (below_step (by repeat (first | (with_reducible first | exact HB.out | apply below_alloc | apply pw_below_drewN | apply below_drew1) | exact HB.out)) hb); have n1_ := Aside0.mk (hbox); have n2_ := Aside0.mk ((by rw [hg]; exact (below_size (by repeat (first | (with_reducible first | exact HB.out | apply below_alloc | apply pw_below_drewN | apply below_drew1) | exact HB.out))) : w.heap.size ≤ gb141)); have n3_ := Aside0.mk ((by rw [hg]; exact (below_size (by repeat (first | (with_reducible first | exact HB.out | apply below_alloc | apply pw_below_drewN | apply below_drew1) | exact HB.out))) : w.heap.size ≤ gb141)); clear HB; have HB := n0_; have BK141 := n1_; have GW141 := n2_; have GE141 := n3_; clear n0_ n1_ n2_ n3_; clear hb hbox hg; have hcz24_0 : w23.cell? ⟨gb141, 0, none⟩ = some (.int .i64 a0_0) := bc BK141 0; have hcz24_1 : w23.cell? ⟨gb141, 1, none⟩ = some (.int .i64 a0_1) := bc BK141 1; have hcz24_2 : w23.cell? ⟨gb141, 2, none⟩ = some (.int .i64 a0_2) := bc BK141 2; have hcz24_3 : w23.cell? ⟨gb141, 3, none⟩ = some (.int .i64 a0_3) := bc BK141 3; have hcz24_4 : w23.cell? ⟨gb141, 4, none⟩ = some (.int .i64 a0_4) := bc BK141 4; have hcz24_5 : w23.cell? ⟨gb141, 5, none⟩ = some (.int .i64 a0_5) := bc BK141 5; have hcz24_6 : w23.cell? ⟨gb141, 6, none⟩ = some (.string a0_6) := bc BK141 6; have hcz24_7 : w23.cell? ⟨gb141, 7, none⟩ = some (.slice A0_7 l0_7.length c0_7) := bc BK141 7; have hcz24_8 : w23.cell? ⟨gb141, 8, none⟩ = some (.int .i64 a0_8) := bc BK141 8; have hcz24_9 : w23.cell? ⟨gb141, 9, none⟩ = some (.int .i64 a0_9) := bc BK141 9; have hcz24_10 : w23.cell? ⟨gb141, 10, none⟩ = some (.int .i64 a0_10) := bc BK141 10; have hfz24_0 := bf BK141 0; have hfz24_1 := bf BK141 1; have hfz24_2 := bf BK141 2; have hfz24_3 := bf BK141 3; have hfz24_4 := bf BK141 4; have hfz24_5 := bf BK141 5; have hfz24_6 := bf BK141 6; have hfz24_7 := bf BK141 7; have hfz24_8 := bf BK141 8; have hfz24_9 := bf BK141 9; have hfz24_10 := bf BK141 10) | ((with_reducible refine gate_callee (f := 144) rfl ?_); refine goesL_ (some 7) rfl rfl Tryd.func144 (by kernel_rfl) rfl #[.int .i64 a0_8, .int .i64 a0_9] rfl (by (try simp only [List.map_toArray, List.map_cons, List.map_nil]); first | done | rfl | (simp only [List.length_drop, List.length_take]; rfl)) ?_; (with_reducible refine (op_Name.calls a0_8 a0_9 true _ A2.out).mono ?_); rintro e w' ⟨rfl, ⟨nd, rfl⟩⟩; refine ⟨_, rfl, ?_⟩))
      go_ret
      exact ⟨by first | rfl | (simp [errW_none, errW_some] <;> rfl) | (simp [*, errW_none, errW_some] <;> rfl), by repeat (first | (with_reducible first | exact HB.out | apply below_alloc | apply pw_below_drewN | apply below_drew1 | refine below_set ?_ GE141.out) | exact HB.out)⟩
    rw [if_neg c22] at H
    have c22b0 : decide (a0_10 < 0) = false := decide_eq_false c22
    clear c22
    by_cases c25 : a0_10 > 268435456
    · rw [if_pos c25] at H
      have c25b0 : decide (268435456 < a0_10) = true := decide_eq_true c25
      clear c25
      obtain rfl := Option.some.inj H
      go_enter Tryd.func146, Tryd.ntmps146
      go_wp2_with (first | ((with_reducible refine gate_dst (N := 1) rfl ?_); (try (refine gate_guard (by rfl) ?_; dsimp only)); refine box_event ?hg (N := 1) ?hd (cs := #[.int .i64 a0_0, .int .i64 a0_1, .int .i64 a0_2, .int .i64 a0_3, .int .i64 a0_4, .int .i64 a0_5, .string a0_6, .slice A0_7 l0_7.length c0_7, .int .i64 a0_8, .int .i64 a0_9, .int .i64 a0_10]) (t := 31) ?hr ?_; (case hd => rfl); (case hg => rfl); (case hr => first | (go_simp; done) | (go_simp; rfl)); intro gb141 hg w26 hbox hb; have n0_ := Aside0.mk (below_step (by repeat (first | (with_reducible first | exact HB.out | apply below_alloc | apply pw_below_drewN | apply below_drew1) | exact HB.out)) hb); have n1_ := Aside0.mk (hbox); have n2_ := Aside0.mk ((by rw [hg]; exact (below_size (by repeat (first | (with_reducible first | exact HB.out | apply below_alloc | apply pw_below_drewN | apply below_drew1) | exact HB.out))) : w.heap.size ≤ gb141)); have n3_ := Aside0.mk ((by rw [hg]; exact (below_size (by repeat (first | (with_reducible first | exact HB.out | apply below_alloc | apply pw_below_drewN | apply below_drew1) | exact HB.out))) : w.heap.size ≤ gb141)); clear HB; have HB := n0_; have BK141 := n1_; have GW141 := n2_; have GE141 := n3_; clear n0_ n1_ n2_ n3_; clear hb hbox hg; have hcz27_0 : w26.cell? ⟨gb141, 0, none⟩ = some (.int .i64 a0_0) := bc BK141 0; have hcz27_1 : w26.cell? ⟨gb141, 1, none⟩ = some (.int .i64 a0_1) := bc BK141 1; have hcz27_2 : w26.cell? ⟨gb141, 2, none⟩ = some (.int .i64 a0_2) := bc BK141 2; have hcz27_3 : w26.cell? ⟨gb141, 3, none⟩ = some (.int .i64 a0_3) := bc BK141 3; have hcz27_4 : w26.cell? ⟨gb141, 4, none⟩ = some (.int .i64 a0_4) := bc BK141 4; have hcz27_5 : w26.cell? ⟨gb141, 5, none⟩ = some (.int .i64 a0_5) := bc BK141 5; have hcz27_6 : w26.cell? ⟨gb141, 6, none⟩ = some (.string a0_6) := bc BK141 6; have hcz27_7 : w26.cell? ⟨gb141, 7, none⟩ = some (.slice A0_7 l0_7.length c0_7) := bc BK141 7; have hcz27_8 : w26.cell? ⟨gb141, 8, none⟩ = some (.int .i64 a0_8) := bc BK141 8; have hcz27_9 : w26.cell? ⟨gb141, 9, none⟩ = some (.int .i64 a0_9) := bc BK141 9; have hcz27_10 : w26.cell? ⟨gb141, 10, none⟩ = some (.int .i64 a0_10) := bc BK141 10; have hfz27_0 := bf BK141 0; have hfz27_1 := bf BK141 1; have hfz27_2 := bf BK141 2; have hfz27_3 := bf BK141 3; have hfz27_4 := bf BK141 4; have hfz27_5 := bf BK141 5; have hfz27_6 := bf BK141 6; have hfz27_7 := bf BK141 7; have hfz27_8 := bf BK141 8; have hfz27_9 := bf BK141 9; have hfz27_10 := bf BK141 10) | ((with_reducible refine gate_callee (f := 144) rfl ?_); refine goesL_ (some 7) rfl rfl Tryd.func144 (by kernel_rfl) rfl #[.int .i64 a0_8, .int .i64 a0_9] rfl (by (try simp only [List.map_toArray, List.map_cons, List.map_nil]); first | done | rfl | (simp only [List.length_drop, List.length_take]; rfl)) ?_; (with_reducible refine (op_Name.calls a0_8 a0_9 true _ A2.out).mono ?_); rintro e w' ⟨rfl, ⟨nd, rfl⟩⟩; refine ⟨_, rfl, ?_⟩))
      go_ret
      exact ⟨by first | rfl | (simp [errW_none, errW_some] <;> rfl) | (simp [*, errW_none, errW_some] <;> rfl), by repeat (first | (with_reducible first | exact HB.out | apply below_alloc | apply pw_below_drewN | apply below_drew1 | refine below_set ?_ GE141.out) | exact HB.out)⟩
    rw [if_neg c25] at H
    have c25b0 : decide (268435456 < a0_10) = false := decide_eq_false c25
    clear c25
    by_cases c28 : (a0_3 == 0 && (a0_4 == 0 && (a0_5 == 0))) = true
    · rw [if_pos c28] at H
      have c28b0 : (a0_3 == 0 && (a0_4 == 0 && (a0_5 == 0))) = true := c28
      (try (have c28b1 : decide (a0_3 = 0 && (a0_4 == 0 && (a0_5 == 0))) = true := by simpa using c28))
      (try (have c28b2 : (a0_3 == 0 && (a0_4 == 0 && (a0_5 == 0))) = true := by simpa using c28))
      clear c28
      by_cases c29 : a0_6.toList = ([] : List UInt8)
      · rw [if_pos c29] at H
        have c29b0 : (a0_6.toList == ([] : List UInt8)) = true := beq_iff_eq.mpr c29
        have c29b1 : (a0_6.toList != ([] : List UInt8)) = false := bne_eq_false_iff_eq.mpr c29
        clear c29
        obtain rfl := Option.some.inj H
        go_enter Tryd.func146, Tryd.ntmps146
        go_wp2_with (first | ((with_reducible refine gate_dst (N := 1) rfl ?_); (try (refine gate_guard (by rfl) ?_; dsimp only)); refine box_event ?hg (N := 1) ?hd (cs := #[.int .i64 a0_0, .int .i64 a0_1, .int .i64 a0_2, .int .i64 a0_3, .int .i64 a0_4, .int .i64 a0_5, .string a0_6, .slice A0_7 l0_7.length c0_7, .int .i64 a0_8, .int .i64 a0_9, .int .i64 a0_10]) (t := 31) ?hr ?_; (case hd => rfl); (case hg => rfl); (case hr => first | (go_simp; done) | (go_simp; rfl)); intro gb141 hg w30 hbox hb; have n0_ := Aside0.mk (below_step (by repeat (first | (with_reducible first | exact HB.out | apply below_alloc | apply pw_below_drewN | apply below_drew1) | exact HB.out)) hb); have n1_ := Aside0.mk (hbox); have n2_ := Aside0.mk ((by rw [hg]; exact (below_size (by repeat (first | (with_reducible first | exact HB.out | apply below_alloc | apply pw_below_drewN | apply below_drew1) | exact HB.out))) : w.heap.size ≤ gb141)); have n3_ := Aside0.mk ((by rw [hg]; exact (below_size (by repeat (first | (with_reducible first | exact HB.out | apply below_alloc | apply pw_below_drewN | apply below_drew1) | exact HB.out))) : w.heap.size ≤ gb141)); clear HB; have HB := n0_; have BK141 := n1_; have GW141 := n2_; have GE141 := n3_; clear n0_ n1_ n2_ n3_; clear hb hbox hg; have hcz31_0 : w30.cell? ⟨gb141, 0, none⟩ = some (.int .i64 a0_0) := bc BK141 0; have hcz31_1 : w30.cell? ⟨gb141, 1, none⟩ = some (.int .i64 a0_1) := bc BK141 1; have hcz31_2 : w30.cell? ⟨gb141, 2, none⟩ = some (.int .i64 a0_2) := bc BK141 2; have hcz31_3 : w30.cell? ⟨gb141, 3, none⟩ = some (.int .i64 a0_3) := bc BK141 3; have hcz31_4 : w30.cell? ⟨gb141, 4, none⟩ = some (.int .i64 a0_4) := bc BK141 4; have hcz31_5 : w30.cell? ⟨gb141, 5, none⟩ = some (.int .i64 a0_5) := bc BK141 5; have hcz31_6 : w30.cell? ⟨gb141, 6, none⟩ = some (.string a0_6) := bc BK141 6; have hcz31_7 : w30.cell? ⟨gb141, 7, none⟩ = some (.slice A0_7 l0_7.length c0_7) := bc BK141 7; have hcz31_8 : w30.cell? ⟨gb141, 8, none⟩ = some (.int .i64 a0_8) := bc BK141 8; have hcz31_9 : w30.cell? ⟨gb141, 9, none⟩ = some (.int .i64 a0_9) := bc BK141 9; have hcz31_10 : w30.cell? ⟨gb141, 10, none⟩ = some (.int .i64 a0_10) := bc BK141 10; have hfz31_0 := bf BK141 0; have hfz31_1 := bf BK141 1; have hfz31_2 := bf BK141 2; have hfz31_3 := bf BK141 3; have hfz31_4 := bf BK141 4; have hfz31_5 := bf BK141 5; have hfz31_6 := bf BK141 6; have hfz31_7 := bf BK141 7; have hfz31_8 := bf BK141 8; have hfz31_9 := bf BK141 9; have hfz31_10 := bf BK141 10) | ((with_reducible refine gate_callee (f := 144) rfl ?_); refine goesL_ (some 7) rfl rfl Tryd.func144 (by kernel_rfl) rfl #[.int .i64 a0_8, .int .i64 a0_9] rfl (by (try simp only [List.map_toArray, List.map_cons, List.map_nil]); first | done | rfl | (simp only [List.length_drop, List.length_take]; rfl)) ?_; (with_reducible refine (op_Name.calls a0_8 a0_9 true _ A2.out).mono ?_); rintro e w' ⟨rfl, ⟨nd, rfl⟩⟩; refine ⟨_, rfl, ?_⟩))
        go_ret
        exact ⟨by first | rfl | (simp [errW_none, errW_some] <;> rfl) | (simp [*, errW_none, errW_some] <;> rfl), by repeat (first | (with_reducible first | exact HB.out | apply below_alloc | apply pw_below_drewN | apply below_drew1 | refine below_set ?_ GE141.out) | exact HB.out)⟩
      rw [if_neg c29] at H
      have c29b0 : (a0_6.toList == ([] : List UInt8)) = false := beq_eq_false_iff_ne.mpr c29
      have c29b1 : (a0_6.toList != ([] : List UInt8)) = true := bne_iff_ne.mpr c29
      obtain rfl := Option.some.inj H
      go_enter Tryd.func146, Tryd.ntmps146
      go_wp2_with (first | ((with_reducible refine gate_dst (N := 1) rfl ?_); (try (refine gate_guard (by rfl) ?_; dsimp only)); refine box_event ?hg (N := 1) ?hd (cs := #[.int .i64 a0_0, .int .i64 a0_1, .int .i64 a0_2, .int .i64 a0_3, .int .i64 a0_4, .int .i64 a0_5, .string a0_6, .slice A0_7 l0_7.length c0_7, .int .i64 a0_8, .int .i64 a0_9, .int .i64 a0_10]) (t := 31) ?hr ?_; (case hd => rfl); (case hg => rfl); (case hr => first | (go_simp; done) | (go_simp; rfl)); intro gb141 hg w32 hbox hb; have n0_ := Aside0.mk (below_step (by repeat (first | (with_reducible first | exact HB.out | apply below_alloc | apply pw_below_drewN | apply below_drew1) | exact HB.out)) hb); have n1_ := Aside0.mk (hbox); have n2_ := Aside0.mk ((by rw [hg]; exact (below_size (by repeat (first | (with_reducible first | exact HB.out | apply below_alloc | apply pw_below_drewN | apply below_drew1) | exact HB.out))) : w.heap.size ≤ gb141)); have n3_ := Aside0.mk ((by rw [hg]; exact (below_size (by repeat (first | (with_reducible first | exact HB.out | apply below_alloc | apply pw_below_drewN | apply below_drew1) | exact HB.out))) : w.heap.size ≤ gb141)); clear HB; have HB := n0_; have BK141 := n1_; have GW141 := n2_; have GE141 := n3_; clear n0_ n1_ n2_ n3_; clear hb hbox hg; have hcz33_0 : w32.cell? ⟨gb141, 0, none⟩ = some (.int .i64 a0_0) := bc BK141 0; have hcz33_1 : w32.cell? ⟨gb141, 1, none⟩ = some (.int .i64 a0_1) := bc BK141 1; have hcz33_2 : w32.cell? ⟨gb141, 2, none⟩ = some (.int .i64 a0_2) := bc BK141 2; have hcz33_3 : w32.cell? ⟨gb141, 3, none⟩ = some (.int .i64 a0_3) := bc BK141 3; have hcz33_4 : w32.cell? ⟨gb141, 4, none⟩ = some (.int .i64 a0_4) := bc BK141 4; have hcz33_5 : w32.cell? ⟨gb141, 5, none⟩ = some (.int .i64 a0_5) := bc BK141 5; have hcz33_6 : w32.cell? ⟨gb141, 6, none⟩ = some (.string a0_6) := bc BK141 6; have hcz33_7 : w32.cell? ⟨gb141, 7, none⟩ = some (.slice A0_7 l0_7.length c0_7) := bc BK141 7; have hcz33_8 : w32.cell? ⟨gb141, 8, none⟩ = some (.int .i64 a0_8) := bc BK141 8; have hcz33_9 : w32.cell? ⟨gb141, 9, none⟩ = some (.int .i64 a0_9) := bc BK141 9; have hcz33_10 : w32.cell? ⟨gb141, 10, none⟩ = some (.int .i64 a0_10) := bc BK141 10; have hfz33_0 := bf BK141 0; have hfz33_1 := bf BK141 1; have hfz33_2 := bf BK141 2; have hfz33_3 := bf BK141 3; have hfz33_4 := bf BK141 4; have hfz33_5 := bf BK141 5; have hfz33_6 := bf BK141 6; have hfz33_7 := bf BK141 7; have hfz33_8 := bf BK141 8; have hfz33_9 := bf BK141 9; have hfz33_10 := bf BK141 10) | ((with_reducible refine gate_callee (f := 144) rfl ?_); refine goesL_ (some 7) rfl rfl Tryd.func144 (by kernel_rfl) rfl #[.int .i64 a0_8, .int .i64 a0_9] rfl (by (try simp only [List.map_toArray, List.map_cons, List.map_nil]); first | done | rfl | (simp only [List.length_drop, List.length_take]; rfl)) ?_; (with_reducible refine (op_Name.calls a0_8 a0_9 true _ A2.out).mono ?_); rintro e w' ⟨rfl, ⟨nd, rfl⟩⟩; refine ⟨_, rfl, ?_⟩))
      go_ret
      exact ⟨by first | rfl | (simp [errW_none, errW_some] <;> rfl) | (simp [*, errW_none, errW_some] <;> rfl), by repeat (first | (with_reducible first | exact HB.out | apply below_alloc | apply pw_below_drewN | apply below_drew1 | refine below_set ?_ GE141.out) | exact HB.out)⟩
    rw [if_neg c28] at H
    have c28b0 : (a0_3 == 0 && (a0_4 == 0 && (a0_5 == 0))) = false := by simpa using c28
    (try (have c28b1 : decide (a0_3 = 0 && (a0_4 == 0 && (a0_5 == 0))) = false := by simpa using c28))
    (try (have c28b2 : (a0_3 == 0 && (a0_4 == 0 && (a0_5 == 0))) = false := by simpa using c28))
    (try (have c28b3 : ¬ (a0_3 = 0 && (a0_4 == 0 && (a0_5 == 0))) := by simpa using c28))
    clear c28
    obtain rfl := Option.some.inj H
    go_enter Tryd.func146, Tryd.ntmps146
    go_wp2_with (first | ((with_reducible refine gate_dst (N := 1) rfl ?_); (try (refine gate_guard (by rfl) ?_; dsimp only)); refine box_event ?hg (N := 1) ?hd (cs := #[.int .i64 a0_0, .int .i64 a0_1, .int .i64 a0_2, .int .i64 a0_3, .int .i64 a0_4, .int .i64 a0_5, .string a0_6, .slice A0_7 l0_7.length c0_7, .int .i64 a0_8, .int .i64 a0_9, .int .i64 a0_10]) (t := 31) ?hr ?_; (case hd => rfl); (case hg => rfl); (case hr => first | (go_simp; done) | (go_simp; rfl)); intro gb141 hg w34 hbox hb; have n0_ := Aside0.mk (below_step (by repeat (first | (with_reducible first | exact HB.out | apply below_alloc | apply pw_below_drewN | apply below_drew1) | exact HB.out)) hb); have n1_ := Aside0.mk (hbox); have n2_ := Aside0.mk ((by rw [hg]; exact (below_size (by repeat (first | (with_reducible first | exact HB.out | apply below_alloc | apply pw_below_drewN | apply below_drew1) | exact HB.out))) : w.heap.size ≤ gb141)); have n3_ := Aside0.mk ((by rw [hg]; exact (below_size (by repeat (first | (with_reducible first | exact HB.out | apply below_alloc | apply pw_below_drewN | apply below_drew1) | exact HB.out))) : w.heap.size ≤ gb141)); clear HB; have HB := n0_; have BK141 := n1_; have GW141 := n2_; have GE141 := n3_; clear n0_ n1_ n2_ n3_; clear hb hbox hg; have hcz35_0 : w34.cell? ⟨gb141, 0, none⟩ = some (.int .i64 a0_0) := bc BK141 0; have hcz35_1 : w34.cell? ⟨gb141, 1, none⟩ = some (.int .i64 a0_1) := bc BK141 1; have hcz35_2 : w34.cell? ⟨gb141, 2, none⟩ = some (.int .i64 a0_2) := bc BK141 2; have hcz35_3 : w34.cell? ⟨gb141, 3, none⟩ = some (.int .i64 a0_3) := bc BK141 3; have hcz35_4 : w34.cell? ⟨gb141, 4, none⟩ = some (.int .i64 a0_4) := bc BK141 4; have hcz35_5 : w34.cell? ⟨gb141, 5, none⟩ = some (.int .i64 a0_5) := bc BK141 5; have hcz35_6 : w34.cell? ⟨gb141, 6, none⟩ = some (.string a0_6) := bc BK141 6; have hcz35_7 : w34.cell? ⟨gb141, 7, none⟩ = some (.slice A0_7 l0_7.length c0_7) := bc BK141 7; have hcz35_8 : w34.cell? ⟨gb141, 8, none⟩ = some (.int .i64 a0_8) := bc BK141 8; have hcz35_9 : w34.cell? ⟨gb141, 9, none⟩ = some (.int .i64 a0_9) := bc BK141 9; have hcz35_10 : w34.cell? ⟨gb141, 10, none⟩ = some (.int .i64 a0_10) := bc BK141 10; have hfz35_0 := bf BK141 0; have hfz35_1 := bf BK141 1; have hfz35_2 := bf BK141 2; have hfz35_3 := bf BK141 3; have hfz35_4 := bf BK141 4; have hfz35_5 := bf BK141 5; have hfz35_6 := bf BK141 6; have hfz35_7 := bf BK141 7; have hfz35_8 := bf BK141 8; have hfz35_9 := bf BK141 9; have hfz35_10 := bf BK141 10) | ((with_reducible refine gate_callee (f := 144) rfl ?_); refine goesL_ (some 7) rfl rfl Tryd.func144 (by kernel_rfl) rfl #[.int .i64 a0_8, .int .i64 a0_9] rfl (by (try simp only [List.map_toArray, List.map_cons, List.map_nil]); first | done | rfl | (simp only [List.length_drop, List.length_take]; rfl)) ?_; (with_reducible refine (op_Name.calls a0_8 a0_9 true _ A2.out).mono ?_); rintro e w' ⟨rfl, ⟨nd, rfl⟩⟩; refine ⟨_, rfl, ?_⟩))
    go_ret
    exact ⟨by first | rfl | (simp [errW_none, errW_some] <;> rfl) | (simp [*, errW_none, errW_some] <;> rfl), by repeat (first | (with_reducible first | exact HB.out | apply below_alloc | apply pw_below_drewN | apply below_drew1 | refine below_set ?_ GE141.out) | exact HB.out)⟩
  replace c3 := Bool.eq_false_iff.mpr c3
  subst c3
  have H1 : (some false) = some r := by rw [if_neg (show ¬ (false = true) by decide)] at H; exact H
  clear H
  have H := H1
  clear H1
  obtain rfl := Option.some.inj H
  go_enter Tryd.func146, Tryd.ntmps146
  go_wp2_with (first | ((with_reducible refine gate_dst (N := 1) rfl ?_); (try (refine gate_guard (by rfl) ?_; dsimp only)); refine box_event ?hg (N := 1) ?hd (cs := #[.int .i64 a0_0, .int .i64 a0_1, .int .i64 a0_2, .int .i64 a0_3, .int .i64 a0_4, .int .i64 a0_5, .string a0_6, .slice A0_7 l0_7.length c0_7, .int .i64 a0_8, .int .i64 a0_9, .int .i64 a0_10]) (t := 31) ?hr ?_; (case hd => rfl); (case hg => rfl); (case hr => first | (go_simp; done) | (go_simp; rfl)); intro gb141 hg w36 hbox hb; have n0_ := Aside0.mk (below_step (by repeat (first | (with_reducible first | exact HB.out | apply below_alloc | apply pw_below_drewN | apply below_drew1) | exact HB.out)) hb); have n1_ := Aside0.mk (hbox); have n2_ := Aside0.mk ((by rw [hg]; exact (below_size (by repeat (first | (with_reducible first | exact HB.out | apply below_alloc | apply pw_below_drewN | apply below_drew1) | exact HB.out))) : w.heap.size ≤ gb141)); have n3_ := Aside0.mk ((by rw [hg]; exact (below_size (by repeat (first | (with_reducible first | exact HB.out | apply below_alloc | apply pw_below_drewN | apply below_drew1) | exact HB.out))) : w.heap.size ≤ gb141)); clear HB; have HB := n0_; have BK141 := n1_; have GW141 := n2_; have GE141 := n3_; clear n0_ n1_ n2_ n3_; clear hb hbox hg; have hcz37_0 : w36.cell? ⟨gb141, 0, none⟩ = some (.int .i64 a0_0) := bc BK141 0; have hcz37_1 : w36.cell? ⟨gb141, 1, none⟩ = some (.int .i64 a0_1) := bc BK141 1; have hcz37_2 : w36.cell? ⟨gb141, 2, none⟩ = some (.int .i64 a0_2) := bc BK141 2; have hcz37_3 : w36.cell? ⟨gb141, 3, none⟩ = some (.int .i64 a0_3) := bc BK141 3; have hcz37_4 : w36.cell? ⟨gb141, 4, none⟩ = some (.int .i64 a0_4) := bc BK141 4; have hcz37_5 : w36.cell? ⟨gb141, 5, none⟩ = some (.int .i64 a0_5) := bc BK141 5; have hcz37_6 : w36.cell? ⟨gb141, 6, none⟩ = some (.string a0_6) := bc BK141 6; have hcz37_7 : w36.cell? ⟨gb141, 7, none⟩ = some (.slice A0_7 l0_7.length c0_7) := bc BK141 7; have hcz37_8 : w36.cell? ⟨gb141, 8, none⟩ = some (.int .i64 a0_8) := bc BK141 8; have hcz37_9 : w36.cell? ⟨gb141, 9, none⟩ = some (.int .i64 a0_9) := bc BK141 9; have hcz37_10 : w36.cell? ⟨gb141, 10, none⟩ = some (.int .i64 a0_10) := bc BK141 10; have hfz37_0 := bf BK141 0; have hfz37_1 := bf BK141 1; have hfz37_2 := bf BK141 2; have hfz37_3 := bf BK141 3; have hfz37_4 := bf BK141 4; have hfz37_5 := bf BK141 5; have hfz37_6 := bf BK141 6; have hfz37_7 := bf BK141 7; have hfz37_8 := bf BK141 8; have hfz37_9 := bf BK141 9; have hfz37_10 := bf BK141 10) | ((with_reducible refine gate_callee (f := 144) rfl ?_); refine goesL_ (some 7) rfl rfl Tryd.func144 (by kernel_rfl) rfl #[.int .i64 a0_8, .int .i64 a0_9] rfl (by (try simp only [List.map_toArray, List.map_cons, List.map_nil]); first | done | rfl | (simp only [List.length_drop, List.length_take]; rfl)) ?_; (with_reducible refine (op_Name.calls a0_8 a0_9 false _ A2.out).mono ?_); rintro e w' ⟨rfl, ⟨nd, rfl⟩⟩; refine ⟨_, rfl, ?_⟩))
  go_ret
  exact ⟨by first | rfl | (simp [errW_none, errW_some] <;> rfl) | (simp [*, errW_none, errW_some] <;> rfl), by repeat (first | (with_reducible first | exact HB.out | apply below_alloc | apply pw_below_drewN | apply below_drew1 | refine below_set ?_ GE141.out) | exact HB.out)⟩
def op_May.f (k : Nat) (a0_0 : Int) (a0_1 : Int) (a0_2 : Int) (a0_3 : Int) (a0_4 : Int) (a0_5 : Int) (a0_6 : ByteArray) (l0_7 : List (SElem)) (a0_8 : Int) (a0_9 : Int) (a0_10 : Int) : Option (Bool) := (op_Name.f a0_0 a0_1).bind fun t144 => (if t144 = true then (if a0_2 = 1 then ((op_edit.f k a0_0 a0_1 a0_2 a0_3 a0_4 a0_5 a0_6 l0_7 a0_8 a0_9 a0_10).bind fun t145 => (some t145)) else (if a0_2 = 2 then ((op_toggle.f a0_0 a0_1 a0_2 a0_3 a0_4 a0_5 a0_6 l0_7 a0_8 a0_9 a0_10).bind fun t146 => (some t146)) else (some false))) else (some false))
set_option maxHeartbeats 8000000 in
set_option maxRecDepth 100000 in
theorem op_May.calls (k : Nat) (a0_0 : Int) (a0_1 : Int) (a0_2 : Int) (a0_3 : Int) (a0_4 : Int) (a0_5 : Int) (a0_6 : ByteArray) (A0_7 : Option Addr) (c0_7 : Nat) (l0_7 : List (SElem)) (a0_8 : Int) (a0_9 : Int) (a0_10 : Int) (r : Bool) (w : World) (hr0_7 : Kd.C kElem w A0_7 l0_7.length l0_7) (hc0_7 : l0_7.length ≤ c0_7) (h : op_May.f k a0_0 a0_1 a0_2 a0_3 a0_4 a0_5 a0_6 l0_7 a0_8 a0_9 a0_10 = some r) :
    Calls Tryd.prog 106 #[.agg #[.int .i64 a0_0, .int .i64 a0_1, .int .i64 a0_2, .int .i64 a0_3, .int .i64 a0_4, .int .i64 a0_5, .string a0_6, .slice A0_7 l0_7.length c0_7, .int .i64 a0_8, .int .i64 a0_9, .int .i64 a0_10]] w fun e w' => e = .returned (.bool r) ∧ Below w.heap.size w w' := by
  have hu31 := Tryd.underlying31
  have HR0_7 := Aside0.mk hr0_7
  have HC0_7 := Aside0.mk hc0_7
  clear hr0_7 hc0_7
  have HB := Aside0.mk (Below.refl w.heap.size w)
  have H : ((op_Name.f a0_0 a0_1).bind fun t144 => (if t144 = true then (if a0_2 = 1 then ((op_edit.f k a0_0 a0_1 a0_2 a0_3 a0_4 a0_5 a0_6 l0_7 a0_8 a0_9 a0_10).bind fun t145 => (some t145)) else (if a0_2 = 2 then ((op_toggle.f a0_0 a0_1 a0_2 a0_3 a0_4 a0_5 a0_6 l0_7 a0_8 a0_9 a0_10).bind fun t146 => (some t146)) else (some false))) else (some false))) = some r := h
  clear h
  replace H := Option.bind_eq_some_iff.mp H
  obtain ⟨t144, A20, H⟩ := H
  replace H : (if t144 = true then (if a0_2 = 1 then ((op_edit.f k a0_0 a0_1 a0_2 a0_3 a0_4 a0_5 a0_6 l0_7 a0_8 a0_9 a0_10).bind fun t145 => (some t145)) else (if a0_2 = 2 then ((op_toggle.f a0_0 a0_1 a0_2 a0_3 a0_4 a0_5 a0_6 l0_7 a0_8 a0_9 a0_10).bind fun t146 => (some t146)) else (some false))) else (some false)) = some r := H
  have A2 := Aside0.mk A20
  clear A20
  by_cases c3 : t144 = true
  · subst c3
    have H1 : (if a0_2 = 1 then ((op_edit.f k a0_0 a0_1 a0_2 a0_3 a0_4 a0_5 a0_6 l0_7 a0_8 a0_9 a0_10).bind fun t145 => (some t145)) else (if a0_2 = 2 then ((op_toggle.f a0_0 a0_1 a0_2 a0_3 a0_4 a0_5 a0_6 l0_7 a0_8 a0_9 a0_10).bind fun t146 => (some t146)) else (some false))) = some r := by rw [if_pos rfl] at H; exact H
    clear H
    have H := H1
    clear H1
    by_cases c4 : a0_2 = 1
    · rw [if_pos c4] at H
      have c4b0 : (a0_2 == 1) = true := beq_iff_eq.mpr c4
      have c4b1 : (a0_2 != 1) = false := bne_eq_false_iff_eq.mpr c4
      clear c4
      replace H := Option.bind_eq_some_iff.mp H
      obtain ⟨t145, A50, H⟩ := H
      replace H : (some t145) = some r := H
      have A5 := Aside0.mk A50
      clear A50
      obtain rfl := Option.some.inj H
      go_enter Tryd.func106, Tryd.ntmps106
      go_wp2_with (first | ((with_reducible refine gate_dst (N := 1) rfl ?_); refine box_event ?hg (N := 1) ?hd (cs := #[.int .i64 a0_0, .int .i64 a0_1, .int .i64 a0_2, .int .i64 a0_3, .int .i64 a0_4, .int .i64 a0_5, .string a0_6, .slice A0_7 l0_7.length c0_7, .int .i64 a0_8, .int .i64 a0_9, .int .i64 a0_10]) (t := 31) ?hr ?_; (case hd => rfl); (case hg => rfl); (case hr => first | (go_simp; done) | (go_simp; rfl)); intro gb143 hg w6 hbox hb; have n0_ := Aside0.mk (below_step (by repeat (first | (with_reducible first | exact HB.out | apply below_alloc | apply pw_below_drewN | apply below_drew1) | exact HB.out)) hb); have n1_ := Aside0.mk (hbox); have n2_ := Aside0.mk ((by rw [hg]; exact (below_size (by repeat (first | (with_reducible first | exact HB.out | apply below_alloc | apply pw_below_drewN | apply below_drew1) | exact HB.out))) : w.heap.size ≤ gb143)); have n3_ := Aside0.mk ((by rw [hg]; exact (below_size (by repeat (first | (with_reducible first | exact HB.out | apply below_alloc | apply pw_below_drewN | apply below_drew1) | exact HB.out))) : w.heap.size ≤ gb143)); clear HB; have HB := n0_; have BK143 := n1_; have GW143 := n2_; have GE143 := n3_; clear n0_ n1_ n2_ n3_; clear hb hbox hg; have hcz7_0 : w6.cell? ⟨gb143, 0, none⟩ = some (.int .i64 a0_0) := bc BK143 0; have hcz7_1 : w6.cell? ⟨gb143, 1, none⟩ = some (.int .i64 a0_1) := bc BK143 1; have hcz7_2 : w6.cell? ⟨gb143, 2, none⟩ = some (.int .i64 a0_2) := bc BK143 2; have hcz7_3 : w6.cell? ⟨gb143, 3, none⟩ = some (.int .i64 a0_3) := bc BK143 3; have hcz7_4 : w6.cell? ⟨gb143, 4, none⟩ = some (.int .i64 a0_4) := bc BK143 4; have hcz7_5 : w6.cell? ⟨gb143, 5, none⟩ = some (.int .i64 a0_5) := bc BK143 5; have hcz7_6 : w6.cell? ⟨gb143, 6, none⟩ = some (.string a0_6) := bc BK143 6; have hcz7_7 : w6.cell? ⟨gb143, 7, none⟩ = some (.slice A0_7 l0_7.length c0_7) := bc BK143 7; have hcz7_8 : w6.cell? ⟨gb143, 8, none⟩ = some (.int .i64 a0_8) := bc BK143 8; have hcz7_9 : w6.cell? ⟨gb143, 9, none⟩ = some (.int .i64 a0_9) := bc BK143 9; have hcz7_10 : w6.cell? ⟨gb143, 10, none⟩ = some (.int .i64 a0_10) := bc BK143 10; have hfz7_0 := bf BK143 0; have hfz7_1 := bf BK143 1; have hfz7_2 := bf BK143 2; have hfz7_3 := bf BK143 3; have hfz7_4 := bf BK143 4; have hfz7_5 := bf BK143 5; have hfz7_6 := bf BK143 6; have hfz7_7 := bf BK143 7; have hfz7_8 := bf BK143 8; have hfz7_9 := bf BK143 9; have hfz7_10 := bf BK143 10) | ((with_reducible refine gate_callee (f := 144) rfl ?_); refine goesL_ (some 8) rfl rfl Tryd.func144 (by kernel_rfl) rfl #[.int .i64 a0_0, .int .i64 a0_1] rfl (by (try simp only [List.map_toArray, List.map_cons, List.map_nil]); first | done | rfl | (simp only [List.length_drop, List.length_take]; rfl)) ?_; (with_reducible refine (op_Name.calls a0_0 a0_1 true _ A2.out).mono ?_); rintro e w' ⟨rfl, ⟨nd, rfl⟩⟩; refine ⟨_, rfl, ?_⟩) | ((with_reducible refine gate_callee (f := 145) rfl ?_); refine goesL_ (some 15) rfl rfl Tryd.func145 (by kernel_rfl) rfl #[.agg #[.int .i64 a0_0, .int .i64 a0_1, .int .i64 a0_2, .int .i64 a0_3, .int .i64 a0_4, .int .i64 a0_5, .string a0_6, .slice A0_7 l0_7.length c0_7, .int .i64 a0_8, .int .i64 a0_9, .int .i64 a0_10]] rfl (by (try simp only [List.map_toArray, List.map_cons, List.map_nil]); first | done | rfl | (simp only [List.length_drop, List.length_take]; rfl)) ?_; (with_reducible refine (op_edit.calls k a0_0 a0_1 a0_2 a0_3 a0_4 a0_5 a0_6 _ _ l0_7 a0_8 a0_9 a0_10 t145 _ ?side1 ?side2 A5.out).mono ?_); (case side1 => repeat (first | exact (Kd.C_below HR0_7.out (by repeat (first | (with_reducible first | exact HB.out | apply below_alloc | apply pw_below_drewN | apply below_drew1 | refine below_set ?_ GE143.out) | exact HB.out))) | (with_reducible refine Kd.C_alloc ?_ _) | (with_reducible refine Kd.C_drewN ?_ _) | (with_reducible refine Kd.C_drew ?_))); (case side2 => exact HC0_7.out); rintro e w8 ⟨rfl, hb⟩; refine ⟨_, rfl, ?_⟩; have n0_ := Aside0.mk (blk_below (g := gb143) (o := .cells #[.int .i64 a0_0, .int .i64 a0_1, .int .i64 a0_2, .int .i64 a0_3, .int .i64 a0_4, .int .i64 a0_5, .string a0_6, .slice A0_7 l0_7.length c0_7, .int .i64 a0_8, .int .i64 a0_9, .int .i64 a0_10] 31 (0, 0)) (by (with_reducible repeat (first | refine blk_drewN ?_ _ | refine blk_drew ?_ | refine blk_alloc ?_ _)); exact BK143.out) hb); have n1_ := Aside0.mk (below_step (by repeat (first | (with_reducible first | exact HB.out | apply below_alloc | apply pw_below_drewN | apply below_drew1 | refine below_set ?_ GE143.out) | exact HB.out)) hb); clear BK143; clear HB; have BK143 := n0_; have HB := n1_; clear n0_ n1_; (try clear hb); (try clear hb2); (try clear hk); (try clear hi)))
      go_ret
      exact ⟨by first | rfl | (simp [errW_none, errW_some] <;> rfl) | (simp [*, errW_none, errW_some] <;> rfl), by repeat (first | (with_reducible first | exact HB.out | apply below_alloc | apply pw_below_drewN | apply below_drew1 | refine below_set ?_ GE143.out) | exact HB.out)⟩
    rw [if_neg c4] at H
    have c4b0 : (a0_2 == 1) = false := beq_eq_false_iff_ne.mpr c4
    have c4b1 : (a0_2 != 1) = true := bne_iff_ne.mpr c4
    by_cases c9 : a0_2 = 2
    · rw [if_pos c9] at H
      have c9b0 : (a0_2 == 2) = true := beq_iff_eq.mpr c9
      have c9b1 : (a0_2 != 2) = false := bne_eq_false_iff_eq.mpr c9
      clear c9
      replace H := Option.bind_eq_some_iff.mp H
      obtain ⟨t146, A100, H⟩ := H
      replace H : (some t146) = some r := H
      have A10 := Aside0.mk A100
      clear A100
      obtain rfl := Option.some.inj H
      go_enter Tryd.func106, Tryd.ntmps106
      go_wp2_with (first | ((with_reducible refine gate_dst (N := 1) rfl ?_); refine box_event ?hg (N := 1) ?hd (cs := #[.int .i64 a0_0, .int .i64 a0_1, .int .i64 a0_2, .int .i64 a0_3, .int .i64 a0_4, .int .i64 a0_5, .string a0_6, .slice A0_7 l0_7.length c0_7, .int .i64 a0_8, .int .i64 a0_9, .int .i64 a0_10]) (t := 31) ?hr ?_; (case hd => rfl); (case hg => rfl); (case hr => first | (go_simp; done) | (go_simp; rfl)); intro gb143 hg w11 hbox hb; have n0_ := Aside0.mk (below_step (by repeat (first | (with_reducible first | exact HB.out | apply below_alloc | apply pw_below_drewN | apply below_drew1) | exact HB.out)) hb); have n1_ := Aside0.mk (hbox); have n2_ := Aside0.mk ((by rw [hg]; exact (below_size (by repeat (first | (with_reducible first | exact HB.out | apply below_alloc | apply pw_below_drewN | apply below_drew1) | exact HB.out))) : w.heap.size ≤ gb143)); have n3_ := Aside0.mk ((by rw [hg]; exact (below_size (by repeat (first | (with_reducible first | exact HB.out | apply below_alloc | apply pw_below_drewN | apply below_drew1) | exact HB.out))) : w.heap.size ≤ gb143)); clear HB; have HB := n0_; have BK143 := n1_; have GW143 := n2_; have GE143 := n3_; clear n0_ n1_ n2_ n3_; clear hb hbox hg; have hcz12_0 : w11.cell? ⟨gb143, 0, none⟩ = some (.int .i64 a0_0) := bc BK143 0; have hcz12_1 : w11.cell? ⟨gb143, 1, none⟩ = some (.int .i64 a0_1) := bc BK143 1; have hcz12_2 : w11.cell? ⟨gb143, 2, none⟩ = some (.int .i64 a0_2) := bc BK143 2; have hcz12_3 : w11.cell? ⟨gb143, 3, none⟩ = some (.int .i64 a0_3) := bc BK143 3; have hcz12_4 : w11.cell? ⟨gb143, 4, none⟩ = some (.int .i64 a0_4) := bc BK143 4; have hcz12_5 : w11.cell? ⟨gb143, 5, none⟩ = some (.int .i64 a0_5) := bc BK143 5; have hcz12_6 : w11.cell? ⟨gb143, 6, none⟩ = some (.string a0_6) := bc BK143 6; have hcz12_7 : w11.cell? ⟨gb143, 7, none⟩ = some (.slice A0_7 l0_7.length c0_7) := bc BK143 7; have hcz12_8 : w11.cell? ⟨gb143, 8, none⟩ = some (.int .i64 a0_8) := bc BK143 8; have hcz12_9 : w11.cell? ⟨gb143, 9, none⟩ = some (.int .i64 a0_9) := bc BK143 9; have hcz12_10 : w11.cell? ⟨gb143, 10, none⟩ = some (.int .i64 a0_10) := bc BK143 10; have hfz12_0 := bf BK143 0; have hfz12_1 := bf BK143 1; have hfz12_2 := bf BK143 2; have hfz12_3 := bf BK143 3; have hfz12_4 := bf BK143 4; have hfz12_5 := bf BK143 5; have hfz12_6 := bf BK143 6; have hfz12_7 := bf BK143 7; have hfz12_8 := bf BK143 8; have hfz12_9 := bf BK143 9; have hfz12_10 := bf BK143 10) | ((with_reducible refine gate_callee (f := 144) rfl ?_); refine goesL_ (some 8) rfl rfl Tryd.func144 (by kernel_rfl) rfl #[.int .i64 a0_0, .int .i64 a0_1] rfl (by (try simp only [List.map_toArray, List.map_cons, List.map_nil]); first | done | rfl | (simp only [List.length_drop, List.length_take]; rfl)) ?_; (with_reducible refine (op_Name.calls a0_0 a0_1 true _ A2.out).mono ?_); rintro e w' ⟨rfl, ⟨nd, rfl⟩⟩; refine ⟨_, rfl, ?_⟩) | (go_at_call 146; (with_reducible refine (op_toggle.calls a0_0 a0_1 a0_2 a0_3 a0_4 a0_5 a0_6 _ _ l0_7 a0_8 a0_9 a0_10 t146 _ ?side1 ?side2 A10.out).mono ?_); (case side1 => repeat (first | exact (Kd.C_below HR0_7.out (by repeat (first | (with_reducible first | exact HB.out | apply below_alloc | apply pw_below_drewN | apply below_drew1 | refine below_set ?_ GE143.out) | exact HB.out))) | (with_reducible refine Kd.C_alloc ?_ _) | (with_reducible refine Kd.C_drewN ?_ _) | (with_reducible refine Kd.C_drew ?_))); (case side2 => exact HC0_7.out); rintro e w13 ⟨rfl, hb⟩; have n0_ := Aside0.mk (blk_below (g := gb143) (o := .cells #[.int .i64 a0_0, .int .i64 a0_1, .int .i64 a0_2, .int .i64 a0_3, .int .i64 a0_4, .int .i64 a0_5, .string a0_6, .slice A0_7 l0_7.length c0_7, .int .i64 a0_8, .int .i64 a0_9, .int .i64 a0_10] 31 (0, 0)) (by (with_reducible repeat (first | refine blk_drewN ?_ _ | refine blk_drew ?_ | refine blk_alloc ?_ _)); exact BK143.out) hb); have n1_ := Aside0.mk (below_step (by repeat (first | (with_reducible first | exact HB.out | apply below_alloc | apply pw_below_drewN | apply below_drew1 | refine below_set ?_ GE143.out) | exact HB.out)) hb); clear BK143; clear HB; have BK143 := n0_; have HB := n1_; clear n0_ n1_; (try clear hb); (try clear hb2); (try clear hk); (try clear hi)))
      go_ret
      exact ⟨by first | rfl | (simp [errW_none, errW_some] <;> rfl) | (simp [*, errW_none, errW_some] <;> rfl), by repeat (first | (with_reducible first | exact HB.out | apply below_alloc | apply pw_below_drewN | apply below_drew1 | refine below_set ?_ GE143.out) | exact HB.out)⟩
    rw [if_neg c9] at H
    have c9b0 : (a0_2 == 2) = false := beq_eq_false_iff_ne.mpr c9
    have c9b1 : (a0_2 != 2) = true := bne_iff_ne.mpr c9
    obtain rfl := Option.some.inj H
    go_enter Tryd.func106, Tryd.ntmps106
    go_wp2_with (first | ((with_reducible refine gate_dst (N := 1) rfl ?_); refine box_event ?hg (N := 1) ?hd (cs := #[.int .i64 a0_0, .int .i64 a0_1, .int .i64 a0_2, .int .i64 a0_3, .int .i64 a0_4, .int .i64 a0_5, .string a0_6, .slice A0_7 l0_7.length c0_7, .int .i64 a0_8, .int .i64 a0_9, .int .i64 a0_10]) (t := 31) ?hr ?_; (case hd => rfl); (case hg => rfl); (case hr => first | (go_simp; done) | (go_simp; rfl)); intro gb143 hg w14 hbox hb; have n0_ := Aside0.mk (below_step (by repeat (first | (with_reducible first | exact HB.out | apply below_alloc | apply pw_below_drewN | apply below_drew1) | exact HB.out)) hb); have n1_ := Aside0.mk (hbox); have n2_ := Aside0.mk ((by rw [hg]; exact (below_size (by repeat (first | (with_reducible first | exact HB.out | apply below_alloc | apply pw_below_drewN | apply below_drew1) | exact HB.out))) : w.heap.size ≤ gb143)); have n3_ := Aside0.mk ((by rw [hg]; exact (below_size (by repeat (first | (with_reducible first | exact HB.out | apply below_alloc | apply pw_below_drewN | apply below_drew1) | exact HB.out))) : w.heap.size ≤ gb143)); clear HB; have HB := n0_; have BK143 := n1_; have GW143 := n2_; have GE143 := n3_; clear n0_ n1_ n2_ n3_; clear hb hbox hg; have hcz15_0 : w14.cell? ⟨gb143, 0, none⟩ = some (.int .i64 a0_0) := bc BK143 0; have hcz15_1 : w14.cell? ⟨gb143, 1, none⟩ = some (.int .i64 a0_1) := bc BK143 1; have hcz15_2 : w14.cell? ⟨gb143, 2, none⟩ = some (.int .i64 a0_2) := bc BK143 2; have hcz15_3 : w14.cell? ⟨gb143, 3, none⟩ = some (.int .i64 a0_3) := bc BK143 3; have hcz15_4 : w14.cell? ⟨gb143, 4, none⟩ = some (.int .i64 a0_4) := bc BK143 4; have hcz15_5 : w14.cell? ⟨gb143, 5, none⟩ = some (.int .i64 a0_5) := bc BK143 5; have hcz15_6 : w14.cell? ⟨gb143, 6, none⟩ = some (.string a0_6) := bc BK143 6; have hcz15_7 : w14.cell? ⟨gb143, 7, none⟩ = some (.slice A0_7 l0_7.length c0_7) := bc BK143 7; have hcz15_8 : w14.cell? ⟨gb143, 8, none⟩ = some (.int .i64 a0_8) := bc BK143 8; have hcz15_9 : w14.cell? ⟨gb143, 9, none⟩ = some (.int .i64 a0_9) := bc BK143 9; have hcz15_10 : w14.cell? ⟨gb143, 10, none⟩ = some (.int .i64 a0_10) := bc BK143 10; have hfz15_0 := bf BK143 0; have hfz15_1 := bf BK143 1; have hfz15_2 := bf BK143 2; have hfz15_3 := bf BK143 3; have hfz15_4 := bf BK143 4; have hfz15_5 := bf BK143 5; have hfz15_6 := bf BK143 6; have hfz15_7 := bf BK143 7; have hfz15_8 := bf BK143 8; have hfz15_9 := bf BK143 9; have hfz15_10 := bf BK143 10) | ((with_reducible refine gate_callee (f := 144) rfl ?_); refine goesL_ (some 8) rfl rfl Tryd.func144 (by kernel_rfl) rfl #[.int .i64 a0_0, .int .i64 a0_1] rfl (by (try simp only [List.map_toArray, List.map_cons, List.map_nil]); first | done | rfl | (simp only [List.length_drop, List.length_take]; rfl)) ?_; (with_reducible refine (op_Name.calls a0_0 a0_1 true _ A2.out).mono ?_); rintro e w' ⟨rfl, ⟨nd, rfl⟩⟩; refine ⟨_, rfl, ?_⟩))
    go_ret
    exact ⟨by first | rfl | (simp [errW_none, errW_some] <;> rfl) | (simp [*, errW_none, errW_some] <;> rfl), by repeat (first | (with_reducible first | exact HB.out | apply below_alloc | apply pw_below_drewN | apply below_drew1 | refine below_set ?_ GE143.out) | exact HB.out)⟩
  replace c3 := Bool.eq_false_iff.mpr c3
  subst c3
  have H1 : (some false) = some r := by rw [if_neg (show ¬ (false = true) by decide)] at H; exact H
  clear H
  have H := H1
  clear H1
  obtain rfl := Option.some.inj H
  go_enter Tryd.func106, Tryd.ntmps106
  go_wp2_with (first | ((with_reducible refine gate_dst (N := 1) rfl ?_); refine box_event ?hg (N := 1) ?hd (cs := #[.int .i64 a0_0, .int .i64 a0_1, .int .i64 a0_2, .int .i64 a0_3, .int .i64 a0_4, .int .i64 a0_5, .string a0_6, .slice A0_7 l0_7.length c0_7, .int .i64 a0_8, .int .i64 a0_9, .int .i64 a0_10]) (t := 31) ?hr ?_; (case hd => rfl); (case hg => rfl); (case hr => first | (go_simp; done) | (go_simp; rfl)); intro gb143 hg w16 hbox hb; have n0_ := Aside0.mk (below_step (by repeat (first | (with_reducible first | exact HB.out | apply below_alloc | apply pw_below_drewN | apply below_drew1) | exact HB.out)) hb); have n1_ := Aside0.mk (hbox); have n2_ := Aside0.mk ((by rw [hg]; exact (below_size (by repeat (first | (with_reducible first | exact HB.out | apply below_alloc | apply pw_below_drewN | apply below_drew1) | exact HB.out))) : w.heap.size ≤ gb143)); have n3_ := Aside0.mk ((by rw [hg]; exact (below_size (by repeat (first | (with_reducible first | exact HB.out | apply below_alloc | apply pw_below_drewN | apply below_drew1) | exact HB.out))) : w.heap.size ≤ gb143)); clear HB; have HB := n0_; have BK143 := n1_; have GW143 := n2_; have GE143 := n3_; clear n0_ n1_ n2_ n3_; clear hb hbox hg; have hcz17_0 : w16.cell? ⟨gb143, 0, none⟩ = some (.int .i64 a0_0) := bc BK143 0; have hcz17_1 : w16.cell? ⟨gb143, 1, none⟩ = some (.int .i64 a0_1) := bc BK143 1; have hcz17_2 : w16.cell? ⟨gb143, 2, none⟩ = some (.int .i64 a0_2) := bc BK143 2; have hcz17_3 : w16.cell? ⟨gb143, 3, none⟩ = some (.int .i64 a0_3) := bc BK143 3; have hcz17_4 : w16.cell? ⟨gb143, 4, none⟩ = some (.int .i64 a0_4) := bc BK143 4; have hcz17_5 : w16.cell? ⟨gb143, 5, none⟩ = some (.int .i64 a0_5) := bc BK143 5; have hcz17_6 : w16.cell? ⟨gb143, 6, none⟩ = some (.string a0_6) := bc BK143 6; have hcz17_7 : w16.cell? ⟨gb143, 7, none⟩ = some (.slice A0_7 l0_7.length c0_7) := bc BK143 7; have hcz17_8 : w16.cell? ⟨gb143, 8, none⟩ = some (.int .i64 a0_8) := bc BK143 8; have hcz17_9 : w16.cell? ⟨gb143, 9, none⟩ = some (.int .i64 a0_9) := bc BK143 9; have hcz17_10 : w16.cell? ⟨gb143, 10, none⟩ = some (.int .i64 a0_10) := bc BK143 10; have hfz17_0 := bf BK143 0; have hfz17_1 := bf BK143 1; have hfz17_2 := bf BK143 2; have hfz17_3 := bf BK143 3; have hfz17_4 := bf BK143 4; have hfz17_5 := bf BK143 5; have hfz17_6 := bf BK143 6; have hfz17_7 := bf BK143 7; have hfz17_8 := bf BK143 8; have hfz17_9 := bf BK143 9; have hfz17_10 := bf BK143 10) | ((with_reducible refine gate_callee (f := 144) rfl ?_); refine goesL_ (some 8) rfl rfl Tryd.func144 (by kernel_rfl) rfl #[.int .i64 a0_0, .int .i64 a0_1] rfl (by (try simp only [List.map_toArray, List.map_cons, List.map_nil]); first | done | rfl | (simp only [List.length_drop, List.length_take]; rfl)) ?_; (with_reducible refine (op_Name.calls a0_0 a0_1 false _ A2.out).mono ?_); rintro e w' ⟨rfl, ⟨nd, rfl⟩⟩; refine ⟨_, rfl, ?_⟩))
  go_ret
  exact ⟨by first | rfl | (simp [errW_none, errW_some] <;> rfl) | (simp [*, errW_none, errW_some] <;> rfl), by repeat (first | (with_reducible first | exact HB.out | apply below_alloc | apply pw_below_drewN | apply below_drew1 | refine below_set ?_ GE143.out) | exact HB.out)⟩
def lectionarylaw5_num.f (a0 : Int) : Option (Int) := some a0
set_option maxHeartbeats 8000000 in
set_option maxRecDepth 100000 in
theorem lectionarylaw5_num.calls (a0 : Int) (r : Int) (w : World) (h : lectionarylaw5_num.f a0 = some r) :
    Calls Tryd.prog 18 #[.int .i64 a0] w fun e w' => e = .returned (.int .i64 r) ∧ Drawn0 w w' := by
  have H : (some a0) = some r := h
  clear h
  obtain rfl := Option.some.inj H
  go_enter Tryd.func18, Tryd.ntmps18
  go_wp2
  go_ret
  exact ⟨by first | rfl | (simp; done) | (simp [*]; done), by repeat (first | exact Drawn0.refl _ | apply Drawn0.step)⟩
end Go.Proofs.YtdahgnalojekdaaDoor.L
end

section
namespace Go.Proofs.YtdahgnalojekdaaDoor.L
open Go.RowKit Go.Proofs.YtdahgnalojekdaaDoorW.PrintWords Go.Proofs.YtdahgnalojekdaaDoorW.PrintLast Go.Proofs.YtdahgnalojekdaaDoorW.PrintMore
set_option linter.unusedVariables false
set_option linter.unusedSimpArgs false
theorem enters_at {P : Program} {f : FuncId} {fn : Func} {c : Code} (hf : P.funcs[f]? = some fn) (hname : (fn.name == "runtime.NumGoroutine") = false) (hb : fn.body = some c) : ∀ (args : Array Value) (w : World), (callFunc f args).run P w = .ok (.enter f args) w := by
  intro args w
  have h1 : fn.name ≠ "runtime.NumGoroutine" := by simpa using hname
  simp [callFunc, hf, h1, hb, mark]
def opV (x : SOp) (A : Option Addr) (c : Nat) : Value := .agg #[.int .i64 x.f0, .int .i64 x.f1, .int .i64 x.f2, .int .i64 x.f3.f0, .int .i64 x.f3.f1, .int .i64 x.f3.f2, .string x.f4, .slice A x.f5.length c, .int .i64 x.f6, .int .i64 x.f7, .int .i64 x.f8]
def elV (x : SElem) : Value := .agg #[.int .i64 x.f0, .int .i64 x.f1, .int .i64 x.f2]
def firstAt (p : Nat → Bool) (n : Nat) : Nat → Nat → Int
  | 0, _ => -1
  | d + 1, k => if k < n then (if p k then (k : Int) else firstAt p n d (k + 1)) else -1
theorem firstAt_end (p : Nat → Bool) (n : Nat) : ∀ d k, n ≤ k → firstAt p n d k = -1
  | 0, _, _ => rfl
  | d + 1, k, h => by simp [firstAt, Nat.not_lt.2 h]
def foundPost (p : Nat → Bool) (n : Nat) (I J : Nat → World → Prop) (w : World) : Prop := (∃ i, i < n ∧ p i = true ∧ (∀ j, j < i → p j = false) ∧ J i w) ∨ ((∀ j, j < n → p j = false) ∧ I n w)
def stepPost (p : Nat → Bool) (I J : Nat → World → Prop) (i : Nat) (w : World) : Prop := (p i = true → J i w) ∧ (p i = false → I (i + 1) w)
set_option maxHeartbeats 4000000 in
set_option maxRecDepth 1000000 in
theorem IndexFuncOp (g : Nat) (lb : Array Value) (A : Option Addr) (c : Nat) (l : List SOp) (p : Nat → Bool) (I J : Nat → World → Prop) (w : World) (eg : ∀ args w, (callFunc g args).run Tryd.prog w = .ok (.enter g args) w)
    (hm : l.length ≤ 9223372036854775807) (h0 : I 0 w) (hr : ∀ i W, I i W → Kd.C kOp W A l.length l)
    (hs : ∀ (i : Nat) W (A7 : Option Addr) (c7 : Nat), i < l.length → I i W → (rd_Op l i).f5.length ≤ c7 → kElem.C W A7 (rd_Op l i).f5.length (rd_Op l i).f5 →
      Calls Tryd.prog g (#[opV (rd_Op l i) A7 c7] ++ lb) W fun e w' => e = .returned (.bool (p i)) ∧ stepPost p I J i w') :
    Calls Tryd.prog 154 #[.slice A l.length c, .func (.func g) #[] lb] w fun e w' => e = .returned (.int .i64 (firstAt p l.length l.length 0)) ∧ foundPost p l.length I J w' := by
  have HS := Aside0.mk hs
  have HR := Aside0.mk hr
  clear hs hr
  go_enter Tryd.func154, Tryd.ntmps154
  go_wp2
  go_loopg [5, 8] l.length (fun gg _ s8 wr => ∃ kk : Nat, kk ≤ l.length ∧ l.length - kk ≤ gg ∧ s8 = .int .i64 kk ∧ Aside0 (I kk wr) ∧ Aside0 (∀ j, j < kk → p j = false) ∧ Aside0 (firstAt p l.length gg kk = firstAt p l.length l.length 0))
  case atStart => exact ⟨0, Nat.zero_le _, by omega, rfl, ⟨h0⟩, ⟨fun j hj => absurd hj (Nat.not_lt_zero _)⟩, ⟨rfl⟩⟩
  case round =>
    obtain ⟨kk, hkk, hg, rfl, HI, HN, HF⟩ := hrel
    by_cases hlt : kk < l.length
    · obtain ⟨g', rfl⟩ : ∃ g', gk = g' + 1 := ⟨gk - 1, by omega⟩
      have hltz : (kk : Int) < (l.length : Int) := by omega
      have h0z : (0 : Int) ≤ (kk : Int) := by omega
      obtain ⟨ad, A7, c7, rfl, x0, x1, x2, x3, x4, x5, x6, x7, x8, x9, x10, l7, g7⟩ := at_Op (HR.out kk wr HI.out) (kk : Int) h0z hltz
      have hcall := HS.out kk wr A7 c7 hlt HI.out l7 g7
      clear l7 g7
      simp only [Int.toNat_natCast] at x0 x1 x2 x3 x4 x5 x6 x7 x8 x9 x10
      simp only [opV] at hcall
      generalize rd_Op l (kk : Int) = o at x0 x1 x2 x3 x4 x5 x6 x7 x8 x9 x10 hcall
      have HF' := HF.out
      simp only [firstAt, hlt, if_true] at HF'
      cases hq : p kk with
      | true =>
        rw [hq] at hcall
        have HQ := Aside0.mk hq
        simp only [hq, if_true] at HF'
        have HF2 := Aside0.mk HF'
        clear hq HF' HF
        go_wp2_with fail
        refine hcall.mono ?_
        rintro e w' ⟨rfl, hb'⟩
        go_wp2
        go_ret
        exact ⟨by rw [← HF2.out]; rfl, .inl ⟨kk, hlt, HQ.out, HN.out, hb'.1 HQ.out⟩⟩
      | false =>
        rw [hq] at hcall
        have HQ := Aside0.mk hq
        simp only [hq, Bool.false_eq_true, if_false] at HF'
        have HF2 := Aside0.mk HF'
        clear hq HF' HF
        go_wp2_with fail
        refine hcall.mono ?_
        rintro e w' ⟨rfl, hb'⟩
        go_wp2
        go_roundg g'
        case measure => omega
        case rel =>
          refine ⟨kk + 1, by omega, by omega, by go_num, ⟨hb'.2 HQ.out⟩, ⟨fun j hj => ?_⟩, HF2⟩
          by_cases e : j = kk
          · subst e; exact HQ.out
          · exact HN.out j (by omega)
    · have hltz : ¬ (kk : Int) < (l.length : Int) := by omega
      have HF2 := HF.out
      rw [firstAt_end p _ gk kk (by omega)] at HF2
      have HF3 := Aside0.mk HF2
      clear HF2 HF
      obtain rfl : kk = l.length := by omega
      go_wp2
      go_ret
      exact ⟨by rw [← HF3.out]; rfl, .inr ⟨HN.out, HI.out⟩⟩
theorem firstAt_pos (p : Nat → Bool) (n : Nat) : ∀ d k, n ≤ k + d → decide (0 ≤ firstAt p n d k) = (List.range' k (n - k)).any p
  | 0, k, h => by simp [firstAt, show n - k = 0 by omega]
  | d + 1, k, h => by
    by_cases hk : k < n
    · have e : n - k = (n - (k + 1)) + 1 := by omega
      rw [e, List.range'_succ, List.any_cons, ← firstAt_pos p n d (k + 1) (by omega)]
      simp only [firstAt, hk, if_true]
      cases p k <;> simp
    · simp [firstAt, hk, show n - k = 0 by omega]
def anyAt (p : Nat → Bool) (n : Nat) : Bool := (List.range' 0 n).any p
set_option maxHeartbeats 1000000 in
theorem ContainsFuncOp (g : Nat) (lb : Array Value) (A : Option Addr) (c : Nat) (l : List SOp) (p : Nat → Bool) (I J : Nat → World → Prop) (w : World) (eg : ∀ args w, (callFunc g args).run Tryd.prog w = .ok (.enter g args) w)
    (hm : l.length ≤ 9223372036854775807) (h0 : I 0 w) (hr : ∀ i W, I i W → Kd.C kOp W A l.length l)
    (hs : ∀ (i : Nat) W (A7 : Option Addr) (c7 : Nat), i < l.length → I i W → (rd_Op l i).f5.length ≤ c7 → kElem.C W A7 (rd_Op l i).f5.length (rd_Op l i).f5 →
      Calls Tryd.prog g (#[opV (rd_Op l i) A7 c7] ++ lb) W fun e w' => e = .returned (.bool (p i)) ∧ stepPost p I J i w') :
    Calls Tryd.prog 120 #[.slice A l.length c, .func (.func g) #[] lb] w fun e w' => e = .returned (.bool (anyAt p l.length)) ∧ foundPost p l.length I J w' := by
  have cI := IndexFuncOp g lb A c l p I J w eg hm h0 hr hs
  have hI := firstAt_pos p l.length l.length 0 (by omega)
  generalize firstAt p l.length l.length 0 = i at cI hI
  have hI2 : anyAt p l.length = decide (0 ≤ i) := hI.symm
  rw [hI2]
  clear hI hI2 hs hr h0
  go_enter Tryd.func120, Tryd.ntmps120
  go_wp2_with fail
  refine cI.mono ?_
  rintro e w' ⟨rfl, hb⟩
  go_wp2
  go_ret
  exact ⟨rfl, hb⟩
set_option maxHeartbeats 4000000 in
set_option maxRecDepth 1000000 in
theorem IndexFuncElem (g : Nat) (lb : Array Value) (A : Option Addr) (c : Nat) (l : List SElem) (p : Nat → Bool) (I J : Nat → World → Prop) (w : World) (eg : ∀ args w, (callFunc g args).run Tryd.prog w = .ok (.enter g args) w)
    (hm : l.length ≤ 9223372036854775807) (h0 : I 0 w) (hr : ∀ i W, I i W → Kd.C kElem W A l.length l)
    (hs : ∀ (i : Nat) W, i < l.length → I i W →
      Calls Tryd.prog g (#[elV (rd_Elem l i)] ++ lb) W fun e w' => e = .returned (.bool (p i)) ∧ stepPost p I J i w') :
    Calls Tryd.prog 147 #[.slice A l.length c, .func (.func g) #[] lb] w fun e w' => e = .returned (.int .i64 (firstAt p l.length l.length 0)) ∧ foundPost p l.length I J w' := by
  have HS := Aside0.mk hs
  have HR := Aside0.mk hr
  clear hs hr
  go_enter Tryd.func147, Tryd.ntmps147
  go_wp2
  go_loopg [5, 8] l.length (fun gg _ s8 wr => ∃ kk : Nat, kk ≤ l.length ∧ l.length - kk ≤ gg ∧ s8 = .int .i64 kk ∧ Aside0 (I kk wr) ∧ Aside0 (∀ j, j < kk → p j = false) ∧ Aside0 (firstAt p l.length gg kk = firstAt p l.length l.length 0))
  case atStart => exact ⟨0, Nat.zero_le _, by omega, rfl, ⟨h0⟩, ⟨fun j hj => absurd hj (Nat.not_lt_zero _)⟩, ⟨rfl⟩⟩
  case round =>
    obtain ⟨kk, hkk, hg, rfl, HI, HN, HF⟩ := hrel
    by_cases hlt : kk < l.length
    · obtain ⟨g', rfl⟩ : ∃ g', gk = g' + 1 := ⟨gk - 1, by omega⟩
      have hltz : (kk : Int) < (l.length : Int) := by omega
      have h0z : (0 : Int) ≤ (kk : Int) := by omega
      obtain ⟨ad, rfl, x0, x1, x2⟩ := at_Elem (HR.out kk wr HI.out) (kk : Int) h0z hltz
      have hcall := HS.out kk wr hlt HI.out
      simp only [Int.toNat_natCast] at x0 x1 x2
      simp only [elV] at hcall
      generalize rd_Elem l (kk : Int) = o at x0 x1 x2 hcall
      have HF' := HF.out
      simp only [firstAt, hlt, if_true] at HF'
      cases hq : p kk with
      | true =>
        rw [hq] at hcall
        have HQ := Aside0.mk hq
        simp only [hq, if_true] at HF'
        have HF2 := Aside0.mk HF'
        clear hq HF' HF
        go_wp2_with fail
        refine hcall.mono ?_
        rintro e w' ⟨rfl, hb'⟩
        go_wp2
        go_ret
        exact ⟨by rw [← HF2.out]; rfl, .inl ⟨kk, hlt, HQ.out, HN.out, hb'.1 HQ.out⟩⟩
      | false =>
        rw [hq] at hcall
        have HQ := Aside0.mk hq
        simp only [hq, Bool.false_eq_true, if_false] at HF'
        have HF2 := Aside0.mk HF'
        clear hq HF' HF
        go_wp2_with fail
        refine hcall.mono ?_
        rintro e w' ⟨rfl, hb'⟩
        go_wp2
        go_roundg g'
        case measure => omega
        case rel =>
          refine ⟨kk + 1, by omega, by omega, by go_num, ⟨hb'.2 HQ.out⟩, ⟨fun j hj => ?_⟩, HF2⟩
          by_cases e : j = kk
          · subst e; exact HQ.out
          · exact HN.out j (by omega)
    · have hltz : ¬ (kk : Int) < (l.length : Int) := by omega
      have HF2 := HF.out
      rw [firstAt_end p _ gk kk (by omega)] at HF2
      have HF3 := Aside0.mk HF2
      clear HF2 HF
      obtain rfl : kk = l.length := by omega
      go_wp2
      go_ret
      exact ⟨by rw [← HF3.out]; rfl, .inr ⟨HN.out, HI.out⟩⟩
set_option maxHeartbeats 1000000 in
theorem ContainsFuncElem (g : Nat) (lb : Array Value) (A : Option Addr) (c : Nat) (l : List SElem) (p : Nat → Bool) (I J : Nat → World → Prop) (w : World) (eg : ∀ args w, (callFunc g args).run Tryd.prog w = .ok (.enter g args) w)
    (hm : l.length ≤ 9223372036854775807) (h0 : I 0 w) (hr : ∀ i W, I i W → Kd.C kElem W A l.length l)
    (hs : ∀ (i : Nat) W, i < l.length → I i W →
      Calls Tryd.prog g (#[elV (rd_Elem l i)] ++ lb) W fun e w' => e = .returned (.bool (p i)) ∧ stepPost p I J i w') :
    Calls Tryd.prog 156 #[.slice A l.length c, .func (.func g) #[] lb] w fun e w' => e = .returned (.bool (anyAt p l.length)) ∧ foundPost p l.length I J w' := by
  have cI := IndexFuncElem g lb A c l p I J w eg hm h0 hr hs
  have hI := firstAt_pos p l.length l.length 0 (by omega)
  generalize firstAt p l.length l.length 0 = i at cI hI
  have hI2 : anyAt p l.length = decide (0 ≤ i) := hI.symm
  rw [hI2]
  clear hI hI2 hs hr h0
  go_enter Tryd.func156, Tryd.ntmps156
  go_wp2_with fail
  refine cI.mono ?_
  rintro e w' ⟨rfl, hb⟩
  go_wp2
  go_ret
  exact ⟨rfl, hb⟩
end Go.Proofs.YtdahgnalojekdaaDoor.L
end
