/- Part 3 of the proof that for every argument the law TreeLimits answers true: as many ops, and as many runes, as may be are a row, one more is none, by rows made here; the card ties the two tables of unicode/utf8 that are listed; no other condition is laid. -/
import Derived.Test.YtdahgnalojekdaaDoorZTL2
section
namespace Go.Proofs.YtdahgnalojekdaaDoor.L
open Go.RowKit Go.Proofs.YtdahgnalojekdaaDoorW.PrintWords Go.Proofs.YtdahgnalojekdaaDoorW.PrintLast Go.Proofs.YtdahgnalojekdaaDoorW.PrintMore
attribute [local go_sem] max2_int min2_int max_two min_two max_three min_three max_four min_four
set_option linter.unusedVariables false
set_option linter.unusedSimpArgs false
attribute [local go_sem high] eqAElem
def op_gone.l0 : Nat → List (SElem) → Int → Int → Int → Int → Int → Int → Int → Int → ByteArray → List (SElem) → Int → Int → Int → Option (Bool)
  | 0, _, _, _, _, _, _, _, _, _, _, _, _, _, _ => none
  | k + 1, x6, x7, x8, x129000, x129001, x129002, x129003, x129004, x129005, x129006, x129007, x129008, x129009, x129010 => if x8 < x7 then (if 0 ≤ x8 then (if x8 < (x6.length : Int) then (if (((rd_Elem x6 x8).f0) == 0 && (((rd_Elem x6 x8).f1) == 0 && (((rd_Elem x6 x8).f2) == 0))) = true then (some false) else ((op_IsElem.f ((rd_Elem x6 x8).f0) ((rd_Elem x6 x8).f1) ((rd_Elem x6 x8).f2)).bind fun t131 => (if t131 = true then ((op_own.f x129000 x129001 x129002 x129003 x129004 x129005 x129006 x129007 x129008 x129009 x129010 ((rd_Elem x6 x8).f0) ((rd_Elem x6 x8).f1) ((rd_Elem x6 x8).f2)).bind fun t132 => (if t132 = true then (some false) else (if x8 > 0 then (if 0 ≤ (wrap64 (x8 - 1)) then (if (wrap64 (x8 - 1)) < (x129007.length : Int) then ((op_Less.f k ((rd_Elem x129007 (wrap64 (x8 - 1))).f0) ((rd_Elem x129007 (wrap64 (x8 - 1))).f1) ((rd_Elem x129007 (wrap64 (x8 - 1))).f2) ((rd_Elem x6 x8).f0) ((rd_Elem x6 x8).f1) ((rd_Elem x6 x8).f2)).bind fun t134 => (if t134 = true then (op_gone.l0 k x6 x7 (wrap64 (x8 + 1)) x129000 x129001 x129002 x129003 x129004 x129005 x129006 x129007 x129008 x129009 x129010) else (some false))) else (none)) else (none)) else (op_gone.l0 k x6 x7 (wrap64 (x8 + 1)) x129000 x129001 x129002 x129003 x129004 x129005 x129006 x129007 x129008 x129009 x129010)))) else (some false)))) else (none)) else (none)) else (some (decide ((x129007.length : Int) ≤ 200)))
def op_gone.f (k : Nat) (a0_0 : Int) (a0_1 : Int) (a0_2 : Int) (a0_3 : Int) (a0_4 : Int) (a0_5 : Int) (a0_6 : ByteArray) (l0_7 : List (SElem)) (a0_8 : Int) (a0_9 : Int) (a0_10 : Int) : Option (Bool) := op_gone.l0 k l0_7 (l0_7.length : Int) 0 a0_0 a0_1 a0_2 a0_3 a0_4 a0_5 a0_6 l0_7 a0_8 a0_9 a0_10
def op_gone.T4 : Bool × List (List Nat × List Nat) := (true, [([], []), ([], []), ([0, 1], [0, 1]), ([2], [2]), ([3], [3]), ([4, 3, 3], [3, 4]), ([5, 3], [3, 5]), ([3, 6], [3, 6]), ([7, 5], [7]), ([8], [8]), ([8], [8]), ([9, 10, 8, 8], [8, 9, 10]), ([8, 11], [8, 11]), ([12, 11], [12]), ([13], [13]), ([14, 13], [13, 14]), ([15, 13, 13], [13, 15]), ([16], [16]), ([17, 16], [16, 17]), ([16], [16]), ([19, 16], [16, 19]), ([18, 20, 16], [16, 18, 20]), ([21, 16], [16, 21]), ([16], [16]), ([22, 23, 16, 16], [16, 22, 23]), ([24, 16], [16, 24]), ([16, 25, 13], [13, 16, 25]), ([13, 26], [13, 26])])
def op_gone.B4 : List Nat := [0, 0, 3, 7, 15, 31, 63, 127, 255, 511, 511, 2047, 4095, 8191, 16383, 32767, 65535, 131071, 262143, 131071, 655359, 2097151, 4194303, 131071, 16777215, 33554431, 67108863, 134217727]
theorem op_gone.tab4 : rtab .any (opsOf Tryd.f170 4) = op_gone.T4 := by kernel_rfl
theorem op_gone.bits4 : waitsOk op_gone.T4.2 op_gone.B4 = true := by kernel_rfl
set_option maxHeartbeats 8000000 in
set_option maxRecDepth 100000 in
theorem op_gone.calls (k : Nat) (a0_0 : Int) (a0_1 : Int) (a0_2 : Int) (a0_3 : Int) (a0_4 : Int) (a0_5 : Int) (a0_6 : ByteArray) (A0_7 : Option Addr) (c0_7 : Nat) (l0_7 : List (SElem)) (a0_8 : Int) (a0_9 : Int) (a0_10 : Int) (r : Bool) (w : World) (hr0_7 : Kd.C kElem w A0_7 l0_7.length l0_7) (hc0_7 : l0_7.length ≤ c0_7) (h : op_gone.f k a0_0 a0_1 a0_2 a0_3 a0_4 a0_5 a0_6 l0_7 a0_8 a0_9 a0_10 = some r) :
    Calls Tryd.prog 170 #[.agg #[.int .i64 a0_0, .int .i64 a0_1, .int .i64 a0_2, .int .i64 a0_3, .int .i64 a0_4, .int .i64 a0_5, .string a0_6, .slice A0_7 l0_7.length c0_7, .int .i64 a0_8, .int .i64 a0_9, .int .i64 a0_10]] w fun e w' => e = .returned (.bool r) ∧ Below w.heap.size w w' := by
  have hu31 := Tryd.underlying31
  have hu29 := Tryd.underlying29
  have HR0_7 := Aside0.mk hr0_7
  have HC0_7 := Aside0.mk hc0_7
  clear hr0_7 hc0_7
  have HB := Aside0.mk (Below.refl w.heap.size w)
  have H : (op_gone.l0 k l0_7 (l0_7.length : Int) 0 a0_0 a0_1 a0_2 a0_3 a0_4 a0_5 a0_6 l0_7 a0_8 a0_9 a0_10) = some r := h
  clear h
  have H' := Aside0.mk H
  clear H
  go_enter Tryd.func170, Tryd.ntmps170
  go_wp2_with (first | ((with_reducible refine gate_dst (N := 1) rfl ?_); refine box_event ?hg (N := 1) ?hd (cs := #[.int .i64 a0_0, .int .i64 a0_1, .int .i64 a0_2, .int .i64 a0_3, .int .i64 a0_4, .int .i64 a0_5, .string a0_6, .slice A0_7 l0_7.length c0_7, .int .i64 a0_8, .int .i64 a0_9, .int .i64 a0_10]) (t := 31) ?hr ?_; (case hd => rfl); (case hg => rfl); (case hr => first | (go_simp; done) | (go_simp; rfl)); intro gb128 hg w2 hbox hb; have n0_ := Aside0.mk (below_step (by repeat (first | (with_reducible first | exact HB.out | apply below_alloc | apply pw_below_drewN | apply below_drew1) | exact HB.out)) hb); have n1_ := Aside0.mk (hbox); have n2_ := Aside0.mk ((by rw [hg]; exact (below_size (by repeat (first | (with_reducible first | exact HB.out | apply below_alloc | apply pw_below_drewN | apply below_drew1) | exact HB.out))) : w.heap.size ≤ gb128)); have n3_ := Aside0.mk ((by rw [hg]; exact (below_size (by repeat (first | (with_reducible first | exact HB.out | apply below_alloc | apply pw_below_drewN | apply below_drew1) | exact HB.out))) : w.heap.size ≤ gb128)); clear HB; have HB := n0_; have BK128 := n1_; have GW128 := n2_; have GE128 := n3_; clear n0_ n1_ n2_ n3_; clear hb hbox hg; have hcz3_0 : w2.cell? ⟨gb128, 0, none⟩ = some (.int .i64 a0_0) := bc BK128 0; have hcz3_1 : w2.cell? ⟨gb128, 1, none⟩ = some (.int .i64 a0_1) := bc BK128 1; have hcz3_2 : w2.cell? ⟨gb128, 2, none⟩ = some (.int .i64 a0_2) := bc BK128 2; have hcz3_3 : w2.cell? ⟨gb128, 3, none⟩ = some (.int .i64 a0_3) := bc BK128 3; have hcz3_4 : w2.cell? ⟨gb128, 4, none⟩ = some (.int .i64 a0_4) := bc BK128 4; have hcz3_5 : w2.cell? ⟨gb128, 5, none⟩ = some (.int .i64 a0_5) := bc BK128 5; have hcz3_6 : w2.cell? ⟨gb128, 6, none⟩ = some (.string a0_6) := bc BK128 6; have hcz3_7 : w2.cell? ⟨gb128, 7, none⟩ = some (.slice A0_7 l0_7.length c0_7) := bc BK128 7; have hcz3_8 : w2.cell? ⟨gb128, 8, none⟩ = some (.int .i64 a0_8) := bc BK128 8; have hcz3_9 : w2.cell? ⟨gb128, 9, none⟩ = some (.int .i64 a0_9) := bc BK128 9; have hcz3_10 : w2.cell? ⟨gb128, 10, none⟩ = some (.int .i64 a0_10) := bc BK128 10; have hfz3_0 := bf BK128 0; have hfz3_1 := bf BK128 1; have hfz3_2 := bf BK128 2; have hfz3_3 := bf BK128 3; have hfz3_4 := bf BK128 4; have hfz3_5 := bf BK128 5; have hfz3_6 := bf BK128 6; have hfz3_7 := bf BK128 7; have hfz3_8 := bf BK128 8; have hfz3_9 := bf BK128 9; have hfz3_10 := bf BK128 10))
  go_loopg [8] k (fun kq v8 w' => ∃ (x8_1 : Int), v8 = .int .i64 x8_1 ∧ Aside0 (op_gone.l0 kq l0_7 (l0_7.length : Int) x8_1 a0_0 a0_1 a0_2 a0_3 a0_4 a0_5 a0_6 l0_7 a0_8 a0_9 a0_10 = some r) ∧ Aside0 (kq ≤ k) ∧ Aside0 (w'.heap[gb128]? = some (.cells #[.int .i64 a0_0, .int .i64 a0_1, .int .i64 a0_2, .int .i64 a0_3, .int .i64 a0_4, .int .i64 a0_5, .string a0_6, (.slice A0_7 l0_7.length c0_7), .int .i64 a0_8, .int .i64 a0_9, .int .i64 a0_10] 31 (0, 0))) ∧ Aside0 (Below w.heap.size w w'))
  case atStart => exact ⟨(0), (by first | rfl | (simp; done) | (simp [*]; done)), H', ⟨Nat.le_refl _⟩, ⟨by (with_reducible repeat (first | refine blk_drewN ?_ _ | refine blk_drew ?_ | refine blk_alloc ?_ _)); exact BK128.out⟩, ⟨by repeat (first | (with_reducible first | exact HB.out | apply below_alloc | apply pw_below_drewN | apply below_drew1 | refine below_set ?_ GE128.out) | exact HB.out)⟩⟩
  case round =>
    clear H'
    try clear hcz3_0; try clear hcz3_1; try clear hcz3_10; try clear hcz3_2; try clear hcz3_3; try clear hcz3_4; try clear hcz3_5; try clear hcz3_6; try clear hcz3_7; try clear hcz3_8; try clear hcz3_9; try clear hfz3_0; try clear hfz3_1; try clear hfz3_10; try clear hfz3_2; try clear hfz3_3; try clear hfz3_4; try clear hfz3_5; try clear hfz3_6; try clear hfz3_7; try clear hfz3_8; try clear hfz3_9
    obtain ⟨x8_1, rfl, HA, HK1, BK128, HB⟩ := hrel
    cases gk with
    | zero => exact absurd HA.out (by simp [op_gone.l0])
    | succ k1 =>
      have H := HA.out
      clear HA
      simp only [op_gone.l0] at H
      by_cases c4 : x8_1 < (l0_7.length : Int)
      · rw [if_pos c4] at H
        have c4b0 : decide (x8_1 < (l0_7.length : Int)) = true := decide_eq_true c4
        clear c4
        by_cases c5 : 0 ≤ x8_1
        · rw [if_pos c5] at H
          have c5b0 : decide (0 ≤ x8_1) = true := decide_eq_true c5
          clear c5
          by_cases c6 : x8_1 < (l0_7.length : Int)
          · rw [if_pos c6] at H
            have c6b0 : decide (x8_1 < (l0_7.length : Int)) = true := decide_eq_true c6
            clear c6
            by_cases c7 : (((rd_Elem l0_7 x8_1).f0) == 0 && (((rd_Elem l0_7 x8_1).f1) == 0 && (((rd_Elem l0_7 x8_1).f2) == 0))) = true
            · rw [if_pos c7] at H
              have c7b0 : (((rd_Elem l0_7 x8_1).f0) == 0 && (((rd_Elem l0_7 x8_1).f1) == 0 && (((rd_Elem l0_7 x8_1).f2) == 0))) = true := c7
              (try (have c7b1 : decide (((rd_Elem l0_7 x8_1).f0) = 0 && (((rd_Elem l0_7 x8_1).f1) == 0 && (((rd_Elem l0_7 x8_1).f2) == 0))) = true := by simpa using c7))
              (try (have c7b2 : (((rd_Elem l0_7 x8_1).f0) == 0 && (((rd_Elem l0_7 x8_1).f1) == 0 && (((rd_Elem l0_7 x8_1).f2) == 0))) = true := by simpa using c7))
              clear c7
              obtain rfl := Option.some.inj H
              have p129 : 0 ≤ (x8_1 : Int) := of_decide_eq_true (by first | (with_reducible assumption) | assumption)
              have q129 : x8_1 < (l0_7.length : Int) := of_decide_eq_true (by first | (with_reducible assumption) | assumption)
              obtain ⟨ad129, e129, hx129_0, hx129_1, hx129_2⟩ := at_Elem HR0_7.out x8_1 p129 q129
              cases e129
              replace hx129_0 := cl HB hx129_0
              replace hx129_1 := cl HB hx129_1
              replace hx129_2 := cl HB hx129_2
              replace p129 := eq_true p129
              replace q129 := eq_true q129
              try go_wp2_with (first | ((with_reducible refine gate_dst (N := 4) rfl ?_); refine box_event ?hg (N := 4) ?hd (cs := #[.int .i64 0, .int .i64 0, .int .i64 0]) (t := 29) ?hr ?_; (case hd => rfl); (case hg => rfl); (case hr => first | (go_simp; done) | (go_simp; rfl)); intro gb130 hg w8 hbox hb; have n0_ := Aside0.mk (blk_below (g := gb128) (o := .cells #[.int .i64 a0_0, .int .i64 a0_1, .int .i64 a0_2, .int .i64 a0_3, .int .i64 a0_4, .int .i64 a0_5, .string a0_6, .slice (some ad129) l0_7.length c0_7, .int .i64 a0_8, .int .i64 a0_9, .int .i64 a0_10] 31 (0, 0)) (by (with_reducible repeat (first | refine blk_drewN ?_ _ | refine blk_drew ?_ | refine blk_alloc ?_ _)); exact BK128.out) hb); have n1_ := Aside0.mk (below_step (by repeat (first | (with_reducible first | exact HB.out | apply below_alloc | apply pw_below_drewN | apply below_drew1 | refine below_set ?_ GE128.out) | exact HB.out)) hb); have n2_ := Aside0.mk (hbox); have n3_ := Aside0.mk ((by rw [hg]; exact (below_size (by repeat (first | (with_reducible first | exact HB.out | apply below_alloc | apply pw_below_drewN | apply below_drew1 | refine below_set ?_ GE128.out) | exact HB.out))) : w.heap.size ≤ gb130)); have n4_ := Aside0.mk ((by rw [hg]; exact (below_size (by repeat (first | (with_reducible first | exact HB.out | apply below_alloc | apply pw_below_drewN | apply below_drew1 | refine below_set ?_ GE128.out) | exact HB.out))) : w.heap.size ≤ gb130)); have n5_ := Aside0.mk ((by rw [hg]; exact Nat.ne_of_lt (blk_lt (g := gb128) (o := .cells #[.int .i64 a0_0, .int .i64 a0_1, .int .i64 a0_2, .int .i64 a0_3, .int .i64 a0_4, .int .i64 a0_5, .string a0_6, .slice (some ad129) l0_7.length c0_7, .int .i64 a0_8, .int .i64 a0_9, .int .i64 a0_10] 31 (0, 0)) (by (with_reducible repeat (first | refine blk_drewN ?_ _ | refine blk_drew ?_ | refine blk_alloc ?_ _)); exact BK128.out)) : gb128 ≠ gb130)); have n6_ := Aside0.mk ((by rw [hg]; exact Nat.ne_of_gt (blk_lt (g := gb128) (o := .cells #[.int .i64 a0_0, .int .i64 a0_1, .int .i64 a0_2, .int .i64 a0_3, .int .i64 a0_4, .int .i64 a0_5, .string a0_6, .slice (some ad129) l0_7.length c0_7, .int .i64 a0_8, .int .i64 a0_9, .int .i64 a0_10] 31 (0, 0)) (by (with_reducible repeat (first | refine blk_drewN ?_ _ | refine blk_drew ?_ | refine blk_alloc ?_ _)); exact BK128.out)) : gb130 ≠ gb128)); clear BK128; clear HB; have BK128 := n0_; have HB := n1_; have BK130 := n2_; have GW130 := n3_; have GE130 := n4_; have NB128_130 := n5_; have NB130_128 := n6_; clear n0_ n1_ n2_ n3_ n4_ n5_ n6_; clear hb hbox hg; have hnb9 := NB130_128.out; have hnc9 := NB128_130.out; have hcz10_0 : w8.cell? ⟨gb130, 0, none⟩ = some (.int .i64 0) := bc BK130 0; have hcz10_1 : w8.cell? ⟨gb130, 1, none⟩ = some (.int .i64 0) := bc BK130 1; have hcz10_2 : w8.cell? ⟨gb130, 2, none⟩ = some (.int .i64 0) := bc BK130 2; have hfz10_0 := bf BK130 0; have hfz10_1 := bf BK130 1; have hfz10_2 := bf BK130 2))
              have n0_ : Aside0 ((((w8.setCell ⟨gb130, 0, none⟩ (.int .i64 ((rd_Elem l0_7 x8_1).f0))).setCell ⟨gb130, 1, none⟩ (.int .i64 ((rd_Elem l0_7 x8_1).f1))).setCell ⟨gb130, 2, none⟩ (.int .i64 ((rd_Elem l0_7 x8_1).f2))).heap[gb128]? = some (.cells #[.int .i64 a0_0, .int .i64 a0_1, .int .i64 a0_2, .int .i64 a0_3, .int .i64 a0_4, .int .i64 a0_5, .string a0_6, .slice (some ad129) l0_7.length c0_7, .int .i64 a0_8, .int .i64 a0_9, .int .i64 a0_10] 31 (0, 0))) := ⟨by (with_reducible repeat (first | refine blk_drewN ?_ _ | refine blk_drew ?_ | refine blk_alloc ?_ _)); refine blk_far ?_ NB128_130.out _; (with_reducible repeat (first | refine blk_drewN ?_ _ | refine blk_drew ?_ | refine blk_alloc ?_ _)); refine blk_far ?_ NB128_130.out _; (with_reducible repeat (first | refine blk_drewN ?_ _ | refine blk_drew ?_ | refine blk_alloc ?_ _)); refine blk_far ?_ NB128_130.out _; (with_reducible repeat (first | refine blk_drewN ?_ _ | refine blk_drew ?_ | refine blk_alloc ?_ _)); exact BK128.out⟩
              have n1_ : Aside0 ((((w8.setCell ⟨gb130, 0, none⟩ (.int .i64 ((rd_Elem l0_7 x8_1).f0))).setCell ⟨gb130, 1, none⟩ (.int .i64 ((rd_Elem l0_7 x8_1).f1))).setCell ⟨gb130, 2, none⟩ (.int .i64 ((rd_Elem l0_7 x8_1).f2))).heap[gb130]? = some (.cells #[.int .i64 ((rd_Elem l0_7 x8_1).f0), .int .i64 ((rd_Elem l0_7 x8_1).f1), .int .i64 ((rd_Elem l0_7 x8_1).f2)] 29 (0, 0))) := ⟨by (with_reducible repeat (first | refine blk_drewN ?_ _ | refine blk_drew ?_ | refine blk_alloc ?_ _)); refine blk_put (cs := #[.int .i64 ((rd_Elem l0_7 x8_1).f0), .int .i64 ((rd_Elem l0_7 x8_1).f1), .int .i64 0]) ?_ 2 _ rfl; (with_reducible repeat (first | refine blk_drewN ?_ _ | refine blk_drew ?_ | refine blk_alloc ?_ _)); refine blk_put (cs := #[.int .i64 ((rd_Elem l0_7 x8_1).f0), .int .i64 0, .int .i64 0]) ?_ 1 _ rfl; (with_reducible repeat (first | refine blk_drewN ?_ _ | refine blk_drew ?_ | refine blk_alloc ?_ _)); refine blk_put (cs := #[.int .i64 0, .int .i64 0, .int .i64 0]) ?_ 0 _ rfl; (with_reducible repeat (first | refine blk_drewN ?_ _ | refine blk_drew ?_ | refine blk_alloc ?_ _)); exact BK130.out⟩
              have n2_ : Aside0 (Below w.heap.size w (((w8.setCell ⟨gb130, 0, none⟩ (.int .i64 ((rd_Elem l0_7 x8_1).f0))).setCell ⟨gb130, 1, none⟩ (.int .i64 ((rd_Elem l0_7 x8_1).f1))).setCell ⟨gb130, 2, none⟩ (.int .i64 ((rd_Elem l0_7 x8_1).f2)))) := ⟨by repeat (first | (with_reducible first | exact HB.out | apply below_alloc | apply pw_below_drewN | apply below_drew1 | refine below_set ?_ GE128.out | refine below_set ?_ GE130.out) | exact HB.out)⟩
              (try clear BK128)
              (try clear BK130)
              (try clear HB)
              generalize (((w8.setCell ⟨gb130, 0, none⟩ (.int .i64 ((rd_Elem l0_7 x8_1).f0))).setCell ⟨gb130, 1, none⟩ (.int .i64 ((rd_Elem l0_7 x8_1).f1))).setCell ⟨gb130, 2, none⟩ (.int .i64 ((rd_Elem l0_7 x8_1).f2))) = w11 at n0_ n1_ n2_ ⊢
              have BK128 := n0_
              have BK130 := n1_
              have HB := n2_
              clear n0_ n1_ n2_
              have n0_ := Aside0.mk (blk_drew BK128.out)
              have n1_ := Aside0.mk (blk_drew BK130.out)
              have n2_ := Aside0.mk (below_drew1 HB.out)
              clear BK128
              clear BK130
              clear HB
              have BK128 := n0_
              have BK130 := n1_
              have HB := n2_
              clear n0_ n1_ n2_
              refine stP (fun w' => w'.cell? ⟨gb130, 0, none⟩ = some (.int .i64 ((rd_Elem l0_7 x8_1).f0)) ∧ w'.cell? ⟨gb130, 1, none⟩ = some (.int .i64 ((rd_Elem l0_7 x8_1).f1)) ∧ w'.cell? ⟨gb130, 2, none⟩ = some (.int .i64 ((rd_Elem l0_7 x8_1).f2))) 28 ⟨bc BK130 0, bc BK130 1, bc BK130 2⟩ (h := fun hHeld => ?_); refine with_tabW op_gone.tab4 op_gone.bits4 (fun HT_ HW_ => ?_)
              generalize w11.drew = w12 at BK128 BK130 HB hHeld ⊢
              refine pu HT_ 1 14 2 (h := ?_)
              refine tk HT_ HW_ hHeld 0 13 3 (h := ?_)
              refine pu HT_ 2 15 7 (h := ?_)
              refine pu HT_ 3 16 15 (h := ?_)
              refine off HT_ 4 17 31 (h := ?_)
              refine off HT_ 5 18 63 (h := ?_)
              refine off HT_ 6 19 127 (h := ?_)
              refine pu HT_ 7 20 255 (h := ?_)
              refine pu HT_ 8 21 511 (h := ?_)
              refine off HT_ 9 22 1023 (h := ?_)
              refine off HT_ 10 23 2047 (h := ?_)
              refine off HT_ 11 24 4095 (h := ?_)
              refine pu HT_ 12 25 8191 (h := ?_)
              refine pu HT_ 13 26 16383 (h := ?_)
              refine off HT_ 14 27 32767 (h := ?_)
              refine off HT_ 15 28 65535 (h := ?_)
              refine off HT_ 16 29 131071 (h := ?_)
              refine off HT_ 17 30 262143 (h := ?_)
              refine off HT_ 18 31 524287 (h := ?_)
              refine off HT_ 19 32 1048575 (h := ?_)
              refine off HT_ 20 33 2097151 (h := ?_)
              refine off HT_ 21 34 4194303 (h := ?_)
              refine off HT_ 22 35 8388607 (h := ?_)
              refine off HT_ 23 36 16777215 (h := ?_)
              refine off HT_ 24 37 33554431 (h := ?_)
              refine off HT_ 25 38 67108863 (h := ?_)
              refine off HT_ 26 39 134217727 (h := ?_)
              refine pu HT_ 27 40 268435455 (h := ?_)
              refine dn HT_ (h := ?_)
              try go_wp2
              go_ret
              exact ⟨by first | rfl | (simp [errW_none, errW_some] <;> rfl) | (simp [*, errW_none, errW_some] <;> rfl), by repeat (first | (with_reducible first | exact HB.out | apply below_alloc | apply pw_below_drewN | apply below_drew1 | refine below_set ?_ GE128.out | refine below_set ?_ GE130.out) | exact HB.out)⟩
            rw [if_neg c7] at H
            have c7b0 : (((rd_Elem l0_7 x8_1).f0) == 0 && (((rd_Elem l0_7 x8_1).f1) == 0 && (((rd_Elem l0_7 x8_1).f2) == 0))) = false := by simpa using c7
            (try (have c7b1 : decide (((rd_Elem l0_7 x8_1).f0) = 0 && (((rd_Elem l0_7 x8_1).f1) == 0 && (((rd_Elem l0_7 x8_1).f2) == 0))) = false := by simpa using c7))
            (try (have c7b2 : (((rd_Elem l0_7 x8_1).f0) == 0 && (((rd_Elem l0_7 x8_1).f1) == 0 && (((rd_Elem l0_7 x8_1).f2) == 0))) = false := by simpa using c7))
            (try (have c7b3 : ¬ (((rd_Elem l0_7 x8_1).f0) = 0 && (((rd_Elem l0_7 x8_1).f1) == 0 && (((rd_Elem l0_7 x8_1).f2) == 0))) := by simpa using c7))
            clear c7
            replace H := Option.bind_eq_some_iff.mp H
            obtain ⟨t131, A130, H⟩ := H
            replace H : (if t131 = true then ((op_own.f a0_0 a0_1 a0_2 a0_3 a0_4 a0_5 a0_6 l0_7 a0_8 a0_9 a0_10 ((rd_Elem l0_7 x8_1).f0) ((rd_Elem l0_7 x8_1).f1) ((rd_Elem l0_7 x8_1).f2)).bind fun t132 => (if t132 = true then (some false) else (if x8_1 > 0 then (if 0 ≤ (wrap64 (x8_1 - 1)) then (if (wrap64 (x8_1 - 1)) < (l0_7.length : Int) then ((op_Less.f k1 ((rd_Elem l0_7 (wrap64 (x8_1 - 1))).f0) ((rd_Elem l0_7 (wrap64 (x8_1 - 1))).f1) ((rd_Elem l0_7 (wrap64 (x8_1 - 1))).f2) ((rd_Elem l0_7 x8_1).f0) ((rd_Elem l0_7 x8_1).f1) ((rd_Elem l0_7 x8_1).f2)).bind fun t134 => (if t134 = true then (op_gone.l0 k1 l0_7 (l0_7.length : Int) (wrap64 (x8_1 + 1)) a0_0 a0_1 a0_2 a0_3 a0_4 a0_5 a0_6 l0_7 a0_8 a0_9 a0_10) else (some false))) else (none)) else (none)) else (op_gone.l0 k1 l0_7 (l0_7.length : Int) (wrap64 (x8_1 + 1)) a0_0 a0_1 a0_2 a0_3 a0_4 a0_5 a0_6 l0_7 a0_8 a0_9 a0_10)))) else (some false)) = some r := H
            have A13 := Aside0.mk A130
            clear A130
            by_cases c14 : t131 = true
            · subst c14
              have H1 : ((op_own.f a0_0 a0_1 a0_2 a0_3 a0_4 a0_5 a0_6 l0_7 a0_8 a0_9 a0_10 ((rd_Elem l0_7 x8_1).f0) ((rd_Elem l0_7 x8_1).f1) ((rd_Elem l0_7 x8_1).f2)).bind fun t132 => (if t132 = true then (some false) else (if x8_1 > 0 then (if 0 ≤ (wrap64 (x8_1 - 1)) then (if (wrap64 (x8_1 - 1)) < (l0_7.length : Int) then ((op_Less.f k1 ((rd_Elem l0_7 (wrap64 (x8_1 - 1))).f0) ((rd_Elem l0_7 (wrap64 (x8_1 - 1))).f1) ((rd_Elem l0_7 (wrap64 (x8_1 - 1))).f2) ((rd_Elem l0_7 x8_1).f0) ((rd_Elem l0_7 x8_1).f1) ((rd_Elem l0_7 x8_1).f2)).bind fun t134 => (if t134 = true then (op_gone.l0 k1 l0_7 (l0_7.length : Int) (wrap64 (x8_1 + 1)) a0_0 a0_1 a0_2 a0_3 a0_4 a0_5 a0_6 l0_7 a0_8 a0_9 a0_10) else (some false))) else (none)) else (none)) else (op_gone.l0 k1 l0_7 (l0_7.length : Int) (wrap64 (x8_1 + 1)) a0_0 a0_1 a0_2 a0_3 a0_4 a0_5 a0_6 l0_7 a0_8 a0_9 a0_10)))) = some r := by rw [if_pos rfl] at H; exact H
              clear H
              have H := H1
              clear H1
              replace H := Option.bind_eq_some_iff.mp H
              obtain ⟨t132, A150, H⟩ := H
              replace H : (if t132 = true then (some false) else (if x8_1 > 0 then (if 0 ≤ (wrap64 (x8_1 - 1)) then (if (wrap64 (x8_1 - 1)) < (l0_7.length : Int) then ((op_Less.f k1 ((rd_Elem l0_7 (wrap64 (x8_1 - 1))).f0) ((rd_Elem l0_7 (wrap64 (x8_1 - 1))).f1) ((rd_Elem l0_7 (wrap64 (x8_1 - 1))).f2) ((rd_Elem l0_7 x8_1).f0) ((rd_Elem l0_7 x8_1).f1) ((rd_Elem l0_7 x8_1).f2)).bind fun t134 => (if t134 = true then (op_gone.l0 k1 l0_7 (l0_7.length : Int) (wrap64 (x8_1 + 1)) a0_0 a0_1 a0_2 a0_3 a0_4 a0_5 a0_6 l0_7 a0_8 a0_9 a0_10) else (some false))) else (none)) else (none)) else (op_gone.l0 k1 l0_7 (l0_7.length : Int) (wrap64 (x8_1 + 1)) a0_0 a0_1 a0_2 a0_3 a0_4 a0_5 a0_6 l0_7 a0_8 a0_9 a0_10))) = some r := H
              have A15 := Aside0.mk A150
              clear A150
              by_cases c16 : t132 = true
              · subst c16
                have H1 : (some false) = some r := by rw [if_pos rfl] at H; exact H
                clear H
                have H := H1
                clear H1
                obtain rfl := Option.some.inj H
                have p129 : 0 ≤ (x8_1 : Int) := of_decide_eq_true (by first | (with_reducible assumption) | assumption)
                have q129 : x8_1 < (l0_7.length : Int) := of_decide_eq_true (by first | (with_reducible assumption) | assumption)
                obtain ⟨ad129, e129, hx129_0, hx129_1, hx129_2⟩ := at_Elem HR0_7.out x8_1 p129 q129
                cases e129
                replace hx129_0 := cl HB hx129_0
                replace hx129_1 := cl HB hx129_1
                replace hx129_2 := cl HB hx129_2
                replace p129 := eq_true p129
                replace q129 := eq_true q129
                try go_wp2_with (first | ((with_reducible refine gate_dst (N := 4) rfl ?_); refine box_event ?hg (N := 4) ?hd (cs := #[.int .i64 0, .int .i64 0, .int .i64 0]) (t := 29) ?hr ?_; (case hd => rfl); (case hg => rfl); (case hr => first | (go_simp; done) | (go_simp; rfl)); intro gb130 hg w17 hbox hb; have n0_ := Aside0.mk (blk_below (g := gb128) (o := .cells #[.int .i64 a0_0, .int .i64 a0_1, .int .i64 a0_2, .int .i64 a0_3, .int .i64 a0_4, .int .i64 a0_5, .string a0_6, .slice (some ad129) l0_7.length c0_7, .int .i64 a0_8, .int .i64 a0_9, .int .i64 a0_10] 31 (0, 0)) (by (with_reducible repeat (first | refine blk_drewN ?_ _ | refine blk_drew ?_ | refine blk_alloc ?_ _)); exact BK128.out) hb); have n1_ := Aside0.mk (below_step (by repeat (first | (with_reducible first | exact HB.out | apply below_alloc | apply pw_below_drewN | apply below_drew1 | refine below_set ?_ GE128.out) | exact HB.out)) hb); have n2_ := Aside0.mk (hbox); have n3_ := Aside0.mk ((by rw [hg]; exact (below_size (by repeat (first | (with_reducible first | exact HB.out | apply below_alloc | apply pw_below_drewN | apply below_drew1 | refine below_set ?_ GE128.out) | exact HB.out))) : w.heap.size ≤ gb130)); have n4_ := Aside0.mk ((by rw [hg]; exact (below_size (by repeat (first | (with_reducible first | exact HB.out | apply below_alloc | apply pw_below_drewN | apply below_drew1 | refine below_set ?_ GE128.out) | exact HB.out))) : w.heap.size ≤ gb130)); have n5_ := Aside0.mk ((by rw [hg]; exact Nat.ne_of_lt (blk_lt (g := gb128) (o := .cells #[.int .i64 a0_0, .int .i64 a0_1, .int .i64 a0_2, .int .i64 a0_3, .int .i64 a0_4, .int .i64 a0_5, .string a0_6, .slice (some ad129) l0_7.length c0_7, .int .i64 a0_8, .int .i64 a0_9, .int .i64 a0_10] 31 (0, 0)) (by (with_reducible repeat (first | refine blk_drewN ?_ _ | refine blk_drew ?_ | refine blk_alloc ?_ _)); exact BK128.out)) : gb128 ≠ gb130)); have n6_ := Aside0.mk ((by rw [hg]; exact Nat.ne_of_gt (blk_lt (g := gb128) (o := .cells #[.int .i64 a0_0, .int .i64 a0_1, .int .i64 a0_2, .int .i64 a0_3, .int .i64 a0_4, .int .i64 a0_5, .string a0_6, .slice (some ad129) l0_7.length c0_7, .int .i64 a0_8, .int .i64 a0_9, .int .i64 a0_10] 31 (0, 0)) (by (with_reducible repeat (first | refine blk_drewN ?_ _ | refine blk_drew ?_ | refine blk_alloc ?_ _)); exact BK128.out)) : gb130 ≠ gb128)); clear BK128; clear HB; have BK128 := n0_; have HB := n1_; have BK130 := n2_; have GW130 := n3_; have GE130 := n4_; have NB128_130 := n5_; have NB130_128 := n6_; clear n0_ n1_ n2_ n3_ n4_ n5_ n6_; clear hb hbox hg; have hnb18 := NB130_128.out; have hnc18 := NB128_130.out; have hcz19_0 : w17.cell? ⟨gb130, 0, none⟩ = some (.int .i64 0) := bc BK130 0; have hcz19_1 : w17.cell? ⟨gb130, 1, none⟩ = some (.int .i64 0) := bc BK130 1; have hcz19_2 : w17.cell? ⟨gb130, 2, none⟩ = some (.int .i64 0) := bc BK130 2; have hfz19_0 := bf BK130 0; have hfz19_1 := bf BK130 1; have hfz19_2 := bf BK130 2))
                have n0_ : Aside0 ((((w17.setCell ⟨gb130, 0, none⟩ (.int .i64 ((rd_Elem l0_7 x8_1).f0))).setCell ⟨gb130, 1, none⟩ (.int .i64 ((rd_Elem l0_7 x8_1).f1))).setCell ⟨gb130, 2, none⟩ (.int .i64 ((rd_Elem l0_7 x8_1).f2))).heap[gb128]? = some (.cells #[.int .i64 a0_0, .int .i64 a0_1, .int .i64 a0_2, .int .i64 a0_3, .int .i64 a0_4, .int .i64 a0_5, .string a0_6, .slice (some ad129) l0_7.length c0_7, .int .i64 a0_8, .int .i64 a0_9, .int .i64 a0_10] 31 (0, 0))) := ⟨by (with_reducible repeat (first | refine blk_drewN ?_ _ | refine blk_drew ?_ | refine blk_alloc ?_ _)); refine blk_far ?_ NB128_130.out _; (with_reducible repeat (first | refine blk_drewN ?_ _ | refine blk_drew ?_ | refine blk_alloc ?_ _)); refine blk_far ?_ NB128_130.out _; (with_reducible repeat (first | refine blk_drewN ?_ _ | refine blk_drew ?_ | refine blk_alloc ?_ _)); refine blk_far ?_ NB128_130.out _; (with_reducible repeat (first | refine blk_drewN ?_ _ | refine blk_drew ?_ | refine blk_alloc ?_ _)); exact BK128.out⟩
                have n1_ : Aside0 ((((w17.setCell ⟨gb130, 0, none⟩ (.int .i64 ((rd_Elem l0_7 x8_1).f0))).setCell ⟨gb130, 1, none⟩ (.int .i64 ((rd_Elem l0_7 x8_1).f1))).setCell ⟨gb130, 2, none⟩ (.int .i64 ((rd_Elem l0_7 x8_1).f2))).heap[gb130]? = some (.cells #[.int .i64 ((rd_Elem l0_7 x8_1).f0), .int .i64 ((rd_Elem l0_7 x8_1).f1), .int .i64 ((rd_Elem l0_7 x8_1).f2)] 29 (0, 0))) := ⟨by (with_reducible repeat (first | refine blk_drewN ?_ _ | refine blk_drew ?_ | refine blk_alloc ?_ _)); refine blk_put (cs := #[.int .i64 ((rd_Elem l0_7 x8_1).f0), .int .i64 ((rd_Elem l0_7 x8_1).f1), .int .i64 0]) ?_ 2 _ rfl; (with_reducible repeat (first | refine blk_drewN ?_ _ | refine blk_drew ?_ | refine blk_alloc ?_ _)); refine blk_put (cs := #[.int .i64 ((rd_Elem l0_7 x8_1).f0), .int .i64 0, .int .i64 0]) ?_ 1 _ rfl; (with_reducible repeat (first | refine blk_drewN ?_ _ | refine blk_drew ?_ | refine blk_alloc ?_ _)); refine blk_put (cs := #[.int .i64 0, .int .i64 0, .int .i64 0]) ?_ 0 _ rfl; (with_reducible repeat (first | refine blk_drewN ?_ _ | refine blk_drew ?_ | refine blk_alloc ?_ _)); exact BK130.out⟩
                have n2_ : Aside0 (Below w.heap.size w (((w17.setCell ⟨gb130, 0, none⟩ (.int .i64 ((rd_Elem l0_7 x8_1).f0))).setCell ⟨gb130, 1, none⟩ (.int .i64 ((rd_Elem l0_7 x8_1).f1))).setCell ⟨gb130, 2, none⟩ (.int .i64 ((rd_Elem l0_7 x8_1).f2)))) := ⟨by repeat (first | (with_reducible first | exact HB.out | apply below_alloc | apply pw_below_drewN | apply below_drew1 | refine below_set ?_ GE128.out | refine below_set ?_ GE130.out) | exact HB.out)⟩
                (try clear BK128)
                (try clear BK130)
                (try clear HB)
                generalize (((w17.setCell ⟨gb130, 0, none⟩ (.int .i64 ((rd_Elem l0_7 x8_1).f0))).setCell ⟨gb130, 1, none⟩ (.int .i64 ((rd_Elem l0_7 x8_1).f1))).setCell ⟨gb130, 2, none⟩ (.int .i64 ((rd_Elem l0_7 x8_1).f2))) = w20 at n0_ n1_ n2_ ⊢
                have BK128 := n0_
                have BK130 := n1_
                have HB := n2_
                clear n0_ n1_ n2_
                have n0_ := Aside0.mk (blk_drew BK128.out)
                have n1_ := Aside0.mk (blk_drew BK130.out)
                have n2_ := Aside0.mk (below_drew1 HB.out)
                clear BK128
                clear BK130
                clear HB
                have BK128 := n0_
                have BK130 := n1_
                have HB := n2_
                clear n0_ n1_ n2_
                refine stP (fun w' => w'.cell? ⟨gb130, 0, none⟩ = some (.int .i64 ((rd_Elem l0_7 x8_1).f0)) ∧ w'.cell? ⟨gb130, 1, none⟩ = some (.int .i64 ((rd_Elem l0_7 x8_1).f1)) ∧ w'.cell? ⟨gb130, 2, none⟩ = some (.int .i64 ((rd_Elem l0_7 x8_1).f2)) ∧ w'.cell? ⟨gb128, 0, none⟩ = some (.int .i64 a0_0) ∧ w'.cell? ⟨gb128, 1, none⟩ = some (.int .i64 a0_1) ∧ w'.cell? ⟨gb128, 2, none⟩ = some (.int .i64 a0_2) ∧ w'.cell? ⟨gb128, 3, none⟩ = some (.int .i64 a0_3) ∧ w'.cell? ⟨gb128, 4, none⟩ = some (.int .i64 a0_4) ∧ w'.cell? ⟨gb128, 5, none⟩ = some (.int .i64 a0_5) ∧ w'.cell? ⟨gb128, 6, none⟩ = some (.string a0_6) ∧ w'.cell? ⟨gb128, 7, none⟩ = some (.slice (some ad129) l0_7.length c0_7) ∧ w'.cell? ⟨gb128, 8, none⟩ = some (.int .i64 a0_8) ∧ w'.cell? ⟨gb128, 9, none⟩ = some (.int .i64 a0_9) ∧ w'.cell? ⟨gb128, 10, none⟩ = some (.int .i64 a0_10)) 28 ⟨bc BK130 0, bc BK130 1, bc BK130 2, bc BK128 0, bc BK128 1, bc BK128 2, bc BK128 3, bc BK128 4, bc BK128 5, bc BK128 6, bc BK128 7, bc BK128 8, bc BK128 9, bc BK128 10⟩ (h := fun hHeld => ?_); refine with_tabW op_gone.tab4 op_gone.bits4 (fun HT_ HW_ => ?_)
                generalize w20.drew = w21 at BK128 BK130 HB hHeld ⊢
                refine pu HT_ 1 14 2 (h := ?_)
                refine tk HT_ HW_ hHeld 0 13 3 (h := ?_)
                refine pu HT_ 2 15 7 (h := ?_)
                refine pu HT_ 3 16 15 (h := ?_)
                refine tk HT_ HW_ hHeld 4 17 31 (h := ?_)
                refine on HT_ 5 (some 18) 63 (h := fun K hK => ?_)
                refine goes_ Tryd.func119 (by kernel_rfl) rfl #[.agg #[.int .i64 ((rd_Elem l0_7 x8_1).f0), .int .i64 ((rd_Elem l0_7 x8_1).f1), .int .i64 ((rd_Elem l0_7 x8_1).f2)]] (by rfl) rfl rfl (by (try simp only [List.map_toArray, List.map_cons, List.map_nil]); first | done | rfl | (simp only [List.length_drop, List.length_take]; rfl)) ?_
                with_reducible refine (op_IsElem.calls ((rd_Elem l0_7 x8_1).f0) ((rd_Elem l0_7 x8_1).f1) ((rd_Elem l0_7 x8_1).f2) true _ A13.out).mono ?_
                rintro e w22 ⟨rfl, hb⟩
                refine ⟨_, rfl, ?_⟩
                have n0_ := Aside0.mk (blk_below (g := gb128) (o := .cells #[.int .i64 a0_0, .int .i64 a0_1, .int .i64 a0_2, .int .i64 a0_3, .int .i64 a0_4, .int .i64 a0_5, .string a0_6, .slice (some ad129) l0_7.length c0_7, .int .i64 a0_8, .int .i64 a0_9, .int .i64 a0_10] 31 (0, 0)) (by (with_reducible repeat (first | refine blk_drewN ?_ _ | refine blk_drew ?_ | refine blk_alloc ?_ _)); exact BK128.out) hb)
                have n1_ := Aside0.mk (blk_below (g := gb130) (o := .cells #[.int .i64 ((rd_Elem l0_7 x8_1).f0), .int .i64 ((rd_Elem l0_7 x8_1).f1), .int .i64 ((rd_Elem l0_7 x8_1).f2)] 29 (0, 0)) (by (with_reducible repeat (first | refine blk_drewN ?_ _ | refine blk_drew ?_ | refine blk_alloc ?_ _)); exact BK130.out) hb)
                have n2_ := Aside0.mk (below_step (by repeat (first | (with_reducible first | exact HB.out | apply below_alloc | apply pw_below_drewN | apply below_drew1 | refine below_set ?_ GE128.out | refine below_set ?_ GE130.out) | exact HB.out)) hb)
                clear BK128
                clear BK130
                clear HB
                have BK128 := n0_
                have BK130 := n1_
                have HB := n2_
                clear n0_ n1_ n2_
                (try clear hb)
                (try clear hb2)
                (try clear hk)
                (try clear hi)
                refine hK.out _ _ ⟨bc BK130 0, bc BK130 1, bc BK130 2, bc BK128 0, bc BK128 1, bc BK128 2, bc BK128 3, bc BK128 4, bc BK128 5, bc BK128 6, bc BK128 7, bc BK128 8, bc BK128 9, bc BK128 10⟩ (fun hHeld => ?_)
                clear hK K
                refine nm (h := ?_)
                refine pu HT_ 6 19 127 (h := ?_)
                refine pu HT_ 7 20 255 (h := ?_)
                refine pu HT_ 8 21 511 (h := ?_)
                refine tk HT_ HW_ hHeld 9 22 1023 (h := ?_)
                refine tk HT_ HW_ hHeld 10 23 2047 (h := ?_)
                refine on HT_ 11 (some 24) 4095 (h := fun K hK => ?_)
                refine goes_ Tryd.func168 (by kernel_rfl) rfl #[.agg #[.int .i64 a0_0, .int .i64 a0_1, .int .i64 a0_2, .int .i64 a0_3, .int .i64 a0_4, .int .i64 a0_5, .string a0_6, .slice (some ad129) l0_7.length c0_7, .int .i64 a0_8, .int .i64 a0_9, .int .i64 a0_10], .agg #[.int .i64 ((rd_Elem l0_7 x8_1).f0), .int .i64 ((rd_Elem l0_7 x8_1).f1), .int .i64 ((rd_Elem l0_7 x8_1).f2)]] (by rfl) rfl rfl (by (try simp only [List.map_toArray, List.map_cons, List.map_nil]); first | done | rfl | (simp only [List.length_drop, List.length_take]; rfl)) ?_
                with_reducible refine (op_own.calls a0_0 a0_1 a0_2 a0_3 a0_4 a0_5 a0_6 _ _ l0_7 a0_8 a0_9 a0_10 ((rd_Elem l0_7 x8_1).f0) ((rd_Elem l0_7 x8_1).f1) ((rd_Elem l0_7 x8_1).f2) true _ ?side1 ?side2 A15.out).mono ?_
                (case side1 => repeat (first | exact (Kd.C_below HR0_7.out HB.out) | (with_reducible refine Kd.C_alloc ?_ _) | (with_reducible refine Kd.C_drewN ?_ _) | (with_reducible refine Kd.C_drew ?_)))
                (case side2 => exact HC0_7.out)
                rintro e w23 ⟨rfl, hb⟩
                refine ⟨_, rfl, ?_⟩
                have n0_ := Aside0.mk (blk_below (g := gb128) (o := .cells #[.int .i64 a0_0, .int .i64 a0_1, .int .i64 a0_2, .int .i64 a0_3, .int .i64 a0_4, .int .i64 a0_5, .string a0_6, .slice (some ad129) l0_7.length c0_7, .int .i64 a0_8, .int .i64 a0_9, .int .i64 a0_10] 31 (0, 0)) (by (with_reducible repeat (first | refine blk_drewN ?_ _ | refine blk_drew ?_ | refine blk_alloc ?_ _)); exact BK128.out) hb)
                have n1_ := Aside0.mk (blk_below (g := gb130) (o := .cells #[.int .i64 ((rd_Elem l0_7 x8_1).f0), .int .i64 ((rd_Elem l0_7 x8_1).f1), .int .i64 ((rd_Elem l0_7 x8_1).f2)] 29 (0, 0)) (by (with_reducible repeat (first | refine blk_drewN ?_ _ | refine blk_drew ?_ | refine blk_alloc ?_ _)); exact BK130.out) hb)
                have n2_ := Aside0.mk (below_step (by repeat (first | (with_reducible first | exact HB.out | apply below_alloc | apply pw_below_drewN | apply below_drew1 | refine below_set ?_ GE128.out | refine below_set ?_ GE130.out) | exact HB.out)) hb)
                clear BK128
                clear BK130
                clear HB
                have BK128 := n0_
                have BK130 := n1_
                have HB := n2_
                clear n0_ n1_ n2_
                (try clear hb)
                (try clear hb2)
                (try clear hk)
                (try clear hi)
                refine hK.out _ _ ⟨bc BK130 0, bc BK130 1, bc BK130 2, bc BK128 0, bc BK128 1, bc BK128 2, bc BK128 3, bc BK128 4, bc BK128 5, bc BK128 6, bc BK128 7, bc BK128 8, bc BK128 9, bc BK128 10⟩ (fun hHeld => ?_)
                clear hK K
                refine nm (h := ?_)
                refine pu HT_ 12 25 8191 (h := ?_)
                refine pu HT_ 13 26 16383 (h := ?_)
                refine off HT_ 14 27 32767 (h := ?_)
                refine off HT_ 15 28 65535 (h := ?_)
                refine off HT_ 16 29 131071 (h := ?_)
                refine off HT_ 17 30 262143 (h := ?_)
                refine off HT_ 18 31 524287 (h := ?_)
                refine off HT_ 19 32 1048575 (h := ?_)
                refine off HT_ 20 33 2097151 (h := ?_)
                refine off HT_ 21 34 4194303 (h := ?_)
                refine off HT_ 22 35 8388607 (h := ?_)
                refine off HT_ 23 36 16777215 (h := ?_)
                refine off HT_ 24 37 33554431 (h := ?_)
                refine off HT_ 25 38 67108863 (h := ?_)
                refine off HT_ 26 39 134217727 (h := ?_)
                refine pu HT_ 27 40 268435455 (h := ?_)
                refine dn HT_ (h := ?_)
                try go_wp2
                go_ret
                exact ⟨by first | rfl | (simp [errW_none, errW_some] <;> rfl) | (simp [*, errW_none, errW_some] <;> rfl), by repeat (first | (with_reducible first | exact HB.out | apply below_alloc | apply pw_below_drewN | apply below_drew1 | refine below_set ?_ GE128.out | refine below_set ?_ GE130.out) | exact HB.out)⟩
              replace c16 := Bool.eq_false_iff.mpr c16
              subst c16
              have H1 : (if x8_1 > 0 then (if 0 ≤ (wrap64 (x8_1 - 1)) then (if (wrap64 (x8_1 - 1)) < (l0_7.length : Int) then ((op_Less.f k1 ((rd_Elem l0_7 (wrap64 (x8_1 - 1))).f0) ((rd_Elem l0_7 (wrap64 (x8_1 - 1))).f1) ((rd_Elem l0_7 (wrap64 (x8_1 - 1))).f2) ((rd_Elem l0_7 x8_1).f0) ((rd_Elem l0_7 x8_1).f1) ((rd_Elem l0_7 x8_1).f2)).bind fun t134 => (if t134 = true then (op_gone.l0 k1 l0_7 (l0_7.length : Int) (wrap64 (x8_1 + 1)) a0_0 a0_1 a0_2 a0_3 a0_4 a0_5 a0_6 l0_7 a0_8 a0_9 a0_10) else (some false))) else (none)) else (none)) else (op_gone.l0 k1 l0_7 (l0_7.length : Int) (wrap64 (x8_1 + 1)) a0_0 a0_1 a0_2 a0_3 a0_4 a0_5 a0_6 l0_7 a0_8 a0_9 a0_10)) = some r := by rw [if_neg (show ¬ (false = true) by decide)] at H; exact H
              clear H
              have H := H1
              clear H1
              by_cases c24 : x8_1 > 0
              · rw [if_pos c24] at H
                have c24b0 : decide (0 < x8_1) = true := decide_eq_true c24
                clear c24
                obtain ⟨ji25, hji25⟩ : ∃ j_ : Int, (wrap64 (x8_1 - 1)) = j_ := ⟨_, rfl⟩
                replace H : (if 0 ≤ (ji25) then (if (ji25) < (l0_7.length : Int) then ((op_Less.f k1 ((rd_Elem l0_7 (ji25)).f0) ((rd_Elem l0_7 (ji25)).f1) ((rd_Elem l0_7 (ji25)).f2) ((rd_Elem l0_7 x8_1).f0) ((rd_Elem l0_7 x8_1).f1) ((rd_Elem l0_7 x8_1).f2)).bind fun t134 => (if t134 = true then (op_gone.l0 k1 l0_7 (l0_7.length : Int) (wrap64 (x8_1 + 1)) a0_0 a0_1 a0_2 a0_3 a0_4 a0_5 a0_6 l0_7 a0_8 a0_9 a0_10) else (some false))) else (none)) else (none)) = some r := by first | (rw [hji25] at H; exact H) | (simp only [hji25] at H ⊢; exact H)
                (try rw [hji25] at A13)
                (try rw [hji25] at A15)
                have hji25w : (IntKind.i64.wrap (x8_1 - 1)) = ji25 := (i64_w _).trans hji25
                by_cases c26 : 0 ≤ (ji25)
                · rw [if_pos c26] at H
                  have c26b0 : decide (0 ≤ (ji25)) = true := decide_eq_true c26
                  clear c26
                  by_cases c27 : (ji25) < (l0_7.length : Int)
                  · rw [if_pos c27] at H
                    have c27b0 : decide ((ji25) < (l0_7.length : Int)) = true := decide_eq_true c27
                    clear c27
                    replace H := Option.bind_eq_some_iff.mp H
                    obtain ⟨t134, A280, H⟩ := H
                    replace H : (if t134 = true then (op_gone.l0 k1 l0_7 (l0_7.length : Int) (wrap64 (x8_1 + 1)) a0_0 a0_1 a0_2 a0_3 a0_4 a0_5 a0_6 l0_7 a0_8 a0_9 a0_10) else (some false)) = some r := H
                    have A28 := Aside0.mk A280
                    clear A280
                    by_cases c29 : t134 = true
                    · subst c29
                      have H1 : (op_gone.l0 k1 l0_7 (l0_7.length : Int) (wrap64 (x8_1 + 1)) a0_0 a0_1 a0_2 a0_3 a0_4 a0_5 a0_6 l0_7 a0_8 a0_9 a0_10) = some r := by rw [if_pos rfl] at H; exact H
                      clear H
                      have H := H1
                      clear H1
                      have H' := Aside0.mk H
                      clear H
                      have p129 : 0 ≤ (x8_1 : Int) := of_decide_eq_true (by first | (with_reducible assumption) | assumption)
                      have q129 : x8_1 < (l0_7.length : Int) := of_decide_eq_true (by first | (with_reducible assumption) | assumption)
                      obtain ⟨ad129, e129, hx129_0, hx129_1, hx129_2⟩ := at_Elem HR0_7.out x8_1 p129 q129
                      cases e129
                      replace hx129_0 := cl HB hx129_0
                      replace hx129_1 := cl HB hx129_1
                      replace hx129_2 := cl HB hx129_2
                      replace p129 := eq_true p129
                      replace q129 := eq_true q129
                      try go_wp2_with (first | ((with_reducible refine gate_dst (N := 4) rfl ?_); refine box_event ?hg (N := 4) ?hd (cs := #[.int .i64 0, .int .i64 0, .int .i64 0]) (t := 29) ?hr ?_; (case hd => rfl); (case hg => rfl); (case hr => first | (go_simp; done) | (go_simp; rfl)); intro gb130 hg w30 hbox hb; have n0_ := Aside0.mk (blk_below (g := gb128) (o := .cells #[.int .i64 a0_0, .int .i64 a0_1, .int .i64 a0_2, .int .i64 a0_3, .int .i64 a0_4, .int .i64 a0_5, .string a0_6, .slice (some ad129) l0_7.length c0_7, .int .i64 a0_8, .int .i64 a0_9, .int .i64 a0_10] 31 (0, 0)) (by (with_reducible repeat (first | refine blk_drewN ?_ _ | refine blk_drew ?_ | refine blk_alloc ?_ _)); exact BK128.out) hb); have n1_ := Aside0.mk (below_step (by repeat (first | (with_reducible first | exact HB.out | apply below_alloc | apply pw_below_drewN | apply below_drew1 | refine below_set ?_ GE128.out) | exact HB.out)) hb); have n2_ := Aside0.mk (hbox); have n3_ := Aside0.mk ((by rw [hg]; exact (below_size (by repeat (first | (with_reducible first | exact HB.out | apply below_alloc | apply pw_below_drewN | apply below_drew1 | refine below_set ?_ GE128.out) | exact HB.out))) : w.heap.size ≤ gb130)); have n4_ := Aside0.mk ((by rw [hg]; exact (below_size (by repeat (first | (with_reducible first | exact HB.out | apply below_alloc | apply pw_below_drewN | apply below_drew1 | refine below_set ?_ GE128.out) | exact HB.out))) : w.heap.size ≤ gb130)); have n5_ := Aside0.mk ((by rw [hg]; exact Nat.ne_of_lt (blk_lt (g := gb128) (o := .cells #[.int .i64 a0_0, .int .i64 a0_1, .int .i64 a0_2, .int .i64 a0_3, .int .i64 a0_4, .int .i64 a0_5, .string a0_6, .slice (some ad129) l0_7.length c0_7, .int .i64 a0_8, .int .i64 a0_9, .int .i64 a0_10] 31 (0, 0)) (by (with_reducible repeat (first | refine blk_drewN ?_ _ | refine blk_drew ?_ | refine blk_alloc ?_ _)); exact BK128.out)) : gb128 ≠ gb130)); have n6_ := Aside0.mk ((by rw [hg]; exact Nat.ne_of_gt (blk_lt (g := gb128) (o := .cells #[.int .i64 a0_0, .int .i64 a0_1, .int .i64 a0_2, .int .i64 a0_3, .int .i64 a0_4, .int .i64 a0_5, .string a0_6, .slice (some ad129) l0_7.length c0_7, .int .i64 a0_8, .int .i64 a0_9, .int .i64 a0_10] 31 (0, 0)) (by (with_reducible repeat (first | refine blk_drewN ?_ _ | refine blk_drew ?_ | refine blk_alloc ?_ _)); exact BK128.out)) : gb130 ≠ gb128)); clear BK128; clear HB; have BK128 := n0_; have HB := n1_; have BK130 := n2_; have GW130 := n3_; have GE130 := n4_; have NB128_130 := n5_; have NB130_128 := n6_; clear n0_ n1_ n2_ n3_ n4_ n5_ n6_; clear hb hbox hg; have hnb31 := NB130_128.out; have hnc31 := NB128_130.out; have hcz32_0 : w30.cell? ⟨gb130, 0, none⟩ = some (.int .i64 0) := bc BK130 0; have hcz32_1 : w30.cell? ⟨gb130, 1, none⟩ = some (.int .i64 0) := bc BK130 1; have hcz32_2 : w30.cell? ⟨gb130, 2, none⟩ = some (.int .i64 0) := bc BK130 2; have hfz32_0 := bf BK130 0; have hfz32_1 := bf BK130 1; have hfz32_2 := bf BK130 2))
                      have n0_ : Aside0 ((((w30.setCell ⟨gb130, 0, none⟩ (.int .i64 ((rd_Elem l0_7 x8_1).f0))).setCell ⟨gb130, 1, none⟩ (.int .i64 ((rd_Elem l0_7 x8_1).f1))).setCell ⟨gb130, 2, none⟩ (.int .i64 ((rd_Elem l0_7 x8_1).f2))).heap[gb128]? = some (.cells #[.int .i64 a0_0, .int .i64 a0_1, .int .i64 a0_2, .int .i64 a0_3, .int .i64 a0_4, .int .i64 a0_5, .string a0_6, .slice (some ad129) l0_7.length c0_7, .int .i64 a0_8, .int .i64 a0_9, .int .i64 a0_10] 31 (0, 0))) := ⟨by (with_reducible repeat (first | refine blk_drewN ?_ _ | refine blk_drew ?_ | refine blk_alloc ?_ _)); refine blk_far ?_ NB128_130.out _; (with_reducible repeat (first | refine blk_drewN ?_ _ | refine blk_drew ?_ | refine blk_alloc ?_ _)); refine blk_far ?_ NB128_130.out _; (with_reducible repeat (first | refine blk_drewN ?_ _ | refine blk_drew ?_ | refine blk_alloc ?_ _)); refine blk_far ?_ NB128_130.out _; (with_reducible repeat (first | refine blk_drewN ?_ _ | refine blk_drew ?_ | refine blk_alloc ?_ _)); exact BK128.out⟩
                      have n1_ : Aside0 ((((w30.setCell ⟨gb130, 0, none⟩ (.int .i64 ((rd_Elem l0_7 x8_1).f0))).setCell ⟨gb130, 1, none⟩ (.int .i64 ((rd_Elem l0_7 x8_1).f1))).setCell ⟨gb130, 2, none⟩ (.int .i64 ((rd_Elem l0_7 x8_1).f2))).heap[gb130]? = some (.cells #[.int .i64 ((rd_Elem l0_7 x8_1).f0), .int .i64 ((rd_Elem l0_7 x8_1).f1), .int .i64 ((rd_Elem l0_7 x8_1).f2)] 29 (0, 0))) := ⟨by (with_reducible repeat (first | refine blk_drewN ?_ _ | refine blk_drew ?_ | refine blk_alloc ?_ _)); refine blk_put (cs := #[.int .i64 ((rd_Elem l0_7 x8_1).f0), .int .i64 ((rd_Elem l0_7 x8_1).f1), .int .i64 0]) ?_ 2 _ rfl; (with_reducible repeat (first | refine blk_drewN ?_ _ | refine blk_drew ?_ | refine blk_alloc ?_ _)); refine blk_put (cs := #[.int .i64 ((rd_Elem l0_7 x8_1).f0), .int .i64 0, .int .i64 0]) ?_ 1 _ rfl; (with_reducible repeat (first | refine blk_drewN ?_ _ | refine blk_drew ?_ | refine blk_alloc ?_ _)); refine blk_put (cs := #[.int .i64 0, .int .i64 0, .int .i64 0]) ?_ 0 _ rfl; (with_reducible repeat (first | refine blk_drewN ?_ _ | refine blk_drew ?_ | refine blk_alloc ?_ _)); exact BK130.out⟩
                      have n2_ : Aside0 (Below w.heap.size w (((w30.setCell ⟨gb130, 0, none⟩ (.int .i64 ((rd_Elem l0_7 x8_1).f0))).setCell ⟨gb130, 1, none⟩ (.int .i64 ((rd_Elem l0_7 x8_1).f1))).setCell ⟨gb130, 2, none⟩ (.int .i64 ((rd_Elem l0_7 x8_1).f2)))) := ⟨by repeat (first | (with_reducible first | exact HB.out | apply below_alloc | apply pw_below_drewN | apply below_drew1 | refine below_set ?_ GE128.out | refine below_set ?_ GE130.out) | exact HB.out)⟩
                      (try clear BK128)
                      (try clear BK130)
                      (try clear HB)
                      generalize (((w30.setCell ⟨gb130, 0, none⟩ (.int .i64 ((rd_Elem l0_7 x8_1).f0))).setCell ⟨gb130, 1, none⟩ (.int .i64 ((rd_Elem l0_7 x8_1).f1))).setCell ⟨gb130, 2, none⟩ (.int .i64 ((rd_Elem l0_7 x8_1).f2))) = w33 at n0_ n1_ n2_ ⊢
                      have BK128 := n0_
                      have BK130 := n1_
                      have HB := n2_
                      clear n0_ n1_ n2_
                      have n0_ := Aside0.mk (blk_drew BK128.out)
                      have n1_ := Aside0.mk (blk_drew BK130.out)
                      have n2_ := Aside0.mk (below_drew1 HB.out)
                      clear BK128
                      clear BK130
                      clear HB
                      have BK128 := n0_
                      have BK130 := n1_
                      have HB := n2_
                      clear n0_ n1_ n2_
                      have p133 : 0 ≤ ((ji25) : Int) := of_decide_eq_true (by first | (with_reducible assumption) | assumption)
                      have q133 : (ji25) < (l0_7.length : Int) := of_decide_eq_true (by first | (with_reducible assumption) | assumption)
                      obtain ⟨ad133, e133, hx133_0, hx133_1, hx133_2⟩ := at_Elem HR0_7.out (ji25) p133 q133
                      have hw133_2 := hx133_2
                      have hw133_1 := hx133_1
                      have hw133_0 := hx133_0
                      obtain rfl : ad129 = ad133 := (by injection e133)
                      replace hx133_0 := cl HB hx133_0
                      replace hx133_1 := cl HB hx133_1
                      replace hx133_2 := cl HB hx133_2
                      replace p133 := eq_true p133
                      replace q133 := eq_true q133
                      refine stP (fun w' => w'.cell? ⟨gb130, 0, none⟩ = some (.int .i64 ((rd_Elem l0_7 x8_1).f0)) ∧ w'.cell? ⟨gb130, 1, none⟩ = some (.int .i64 ((rd_Elem l0_7 x8_1).f1)) ∧ w'.cell? ⟨gb130, 2, none⟩ = some (.int .i64 ((rd_Elem l0_7 x8_1).f2)) ∧ w'.cell? ⟨gb128, 0, none⟩ = some (.int .i64 a0_0) ∧ w'.cell? ⟨gb128, 1, none⟩ = some (.int .i64 a0_1) ∧ w'.cell? ⟨gb128, 2, none⟩ = some (.int .i64 a0_2) ∧ w'.cell? ⟨gb128, 3, none⟩ = some (.int .i64 a0_3) ∧ w'.cell? ⟨gb128, 4, none⟩ = some (.int .i64 a0_4) ∧ w'.cell? ⟨gb128, 5, none⟩ = some (.int .i64 a0_5) ∧ w'.cell? ⟨gb128, 6, none⟩ = some (.string a0_6) ∧ w'.cell? ⟨gb128, 7, none⟩ = some (.slice (some ad129) l0_7.length c0_7) ∧ w'.cell? ⟨gb128, 8, none⟩ = some (.int .i64 a0_8) ∧ w'.cell? ⟨gb128, 9, none⟩ = some (.int .i64 a0_9) ∧ w'.cell? ⟨gb128, 10, none⟩ = some (.int .i64 a0_10) ∧ w'.cell? (ad129.add (((ji25)).toNat * 3)) = some (.int .i64 ((rd_Elem l0_7 (ji25)).f0)) ∧ w'.cell? ⟨(ad129.add (((ji25)).toNat * 3)).block, (ad129.add (((ji25)).toNat * 3)).off + 1, none⟩ = some (.int .i64 ((rd_Elem l0_7 (ji25)).f1)) ∧ w'.cell? ⟨(ad129.add (((ji25)).toNat * 3)).block, (ad129.add (((ji25)).toNat * 3)).off + 2, none⟩ = some (.int .i64 ((rd_Elem l0_7 (ji25)).f2))) 28 ⟨bc BK130 0, bc BK130 1, bc BK130 2, bc BK128 0, bc BK128 1, bc BK128 2, bc BK128 3, bc BK128 4, bc BK128 5, bc BK128 6, bc BK128 7, bc BK128 8, bc BK128 9, bc BK128 10, (cl HB hw133_0), (cl HB hw133_1), (cl HB hw133_2)⟩ (h := fun hHeld => ?_); refine with_tabW op_gone.tab4 op_gone.bits4 (fun HT_ HW_ => ?_)
                      generalize w33.drew = w34 at BK128 BK130 HB hx133_0 hx133_1 hx133_2 hHeld ⊢
                      refine pu HT_ 1 14 2 (h := ?_)
                      refine tk HT_ HW_ hHeld 0 13 3 (h := ?_)
                      refine pu HT_ 2 15 7 (h := ?_)
                      refine pu HT_ 3 16 15 (h := ?_)
                      refine tk HT_ HW_ hHeld 4 17 31 (h := ?_)
                      refine on HT_ 5 (some 18) 63 (h := fun K hK => ?_)
                      refine goes_ Tryd.func119 (by kernel_rfl) rfl #[.agg #[.int .i64 ((rd_Elem l0_7 x8_1).f0), .int .i64 ((rd_Elem l0_7 x8_1).f1), .int .i64 ((rd_Elem l0_7 x8_1).f2)]] (by rfl) rfl rfl (by (try simp only [List.map_toArray, List.map_cons, List.map_nil]); first | done | rfl | (simp only [List.length_drop, List.length_take]; rfl)) ?_
                      with_reducible refine (op_IsElem.calls ((rd_Elem l0_7 x8_1).f0) ((rd_Elem l0_7 x8_1).f1) ((rd_Elem l0_7 x8_1).f2) true _ A13.out).mono ?_
                      rintro e w35 ⟨rfl, hb⟩
                      refine ⟨_, rfl, ?_⟩
                      have n0_ := Aside0.mk (blk_below (g := gb128) (o := .cells #[.int .i64 a0_0, .int .i64 a0_1, .int .i64 a0_2, .int .i64 a0_3, .int .i64 a0_4, .int .i64 a0_5, .string a0_6, .slice (some ad129) l0_7.length c0_7, .int .i64 a0_8, .int .i64 a0_9, .int .i64 a0_10] 31 (0, 0)) (by (with_reducible repeat (first | refine blk_drewN ?_ _ | refine blk_drew ?_ | refine blk_alloc ?_ _)); exact BK128.out) hb)
                      have n1_ := Aside0.mk (blk_below (g := gb130) (o := .cells #[.int .i64 ((rd_Elem l0_7 x8_1).f0), .int .i64 ((rd_Elem l0_7 x8_1).f1), .int .i64 ((rd_Elem l0_7 x8_1).f2)] 29 (0, 0)) (by (with_reducible repeat (first | refine blk_drewN ?_ _ | refine blk_drew ?_ | refine blk_alloc ?_ _)); exact BK130.out) hb)
                      have n2_ := Aside0.mk (below_step (by repeat (first | (with_reducible first | exact HB.out | apply below_alloc | apply pw_below_drewN | apply below_drew1 | refine below_set ?_ GE128.out | refine below_set ?_ GE130.out) | exact HB.out)) hb)
                      clear BK128
                      clear BK130
                      clear HB
                      have BK128 := n0_
                      have BK130 := n1_
                      have HB := n2_
                      clear n0_ n1_ n2_
                      (try clear hb)
                      (try clear hb2)
                      (try clear hk)
                      (try clear hi)
                      refine hK.out _ _ ⟨bc BK130 0, bc BK130 1, bc BK130 2, bc BK128 0, bc BK128 1, bc BK128 2, bc BK128 3, bc BK128 4, bc BK128 5, bc BK128 6, bc BK128 7, bc BK128 8, bc BK128 9, bc BK128 10, (cl HB hw133_0), (cl HB hw133_1), (cl HB hw133_2)⟩ (fun hHeld => ?_)
                      clear hK K
                      refine nm (h := ?_)
                      refine pu HT_ 6 19 127 (h := ?_)
                      refine pu HT_ 7 20 255 (h := ?_)
                      refine pu HT_ 8 21 511 (h := ?_)
                      refine tk HT_ HW_ hHeld 9 22 1023 (h := ?_)
                      refine tk HT_ HW_ hHeld 10 23 2047 (h := ?_)
                      refine on HT_ 11 (some 24) 4095 (h := fun K hK => ?_)
                      refine goes_ Tryd.func168 (by kernel_rfl) rfl #[.agg #[.int .i64 a0_0, .int .i64 a0_1, .int .i64 a0_2, .int .i64 a0_3, .int .i64 a0_4, .int .i64 a0_5, .string a0_6, .slice (some ad129) l0_7.length c0_7, .int .i64 a0_8, .int .i64 a0_9, .int .i64 a0_10], .agg #[.int .i64 ((rd_Elem l0_7 x8_1).f0), .int .i64 ((rd_Elem l0_7 x8_1).f1), .int .i64 ((rd_Elem l0_7 x8_1).f2)]] (by rfl) rfl rfl (by (try simp only [List.map_toArray, List.map_cons, List.map_nil]); first | done | rfl | (simp only [List.length_drop, List.length_take]; rfl)) ?_
                      with_reducible refine (op_own.calls a0_0 a0_1 a0_2 a0_3 a0_4 a0_5 a0_6 _ _ l0_7 a0_8 a0_9 a0_10 ((rd_Elem l0_7 x8_1).f0) ((rd_Elem l0_7 x8_1).f1) ((rd_Elem l0_7 x8_1).f2) false _ ?side1 ?side2 A15.out).mono ?_
                      (case side1 => repeat (first | exact (Kd.C_below HR0_7.out HB.out) | (with_reducible refine Kd.C_alloc ?_ _) | (with_reducible refine Kd.C_drewN ?_ _) | (with_reducible refine Kd.C_drew ?_)))
                      (case side2 => exact HC0_7.out)
                      rintro e w36 ⟨rfl, hb⟩
                      refine ⟨_, rfl, ?_⟩
                      have n0_ := Aside0.mk (blk_below (g := gb128) (o := .cells #[.int .i64 a0_0, .int .i64 a0_1, .int .i64 a0_2, .int .i64 a0_3, .int .i64 a0_4, .int .i64 a0_5, .string a0_6, .slice (some ad129) l0_7.length c0_7, .int .i64 a0_8, .int .i64 a0_9, .int .i64 a0_10] 31 (0, 0)) (by (with_reducible repeat (first | refine blk_drewN ?_ _ | refine blk_drew ?_ | refine blk_alloc ?_ _)); exact BK128.out) hb)
                      have n1_ := Aside0.mk (blk_below (g := gb130) (o := .cells #[.int .i64 ((rd_Elem l0_7 x8_1).f0), .int .i64 ((rd_Elem l0_7 x8_1).f1), .int .i64 ((rd_Elem l0_7 x8_1).f2)] 29 (0, 0)) (by (with_reducible repeat (first | refine blk_drewN ?_ _ | refine blk_drew ?_ | refine blk_alloc ?_ _)); exact BK130.out) hb)
                      have n2_ := Aside0.mk (below_step (by repeat (first | (with_reducible first | exact HB.out | apply below_alloc | apply pw_below_drewN | apply below_drew1 | refine below_set ?_ GE128.out | refine below_set ?_ GE130.out) | exact HB.out)) hb)
                      clear BK128
                      clear BK130
                      clear HB
                      have BK128 := n0_
                      have BK130 := n1_
                      have HB := n2_
                      clear n0_ n1_ n2_
                      (try clear hb)
                      (try clear hb2)
                      (try clear hk)
                      (try clear hi)
                      refine hK.out _ _ ⟨bc BK130 0, bc BK130 1, bc BK130 2, bc BK128 0, bc BK128 1, bc BK128 2, bc BK128 3, bc BK128 4, bc BK128 5, bc BK128 6, bc BK128 7, bc BK128 8, bc BK128 9, bc BK128 10, (cl HB hw133_0), (cl HB hw133_1), (cl HB hw133_2)⟩ (fun hHeld => ?_)
                      clear hK K
                      refine nm (h := ?_)
                      refine pu HT_ 12 25 8191 (h := ?_)
                      refine pu HT_ 13 26 16383 (h := ?_)
                      refine pu HT_ 14 27 32767 (h := ?_)
                      refine pu HT_ 15 28 65535 (h := ?_)
                      refine pu HT_ 16 29 131071 (h := ?_)
                      refine pu HT_ 17 30 262143 (h := ?_)
                      refine pu HT_ 19 32 786431 (h := ?_)
                      refine pu HT_ 20 33 1835007 (h := ?_)
                      refine tk HT_ HW_ hHeld 18 31 2097151 (h := ?_)
                      refine pu HT_ 21 34 4194303 (h := ?_)
                      refine tk HT_ HW_ hHeld 22 35 8388607 (h := ?_)
                      refine tk HT_ HW_ hHeld 23 36 16777215 (h := ?_)
                      refine on HT_ 24 (some 37) 33554431 (h := fun K hK => ?_)
                      refine goes_ Tryd.func69 (by kernel_rfl) rfl #[.agg #[.int .i64 ((rd_Elem l0_7 (ji25)).f0), .int .i64 ((rd_Elem l0_7 (ji25)).f1), .int .i64 ((rd_Elem l0_7 (ji25)).f2)], .agg #[.int .i64 ((rd_Elem l0_7 x8_1).f0), .int .i64 ((rd_Elem l0_7 x8_1).f1), .int .i64 ((rd_Elem l0_7 x8_1).f2)]] (by rfl) rfl rfl (by (try simp only [List.map_toArray, List.map_cons, List.map_nil]); first | done | (simp only [hji25]; rfl) | rfl | (simp only [List.length_drop, List.length_take]; rfl)) ?_
                      with_reducible refine (op_Less.calls k1 ((rd_Elem l0_7 (ji25)).f0) ((rd_Elem l0_7 (ji25)).f1) ((rd_Elem l0_7 (ji25)).f2) ((rd_Elem l0_7 x8_1).f0) ((rd_Elem l0_7 x8_1).f1) ((rd_Elem l0_7 x8_1).f2) true _ A28.out).mono ?_
                      rintro e w37 ⟨rfl, hb⟩
                      refine ⟨_, rfl, ?_⟩
                      have n0_ := Aside0.mk (blk_below (g := gb128) (o := .cells #[.int .i64 a0_0, .int .i64 a0_1, .int .i64 a0_2, .int .i64 a0_3, .int .i64 a0_4, .int .i64 a0_5, .string a0_6, .slice (some ad129) l0_7.length c0_7, .int .i64 a0_8, .int .i64 a0_9, .int .i64 a0_10] 31 (0, 0)) (by (with_reducible repeat (first | refine blk_drewN ?_ _ | refine blk_drew ?_ | refine blk_alloc ?_ _)); exact BK128.out) hb)
                      have n1_ := Aside0.mk (blk_below (g := gb130) (o := .cells #[.int .i64 ((rd_Elem l0_7 x8_1).f0), .int .i64 ((rd_Elem l0_7 x8_1).f1), .int .i64 ((rd_Elem l0_7 x8_1).f2)] 29 (0, 0)) (by (with_reducible repeat (first | refine blk_drewN ?_ _ | refine blk_drew ?_ | refine blk_alloc ?_ _)); exact BK130.out) hb)
                      have n2_ := Aside0.mk (below_step (by repeat (first | (with_reducible first | exact HB.out | apply below_alloc | apply pw_below_drewN | apply below_drew1 | refine below_set ?_ GE128.out | refine below_set ?_ GE130.out) | exact HB.out)) hb)
                      clear BK128
                      clear BK130
                      clear HB
                      have BK128 := n0_
                      have BK130 := n1_
                      have HB := n2_
                      clear n0_ n1_ n2_
                      (try clear hb)
                      (try clear hb2)
                      (try clear hk)
                      (try clear hi)
                      refine hK.out _ _ ⟨bc BK130 0, bc BK130 1, bc BK130 2, bc BK128 0, bc BK128 1, bc BK128 2, bc BK128 3, bc BK128 4, bc BK128 5, bc BK128 6, bc BK128 7, bc BK128 8, bc BK128 9, bc BK128 10, (cl HB hw133_0), (cl HB hw133_1), (cl HB hw133_2)⟩ (fun hHeld => ?_)
                      clear hK K
                      refine nm (h := ?_)
                      refine pu HT_ 25 38 67108863 (h := ?_)
                      refine pu HT_ 26 39 134217727 (h := ?_)
                      refine pu HT_ 27 40 268435455 (h := ?_)
                      refine dn HT_ (h := ?_)
                      try go_wp2
                      go_roundg k1
                      case measure => have := HK1.out; omega
                      case rel => exact ⟨(wrap64 (x8_1 + 1)), (by first | rfl | (simp; done) | (simp [*]; done)), H', ⟨by have := HK1.out; omega⟩, ⟨by (with_reducible repeat (first | refine blk_drewN ?_ _ | refine blk_drew ?_ | refine blk_alloc ?_ _)); exact BK128.out⟩, ⟨by repeat (first | (with_reducible first | exact HB.out | apply below_alloc | apply pw_below_drewN | apply below_drew1 | refine below_set ?_ GE128.out | refine below_set ?_ GE130.out) | exact HB.out)⟩⟩
                    replace c29 := Bool.eq_false_iff.mpr c29
                    subst c29
                    have H1 : (some false) = some r := by rw [if_neg (show ¬ (false = true) by decide)] at H; exact H
                    clear H
                    have H := H1
                    clear H1
                    obtain rfl := Option.some.inj H
                    have p129 : 0 ≤ (x8_1 : Int) := of_decide_eq_true (by first | (with_reducible assumption) | assumption)
                    have q129 : x8_1 < (l0_7.length : Int) := of_decide_eq_true (by first | (with_reducible assumption) | assumption)
                    obtain ⟨ad129, e129, hx129_0, hx129_1, hx129_2⟩ := at_Elem HR0_7.out x8_1 p129 q129
                    cases e129
                    replace hx129_0 := cl HB hx129_0
                    replace hx129_1 := cl HB hx129_1
                    replace hx129_2 := cl HB hx129_2
                    replace p129 := eq_true p129
                    replace q129 := eq_true q129
                    try go_wp2_with (first | ((with_reducible refine gate_dst (N := 4) rfl ?_); refine box_event ?hg (N := 4) ?hd (cs := #[.int .i64 0, .int .i64 0, .int .i64 0]) (t := 29) ?hr ?_; (case hd => rfl); (case hg => rfl); (case hr => first | (go_simp; done) | (go_simp; rfl)); intro gb130 hg w38 hbox hb; have n0_ := Aside0.mk (blk_below (g := gb128) (o := .cells #[.int .i64 a0_0, .int .i64 a0_1, .int .i64 a0_2, .int .i64 a0_3, .int .i64 a0_4, .int .i64 a0_5, .string a0_6, .slice (some ad129) l0_7.length c0_7, .int .i64 a0_8, .int .i64 a0_9, .int .i64 a0_10] 31 (0, 0)) (by (with_reducible repeat (first | refine blk_drewN ?_ _ | refine blk_drew ?_ | refine blk_alloc ?_ _)); exact BK128.out) hb); have n1_ := Aside0.mk (below_step (by repeat (first | (with_reducible first | exact HB.out | apply below_alloc | apply pw_below_drewN | apply below_drew1 | refine below_set ?_ GE128.out) | exact HB.out)) hb); have n2_ := Aside0.mk (hbox); have n3_ := Aside0.mk ((by rw [hg]; exact (below_size (by repeat (first | (with_reducible first | exact HB.out | apply below_alloc | apply pw_below_drewN | apply below_drew1 | refine below_set ?_ GE128.out) | exact HB.out))) : w.heap.size ≤ gb130)); have n4_ := Aside0.mk ((by rw [hg]; exact (below_size (by repeat (first | (with_reducible first | exact HB.out | apply below_alloc | apply pw_below_drewN | apply below_drew1 | refine below_set ?_ GE128.out) | exact HB.out))) : w.heap.size ≤ gb130)); have n5_ := Aside0.mk ((by rw [hg]; exact Nat.ne_of_lt (blk_lt (g := gb128) (o := .cells #[.int .i64 a0_0, .int .i64 a0_1, .int .i64 a0_2, .int .i64 a0_3, .int .i64 a0_4, .int .i64 a0_5, .string a0_6, .slice (some ad129) l0_7.length c0_7, .int .i64 a0_8, .int .i64 a0_9, .int .i64 a0_10] 31 (0, 0)) (by (with_reducible repeat (first | refine blk_drewN ?_ _ | refine blk_drew ?_ | refine blk_alloc ?_ _)); exact BK128.out)) : gb128 ≠ gb130)); have n6_ := Aside0.mk ((by rw [hg]; exact Nat.ne_of_gt (blk_lt (g := gb128) (o := .cells #[.int .i64 a0_0, .int .i64 a0_1, .int .i64 a0_2, .int .i64 a0_3, .int .i64 a0_4, .int .i64 a0_5, .string a0_6, .slice (some ad129) l0_7.length c0_7, .int .i64 a0_8, .int .i64 a0_9, .int .i64 a0_10] 31 (0, 0)) (by (with_reducible repeat (first | refine blk_drewN ?_ _ | refine blk_drew ?_ | refine blk_alloc ?_ _)); exact BK128.out)) : gb130 ≠ gb128)); clear BK128; clear HB; have BK128 := n0_; have HB := n1_; have BK130 := n2_; have GW130 := n3_; have GE130 := n4_; have NB128_130 := n5_; have NB130_128 := n6_; clear n0_ n1_ n2_ n3_ n4_ n5_ n6_; clear hb hbox hg; have hnb39 := NB130_128.out; have hnc39 := NB128_130.out; have hcz40_0 : w38.cell? ⟨gb130, 0, none⟩ = some (.int .i64 0) := bc BK130 0; have hcz40_1 : w38.cell? ⟨gb130, 1, none⟩ = some (.int .i64 0) := bc BK130 1; have hcz40_2 : w38.cell? ⟨gb130, 2, none⟩ = some (.int .i64 0) := bc BK130 2; have hfz40_0 := bf BK130 0; have hfz40_1 := bf BK130 1; have hfz40_2 := bf BK130 2))
                    have n0_ : Aside0 ((((w38.setCell ⟨gb130, 0, none⟩ (.int .i64 ((rd_Elem l0_7 x8_1).f0))).setCell ⟨gb130, 1, none⟩ (.int .i64 ((rd_Elem l0_7 x8_1).f1))).setCell ⟨gb130, 2, none⟩ (.int .i64 ((rd_Elem l0_7 x8_1).f2))).heap[gb128]? = some (.cells #[.int .i64 a0_0, .int .i64 a0_1, .int .i64 a0_2, .int .i64 a0_3, .int .i64 a0_4, .int .i64 a0_5, .string a0_6, .slice (some ad129) l0_7.length c0_7, .int .i64 a0_8, .int .i64 a0_9, .int .i64 a0_10] 31 (0, 0))) := ⟨by (with_reducible repeat (first | refine blk_drewN ?_ _ | refine blk_drew ?_ | refine blk_alloc ?_ _)); refine blk_far ?_ NB128_130.out _; (with_reducible repeat (first | refine blk_drewN ?_ _ | refine blk_drew ?_ | refine blk_alloc ?_ _)); refine blk_far ?_ NB128_130.out _; (with_reducible repeat (first | refine blk_drewN ?_ _ | refine blk_drew ?_ | refine blk_alloc ?_ _)); refine blk_far ?_ NB128_130.out _; (with_reducible repeat (first | refine blk_drewN ?_ _ | refine blk_drew ?_ | refine blk_alloc ?_ _)); exact BK128.out⟩
                    have n1_ : Aside0 ((((w38.setCell ⟨gb130, 0, none⟩ (.int .i64 ((rd_Elem l0_7 x8_1).f0))).setCell ⟨gb130, 1, none⟩ (.int .i64 ((rd_Elem l0_7 x8_1).f1))).setCell ⟨gb130, 2, none⟩ (.int .i64 ((rd_Elem l0_7 x8_1).f2))).heap[gb130]? = some (.cells #[.int .i64 ((rd_Elem l0_7 x8_1).f0), .int .i64 ((rd_Elem l0_7 x8_1).f1), .int .i64 ((rd_Elem l0_7 x8_1).f2)] 29 (0, 0))) := ⟨by (with_reducible repeat (first | refine blk_drewN ?_ _ | refine blk_drew ?_ | refine blk_alloc ?_ _)); refine blk_put (cs := #[.int .i64 ((rd_Elem l0_7 x8_1).f0), .int .i64 ((rd_Elem l0_7 x8_1).f1), .int .i64 0]) ?_ 2 _ rfl; (with_reducible repeat (first | refine blk_drewN ?_ _ | refine blk_drew ?_ | refine blk_alloc ?_ _)); refine blk_put (cs := #[.int .i64 ((rd_Elem l0_7 x8_1).f0), .int .i64 0, .int .i64 0]) ?_ 1 _ rfl; (with_reducible repeat (first | refine blk_drewN ?_ _ | refine blk_drew ?_ | refine blk_alloc ?_ _)); refine blk_put (cs := #[.int .i64 0, .int .i64 0, .int .i64 0]) ?_ 0 _ rfl; (with_reducible repeat (first | refine blk_drewN ?_ _ | refine blk_drew ?_ | refine blk_alloc ?_ _)); exact BK130.out⟩
                    have n2_ : Aside0 (Below w.heap.size w (((w38.setCell ⟨gb130, 0, none⟩ (.int .i64 ((rd_Elem l0_7 x8_1).f0))).setCell ⟨gb130, 1, none⟩ (.int .i64 ((rd_Elem l0_7 x8_1).f1))).setCell ⟨gb130, 2, none⟩ (.int .i64 ((rd_Elem l0_7 x8_1).f2)))) := ⟨by repeat (first | (with_reducible first | exact HB.out | apply below_alloc | apply pw_below_drewN | apply below_drew1 | refine below_set ?_ GE128.out | refine below_set ?_ GE130.out) | exact HB.out)⟩
                    (try clear BK128)
                    (try clear BK130)
                    (try clear HB)
                    generalize (((w38.setCell ⟨gb130, 0, none⟩ (.int .i64 ((rd_Elem l0_7 x8_1).f0))).setCell ⟨gb130, 1, none⟩ (.int .i64 ((rd_Elem l0_7 x8_1).f1))).setCell ⟨gb130, 2, none⟩ (.int .i64 ((rd_Elem l0_7 x8_1).f2))) = w41 at n0_ n1_ n2_ ⊢
                    have BK128 := n0_
                    have BK130 := n1_
                    have HB := n2_
                    clear n0_ n1_ n2_
                    have n0_ := Aside0.mk (blk_drew BK128.out)
                    have n1_ := Aside0.mk (blk_drew BK130.out)
                    have n2_ := Aside0.mk (below_drew1 HB.out)
                    clear BK128
                    clear BK130
                    clear HB
                    have BK128 := n0_
                    have BK130 := n1_
                    have HB := n2_
                    clear n0_ n1_ n2_
                    have p133 : 0 ≤ ((ji25) : Int) := of_decide_eq_true (by first | (with_reducible assumption) | assumption)
                    have q133 : (ji25) < (l0_7.length : Int) := of_decide_eq_true (by first | (with_reducible assumption) | assumption)
                    obtain ⟨ad133, e133, hx133_0, hx133_1, hx133_2⟩ := at_Elem HR0_7.out (ji25) p133 q133
                    have hw133_2 := hx133_2
                    have hw133_1 := hx133_1
                    have hw133_0 := hx133_0
                    obtain rfl : ad129 = ad133 := (by injection e133)
                    replace hx133_0 := cl HB hx133_0
                    replace hx133_1 := cl HB hx133_1
                    replace hx133_2 := cl HB hx133_2
                    replace p133 := eq_true p133
                    replace q133 := eq_true q133
                    refine stP (fun w' => w'.cell? ⟨gb130, 0, none⟩ = some (.int .i64 ((rd_Elem l0_7 x8_1).f0)) ∧ w'.cell? ⟨gb130, 1, none⟩ = some (.int .i64 ((rd_Elem l0_7 x8_1).f1)) ∧ w'.cell? ⟨gb130, 2, none⟩ = some (.int .i64 ((rd_Elem l0_7 x8_1).f2)) ∧ w'.cell? ⟨gb128, 0, none⟩ = some (.int .i64 a0_0) ∧ w'.cell? ⟨gb128, 1, none⟩ = some (.int .i64 a0_1) ∧ w'.cell? ⟨gb128, 2, none⟩ = some (.int .i64 a0_2) ∧ w'.cell? ⟨gb128, 3, none⟩ = some (.int .i64 a0_3) ∧ w'.cell? ⟨gb128, 4, none⟩ = some (.int .i64 a0_4) ∧ w'.cell? ⟨gb128, 5, none⟩ = some (.int .i64 a0_5) ∧ w'.cell? ⟨gb128, 6, none⟩ = some (.string a0_6) ∧ w'.cell? ⟨gb128, 7, none⟩ = some (.slice (some ad129) l0_7.length c0_7) ∧ w'.cell? ⟨gb128, 8, none⟩ = some (.int .i64 a0_8) ∧ w'.cell? ⟨gb128, 9, none⟩ = some (.int .i64 a0_9) ∧ w'.cell? ⟨gb128, 10, none⟩ = some (.int .i64 a0_10) ∧ w'.cell? (ad129.add (((ji25)).toNat * 3)) = some (.int .i64 ((rd_Elem l0_7 (ji25)).f0)) ∧ w'.cell? ⟨(ad129.add (((ji25)).toNat * 3)).block, (ad129.add (((ji25)).toNat * 3)).off + 1, none⟩ = some (.int .i64 ((rd_Elem l0_7 (ji25)).f1)) ∧ w'.cell? ⟨(ad129.add (((ji25)).toNat * 3)).block, (ad129.add (((ji25)).toNat * 3)).off + 2, none⟩ = some (.int .i64 ((rd_Elem l0_7 (ji25)).f2))) 28 ⟨bc BK130 0, bc BK130 1, bc BK130 2, bc BK128 0, bc BK128 1, bc BK128 2, bc BK128 3, bc BK128 4, bc BK128 5, bc BK128 6, bc BK128 7, bc BK128 8, bc BK128 9, bc BK128 10, (cl HB hw133_0), (cl HB hw133_1), (cl HB hw133_2)⟩ (h := fun hHeld => ?_); refine with_tabW op_gone.tab4 op_gone.bits4 (fun HT_ HW_ => ?_)
                    generalize w41.drew = w42 at BK128 BK130 HB hx133_0 hx133_1 hx133_2 hHeld ⊢
                    refine pu HT_ 1 14 2 (h := ?_)
                    refine tk HT_ HW_ hHeld 0 13 3 (h := ?_)
                    refine pu HT_ 2 15 7 (h := ?_)
                    refine pu HT_ 3 16 15 (h := ?_)
                    refine tk HT_ HW_ hHeld 4 17 31 (h := ?_)
                    refine on HT_ 5 (some 18) 63 (h := fun K hK => ?_)
                    refine goes_ Tryd.func119 (by kernel_rfl) rfl #[.agg #[.int .i64 ((rd_Elem l0_7 x8_1).f0), .int .i64 ((rd_Elem l0_7 x8_1).f1), .int .i64 ((rd_Elem l0_7 x8_1).f2)]] (by rfl) rfl rfl (by (try simp only [List.map_toArray, List.map_cons, List.map_nil]); first | done | rfl | (simp only [List.length_drop, List.length_take]; rfl)) ?_
                    with_reducible refine (op_IsElem.calls ((rd_Elem l0_7 x8_1).f0) ((rd_Elem l0_7 x8_1).f1) ((rd_Elem l0_7 x8_1).f2) true _ A13.out).mono ?_
                    rintro e w43 ⟨rfl, hb⟩
                    refine ⟨_, rfl, ?_⟩
                    have n0_ := Aside0.mk (blk_below (g := gb128) (o := .cells #[.int .i64 a0_0, .int .i64 a0_1, .int .i64 a0_2, .int .i64 a0_3, .int .i64 a0_4, .int .i64 a0_5, .string a0_6, .slice (some ad129) l0_7.length c0_7, .int .i64 a0_8, .int .i64 a0_9, .int .i64 a0_10] 31 (0, 0)) (by (with_reducible repeat (first | refine blk_drewN ?_ _ | refine blk_drew ?_ | refine blk_alloc ?_ _)); exact BK128.out) hb)
                    have n1_ := Aside0.mk (blk_below (g := gb130) (o := .cells #[.int .i64 ((rd_Elem l0_7 x8_1).f0), .int .i64 ((rd_Elem l0_7 x8_1).f1), .int .i64 ((rd_Elem l0_7 x8_1).f2)] 29 (0, 0)) (by (with_reducible repeat (first | refine blk_drewN ?_ _ | refine blk_drew ?_ | refine blk_alloc ?_ _)); exact BK130.out) hb)
                    have n2_ := Aside0.mk (below_step (by repeat (first | (with_reducible first | exact HB.out | apply below_alloc | apply pw_below_drewN | apply below_drew1 | refine below_set ?_ GE128.out | refine below_set ?_ GE130.out) | exact HB.out)) hb)
                    clear BK128
                    clear BK130
                    clear HB
                    have BK128 := n0_
                    have BK130 := n1_
                    have HB := n2_
                    clear n0_ n1_ n2_
                    (try clear hb)
                    (try clear hb2)
                    (try clear hk)
                    (try clear hi)
                    refine hK.out _ _ ⟨bc BK130 0, bc BK130 1, bc BK130 2, bc BK128 0, bc BK128 1, bc BK128 2, bc BK128 3, bc BK128 4, bc BK128 5, bc BK128 6, bc BK128 7, bc BK128 8, bc BK128 9, bc BK128 10, (cl HB hw133_0), (cl HB hw133_1), (cl HB hw133_2)⟩ (fun hHeld => ?_)
                    clear hK K
                    refine nm (h := ?_)
                    refine pu HT_ 6 19 127 (h := ?_)
                    refine pu HT_ 7 20 255 (h := ?_)
                    refine pu HT_ 8 21 511 (h := ?_)
                    refine tk HT_ HW_ hHeld 9 22 1023 (h := ?_)
                    refine tk HT_ HW_ hHeld 10 23 2047 (h := ?_)
                    refine on HT_ 11 (some 24) 4095 (h := fun K hK => ?_)
                    refine goes_ Tryd.func168 (by kernel_rfl) rfl #[.agg #[.int .i64 a0_0, .int .i64 a0_1, .int .i64 a0_2, .int .i64 a0_3, .int .i64 a0_4, .int .i64 a0_5, .string a0_6, .slice (some ad129) l0_7.length c0_7, .int .i64 a0_8, .int .i64 a0_9, .int .i64 a0_10], .agg #[.int .i64 ((rd_Elem l0_7 x8_1).f0), .int .i64 ((rd_Elem l0_7 x8_1).f1), .int .i64 ((rd_Elem l0_7 x8_1).f2)]] (by rfl) rfl rfl (by (try simp only [List.map_toArray, List.map_cons, List.map_nil]); first | done | rfl | (simp only [List.length_drop, List.length_take]; rfl)) ?_
                    with_reducible refine (op_own.calls a0_0 a0_1 a0_2 a0_3 a0_4 a0_5 a0_6 _ _ l0_7 a0_8 a0_9 a0_10 ((rd_Elem l0_7 x8_1).f0) ((rd_Elem l0_7 x8_1).f1) ((rd_Elem l0_7 x8_1).f2) false _ ?side1 ?side2 A15.out).mono ?_
                    (case side1 => repeat (first | exact (Kd.C_below HR0_7.out HB.out) | (with_reducible refine Kd.C_alloc ?_ _) | (with_reducible refine Kd.C_drewN ?_ _) | (with_reducible refine Kd.C_drew ?_)))
                    (case side2 => exact HC0_7.out)
                    rintro e w44 ⟨rfl, hb⟩
                    refine ⟨_, rfl, ?_⟩
                    have n0_ := Aside0.mk (blk_below (g := gb128) (o := .cells #[.int .i64 a0_0, .int .i64 a0_1, .int .i64 a0_2, .int .i64 a0_3, .int .i64 a0_4, .int .i64 a0_5, .string a0_6, .slice (some ad129) l0_7.length c0_7, .int .i64 a0_8, .int .i64 a0_9, .int .i64 a0_10] 31 (0, 0)) (by (with_reducible repeat (first | refine blk_drewN ?_ _ | refine blk_drew ?_ | refine blk_alloc ?_ _)); exact BK128.out) hb)
                    have n1_ := Aside0.mk (blk_below (g := gb130) (o := .cells #[.int .i64 ((rd_Elem l0_7 x8_1).f0), .int .i64 ((rd_Elem l0_7 x8_1).f1), .int .i64 ((rd_Elem l0_7 x8_1).f2)] 29 (0, 0)) (by (with_reducible repeat (first | refine blk_drewN ?_ _ | refine blk_drew ?_ | refine blk_alloc ?_ _)); exact BK130.out) hb)
                    have n2_ := Aside0.mk (below_step (by repeat (first | (with_reducible first | exact HB.out | apply below_alloc | apply pw_below_drewN | apply below_drew1 | refine below_set ?_ GE128.out | refine below_set ?_ GE130.out) | exact HB.out)) hb)
                    clear BK128
                    clear BK130
                    clear HB
                    have BK128 := n0_
                    have BK130 := n1_
                    have HB := n2_
                    clear n0_ n1_ n2_
                    (try clear hb)
                    (try clear hb2)
                    (try clear hk)
                    (try clear hi)
                    refine hK.out _ _ ⟨bc BK130 0, bc BK130 1, bc BK130 2, bc BK128 0, bc BK128 1, bc BK128 2, bc BK128 3, bc BK128 4, bc BK128 5, bc BK128 6, bc BK128 7, bc BK128 8, bc BK128 9, bc BK128 10, (cl HB hw133_0), (cl HB hw133_1), (cl HB hw133_2)⟩ (fun hHeld => ?_)
                    clear hK K
                    refine nm (h := ?_)
                    refine pu HT_ 12 25 8191 (h := ?_)
                    refine pu HT_ 13 26 16383 (h := ?_)
                    refine pu HT_ 14 27 32767 (h := ?_)
                    refine pu HT_ 15 28 65535 (h := ?_)
                    refine pu HT_ 16 29 131071 (h := ?_)
                    refine pu HT_ 17 30 262143 (h := ?_)
                    refine pu HT_ 19 32 786431 (h := ?_)
                    refine pu HT_ 20 33 1835007 (h := ?_)
                    refine tk HT_ HW_ hHeld 18 31 2097151 (h := ?_)
                    refine pu HT_ 21 34 4194303 (h := ?_)
                    refine tk HT_ HW_ hHeld 22 35 8388607 (h := ?_)
                    refine tk HT_ HW_ hHeld 23 36 16777215 (h := ?_)
                    refine on HT_ 24 (some 37) 33554431 (h := fun K hK => ?_)
                    refine goes_ Tryd.func69 (by kernel_rfl) rfl #[.agg #[.int .i64 ((rd_Elem l0_7 (ji25)).f0), .int .i64 ((rd_Elem l0_7 (ji25)).f1), .int .i64 ((rd_Elem l0_7 (ji25)).f2)], .agg #[.int .i64 ((rd_Elem l0_7 x8_1).f0), .int .i64 ((rd_Elem l0_7 x8_1).f1), .int .i64 ((rd_Elem l0_7 x8_1).f2)]] (by rfl) rfl rfl (by (try simp only [List.map_toArray, List.map_cons, List.map_nil]); first | done | (simp only [hji25]; rfl) | rfl | (simp only [List.length_drop, List.length_take]; rfl)) ?_
                    with_reducible refine (op_Less.calls k1 ((rd_Elem l0_7 (ji25)).f0) ((rd_Elem l0_7 (ji25)).f1) ((rd_Elem l0_7 (ji25)).f2) ((rd_Elem l0_7 x8_1).f0) ((rd_Elem l0_7 x8_1).f1) ((rd_Elem l0_7 x8_1).f2) false _ A28.out).mono ?_
                    rintro e w45 ⟨rfl, hb⟩
                    refine ⟨_, rfl, ?_⟩
                    have n0_ := Aside0.mk (blk_below (g := gb128) (o := .cells #[.int .i64 a0_0, .int .i64 a0_1, .int .i64 a0_2, .int .i64 a0_3, .int .i64 a0_4, .int .i64 a0_5, .string a0_6, .slice (some ad129) l0_7.length c0_7, .int .i64 a0_8, .int .i64 a0_9, .int .i64 a0_10] 31 (0, 0)) (by (with_reducible repeat (first | refine blk_drewN ?_ _ | refine blk_drew ?_ | refine blk_alloc ?_ _)); exact BK128.out) hb)
                    have n1_ := Aside0.mk (blk_below (g := gb130) (o := .cells #[.int .i64 ((rd_Elem l0_7 x8_1).f0), .int .i64 ((rd_Elem l0_7 x8_1).f1), .int .i64 ((rd_Elem l0_7 x8_1).f2)] 29 (0, 0)) (by (with_reducible repeat (first | refine blk_drewN ?_ _ | refine blk_drew ?_ | refine blk_alloc ?_ _)); exact BK130.out) hb)
                    have n2_ := Aside0.mk (below_step (by repeat (first | (with_reducible first | exact HB.out | apply below_alloc | apply pw_below_drewN | apply below_drew1 | refine below_set ?_ GE128.out | refine below_set ?_ GE130.out) | exact HB.out)) hb)
                    clear BK128
                    clear BK130
                    clear HB
                    have BK128 := n0_
                    have BK130 := n1_
                    have HB := n2_
                    clear n0_ n1_ n2_
                    (try clear hb)
                    (try clear hb2)
                    (try clear hk)
                    (try clear hi)
                    refine hK.out _ _ ⟨bc BK130 0, bc BK130 1, bc BK130 2, bc BK128 0, bc BK128 1, bc BK128 2, bc BK128 3, bc BK128 4, bc BK128 5, bc BK128 6, bc BK128 7, bc BK128 8, bc BK128 9, bc BK128 10, (cl HB hw133_0), (cl HB hw133_1), (cl HB hw133_2)⟩ (fun hHeld => ?_)
                    clear hK K
                    refine nm (h := ?_)
                    refine pu HT_ 25 38 67108863 (h := ?_)
                    refine pu HT_ 26 39 134217727 (h := ?_)
                    refine pu HT_ 27 40 268435455 (h := ?_)
                    refine dn HT_ (h := ?_)
                    try go_wp2
                    go_ret
                    exact ⟨by first | rfl | (simp [errW_none, errW_some] <;> rfl) | (simp only [← hji25]; first | rfl | (simp [errW_none, errW_some] <;> rfl)) | (simp [*, errW_none, errW_some] <;> rfl), by repeat (first | (with_reducible first | exact HB.out | apply below_alloc | apply pw_below_drewN | apply below_drew1 | refine below_set ?_ GE128.out | refine below_set ?_ GE130.out) | exact HB.out)⟩
                  rw [if_neg c27] at H
                  exact absurd H (by simp)
                rw [if_neg c26] at H
                exact absurd H (by simp)
              rw [if_neg c24] at H
              have c24b0 : decide (0 < x8_1) = false := decide_eq_false c24
              clear c24
              have H' := Aside0.mk H
              clear H
              have p129 : 0 ≤ (x8_1 : Int) := of_decide_eq_true (by first | (with_reducible assumption) | assumption)
              have q129 : x8_1 < (l0_7.length : Int) := of_decide_eq_true (by first | (with_reducible assumption) | assumption)
              obtain ⟨ad129, e129, hx129_0, hx129_1, hx129_2⟩ := at_Elem HR0_7.out x8_1 p129 q129
              cases e129
              replace hx129_0 := cl HB hx129_0
              replace hx129_1 := cl HB hx129_1
              replace hx129_2 := cl HB hx129_2
              replace p129 := eq_true p129
              replace q129 := eq_true q129
              try go_wp2_with (first | ((with_reducible refine gate_dst (N := 4) rfl ?_); refine box_event ?hg (N := 4) ?hd (cs := #[.int .i64 0, .int .i64 0, .int .i64 0]) (t := 29) ?hr ?_; (case hd => rfl); (case hg => rfl); (case hr => first | (go_simp; done) | (go_simp; rfl)); intro gb130 hg w46 hbox hb; have n0_ := Aside0.mk (blk_below (g := gb128) (o := .cells #[.int .i64 a0_0, .int .i64 a0_1, .int .i64 a0_2, .int .i64 a0_3, .int .i64 a0_4, .int .i64 a0_5, .string a0_6, .slice (some ad129) l0_7.length c0_7, .int .i64 a0_8, .int .i64 a0_9, .int .i64 a0_10] 31 (0, 0)) (by (with_reducible repeat (first | refine blk_drewN ?_ _ | refine blk_drew ?_ | refine blk_alloc ?_ _)); exact BK128.out) hb); have n1_ := Aside0.mk (below_step (by repeat (first | (with_reducible first | exact HB.out | apply below_alloc | apply pw_below_drewN | apply below_drew1 | refine below_set ?_ GE128.out) | exact HB.out)) hb); have n2_ := Aside0.mk (hbox); have n3_ := Aside0.mk ((by rw [hg]; exact (below_size (by repeat (first | (with_reducible first | exact HB.out | apply below_alloc | apply pw_below_drewN | apply below_drew1 | refine below_set ?_ GE128.out) | exact HB.out))) : w.heap.size ≤ gb130)); have n4_ := Aside0.mk ((by rw [hg]; exact (below_size (by repeat (first | (with_reducible first | exact HB.out | apply below_alloc | apply pw_below_drewN | apply below_drew1 | refine below_set ?_ GE128.out) | exact HB.out))) : w.heap.size ≤ gb130)); have n5_ := Aside0.mk ((by rw [hg]; exact Nat.ne_of_lt (blk_lt (g := gb128) (o := .cells #[.int .i64 a0_0, .int .i64 a0_1, .int .i64 a0_2, .int .i64 a0_3, .int .i64 a0_4, .int .i64 a0_5, .string a0_6, .slice (some ad129) l0_7.length c0_7, .int .i64 a0_8, .int .i64 a0_9, .int .i64 a0_10] 31 (0, 0)) (by (with_reducible repeat (first | refine blk_drewN ?_ _ | refine blk_drew ?_ | refine blk_alloc ?_ _)); exact BK128.out)) : gb128 ≠ gb130)); have n6_ := Aside0.mk ((by rw [hg]; exact Nat.ne_of_gt (blk_lt (g := gb128) (o := .cells #[.int .i64 a0_0, .int .i64 a0_1, .int .i64 a0_2, .int .i64 a0_3, .int .i64 a0_4, .int .i64 a0_5, .string a0_6, .slice (some ad129) l0_7.length c0_7, .int .i64 a0_8, .int .i64 a0_9, .int .i64 a0_10] 31 (0, 0)) (by (with_reducible repeat (first | refine blk_drewN ?_ _ | refine blk_drew ?_ | refine blk_alloc ?_ _)); exact BK128.out)) : gb130 ≠ gb128)); clear BK128; clear HB; have BK128 := n0_; have HB := n1_; have BK130 := n2_; have GW130 := n3_; have GE130 := n4_; have NB128_130 := n5_; have NB130_128 := n6_; clear n0_ n1_ n2_ n3_ n4_ n5_ n6_; clear hb hbox hg; have hnb47 := NB130_128.out; have hnc47 := NB128_130.out; have hcz48_0 : w46.cell? ⟨gb130, 0, none⟩ = some (.int .i64 0) := bc BK130 0; have hcz48_1 : w46.cell? ⟨gb130, 1, none⟩ = some (.int .i64 0) := bc BK130 1; have hcz48_2 : w46.cell? ⟨gb130, 2, none⟩ = some (.int .i64 0) := bc BK130 2; have hfz48_0 := bf BK130 0; have hfz48_1 := bf BK130 1; have hfz48_2 := bf BK130 2))
              have n0_ : Aside0 ((((w46.setCell ⟨gb130, 0, none⟩ (.int .i64 ((rd_Elem l0_7 x8_1).f0))).setCell ⟨gb130, 1, none⟩ (.int .i64 ((rd_Elem l0_7 x8_1).f1))).setCell ⟨gb130, 2, none⟩ (.int .i64 ((rd_Elem l0_7 x8_1).f2))).heap[gb128]? = some (.cells #[.int .i64 a0_0, .int .i64 a0_1, .int .i64 a0_2, .int .i64 a0_3, .int .i64 a0_4, .int .i64 a0_5, .string a0_6, .slice (some ad129) l0_7.length c0_7, .int .i64 a0_8, .int .i64 a0_9, .int .i64 a0_10] 31 (0, 0))) := ⟨by (with_reducible repeat (first | refine blk_drewN ?_ _ | refine blk_drew ?_ | refine blk_alloc ?_ _)); refine blk_far ?_ NB128_130.out _; (with_reducible repeat (first | refine blk_drewN ?_ _ | refine blk_drew ?_ | refine blk_alloc ?_ _)); refine blk_far ?_ NB128_130.out _; (with_reducible repeat (first | refine blk_drewN ?_ _ | refine blk_drew ?_ | refine blk_alloc ?_ _)); refine blk_far ?_ NB128_130.out _; (with_reducible repeat (first | refine blk_drewN ?_ _ | refine blk_drew ?_ | refine blk_alloc ?_ _)); exact BK128.out⟩
              have n1_ : Aside0 ((((w46.setCell ⟨gb130, 0, none⟩ (.int .i64 ((rd_Elem l0_7 x8_1).f0))).setCell ⟨gb130, 1, none⟩ (.int .i64 ((rd_Elem l0_7 x8_1).f1))).setCell ⟨gb130, 2, none⟩ (.int .i64 ((rd_Elem l0_7 x8_1).f2))).heap[gb130]? = some (.cells #[.int .i64 ((rd_Elem l0_7 x8_1).f0), .int .i64 ((rd_Elem l0_7 x8_1).f1), .int .i64 ((rd_Elem l0_7 x8_1).f2)] 29 (0, 0))) := ⟨by (with_reducible repeat (first | refine blk_drewN ?_ _ | refine blk_drew ?_ | refine blk_alloc ?_ _)); refine blk_put (cs := #[.int .i64 ((rd_Elem l0_7 x8_1).f0), .int .i64 ((rd_Elem l0_7 x8_1).f1), .int .i64 0]) ?_ 2 _ rfl; (with_reducible repeat (first | refine blk_drewN ?_ _ | refine blk_drew ?_ | refine blk_alloc ?_ _)); refine blk_put (cs := #[.int .i64 ((rd_Elem l0_7 x8_1).f0), .int .i64 0, .int .i64 0]) ?_ 1 _ rfl; (with_reducible repeat (first | refine blk_drewN ?_ _ | refine blk_drew ?_ | refine blk_alloc ?_ _)); refine blk_put (cs := #[.int .i64 0, .int .i64 0, .int .i64 0]) ?_ 0 _ rfl; (with_reducible repeat (first | refine blk_drewN ?_ _ | refine blk_drew ?_ | refine blk_alloc ?_ _)); exact BK130.out⟩
              have n2_ : Aside0 (Below w.heap.size w (((w46.setCell ⟨gb130, 0, none⟩ (.int .i64 ((rd_Elem l0_7 x8_1).f0))).setCell ⟨gb130, 1, none⟩ (.int .i64 ((rd_Elem l0_7 x8_1).f1))).setCell ⟨gb130, 2, none⟩ (.int .i64 ((rd_Elem l0_7 x8_1).f2)))) := ⟨by repeat (first | (with_reducible first | exact HB.out | apply below_alloc | apply pw_below_drewN | apply below_drew1 | refine below_set ?_ GE128.out | refine below_set ?_ GE130.out) | exact HB.out)⟩
              (try clear BK128)
              (try clear BK130)
              (try clear HB)
              generalize (((w46.setCell ⟨gb130, 0, none⟩ (.int .i64 ((rd_Elem l0_7 x8_1).f0))).setCell ⟨gb130, 1, none⟩ (.int .i64 ((rd_Elem l0_7 x8_1).f1))).setCell ⟨gb130, 2, none⟩ (.int .i64 ((rd_Elem l0_7 x8_1).f2))) = w49 at n0_ n1_ n2_ ⊢
              have BK128 := n0_
              have BK130 := n1_
              have HB := n2_
              clear n0_ n1_ n2_
              have n0_ := Aside0.mk (blk_drew BK128.out)
              have n1_ := Aside0.mk (blk_drew BK130.out)
              have n2_ := Aside0.mk (below_drew1 HB.out)
              clear BK128
              clear BK130
              clear HB
              have BK128 := n0_
              have BK130 := n1_
              have HB := n2_
              clear n0_ n1_ n2_
              refine stP (fun w' => w'.cell? ⟨gb130, 0, none⟩ = some (.int .i64 ((rd_Elem l0_7 x8_1).f0)) ∧ w'.cell? ⟨gb130, 1, none⟩ = some (.int .i64 ((rd_Elem l0_7 x8_1).f1)) ∧ w'.cell? ⟨gb130, 2, none⟩ = some (.int .i64 ((rd_Elem l0_7 x8_1).f2)) ∧ w'.cell? ⟨gb128, 0, none⟩ = some (.int .i64 a0_0) ∧ w'.cell? ⟨gb128, 1, none⟩ = some (.int .i64 a0_1) ∧ w'.cell? ⟨gb128, 2, none⟩ = some (.int .i64 a0_2) ∧ w'.cell? ⟨gb128, 3, none⟩ = some (.int .i64 a0_3) ∧ w'.cell? ⟨gb128, 4, none⟩ = some (.int .i64 a0_4) ∧ w'.cell? ⟨gb128, 5, none⟩ = some (.int .i64 a0_5) ∧ w'.cell? ⟨gb128, 6, none⟩ = some (.string a0_6) ∧ w'.cell? ⟨gb128, 7, none⟩ = some (.slice (some ad129) l0_7.length c0_7) ∧ w'.cell? ⟨gb128, 8, none⟩ = some (.int .i64 a0_8) ∧ w'.cell? ⟨gb128, 9, none⟩ = some (.int .i64 a0_9) ∧ w'.cell? ⟨gb128, 10, none⟩ = some (.int .i64 a0_10)) 28 ⟨bc BK130 0, bc BK130 1, bc BK130 2, bc BK128 0, bc BK128 1, bc BK128 2, bc BK128 3, bc BK128 4, bc BK128 5, bc BK128 6, bc BK128 7, bc BK128 8, bc BK128 9, bc BK128 10⟩ (h := fun hHeld => ?_); refine with_tabW op_gone.tab4 op_gone.bits4 (fun HT_ HW_ => ?_)
              generalize w49.drew = w50 at BK128 BK130 HB hHeld ⊢
              refine pu HT_ 1 14 2 (h := ?_)
              refine tk HT_ HW_ hHeld 0 13 3 (h := ?_)
              refine pu HT_ 2 15 7 (h := ?_)
              refine pu HT_ 3 16 15 (h := ?_)
              refine tk HT_ HW_ hHeld 4 17 31 (h := ?_)
              refine on HT_ 5 (some 18) 63 (h := fun K hK => ?_)
              refine goes_ Tryd.func119 (by kernel_rfl) rfl #[.agg #[.int .i64 ((rd_Elem l0_7 x8_1).f0), .int .i64 ((rd_Elem l0_7 x8_1).f1), .int .i64 ((rd_Elem l0_7 x8_1).f2)]] (by rfl) rfl rfl (by (try simp only [List.map_toArray, List.map_cons, List.map_nil]); first | done | rfl | (simp only [List.length_drop, List.length_take]; rfl)) ?_
              with_reducible refine (op_IsElem.calls ((rd_Elem l0_7 x8_1).f0) ((rd_Elem l0_7 x8_1).f1) ((rd_Elem l0_7 x8_1).f2) true _ A13.out).mono ?_
              rintro e w51 ⟨rfl, hb⟩
              refine ⟨_, rfl, ?_⟩
              have n0_ := Aside0.mk (blk_below (g := gb128) (o := .cells #[.int .i64 a0_0, .int .i64 a0_1, .int .i64 a0_2, .int .i64 a0_3, .int .i64 a0_4, .int .i64 a0_5, .string a0_6, .slice (some ad129) l0_7.length c0_7, .int .i64 a0_8, .int .i64 a0_9, .int .i64 a0_10] 31 (0, 0)) (by (with_reducible repeat (first | refine blk_drewN ?_ _ | refine blk_drew ?_ | refine blk_alloc ?_ _)); exact BK128.out) hb)
              have n1_ := Aside0.mk (blk_below (g := gb130) (o := .cells #[.int .i64 ((rd_Elem l0_7 x8_1).f0), .int .i64 ((rd_Elem l0_7 x8_1).f1), .int .i64 ((rd_Elem l0_7 x8_1).f2)] 29 (0, 0)) (by (with_reducible repeat (first | refine blk_drewN ?_ _ | refine blk_drew ?_ | refine blk_alloc ?_ _)); exact BK130.out) hb)
              have n2_ := Aside0.mk (below_step (by repeat (first | (with_reducible first | exact HB.out | apply below_alloc | apply pw_below_drewN | apply below_drew1 | refine below_set ?_ GE128.out | refine below_set ?_ GE130.out) | exact HB.out)) hb)
              clear BK128
              clear BK130
              clear HB
              have BK128 := n0_
              have BK130 := n1_
              have HB := n2_
              clear n0_ n1_ n2_
              (try clear hb)
              (try clear hb2)
              (try clear hk)
              (try clear hi)
              refine hK.out _ _ ⟨bc BK130 0, bc BK130 1, bc BK130 2, bc BK128 0, bc BK128 1, bc BK128 2, bc BK128 3, bc BK128 4, bc BK128 5, bc BK128 6, bc BK128 7, bc BK128 8, bc BK128 9, bc BK128 10⟩ (fun hHeld => ?_)
              clear hK K
              refine nm (h := ?_)
              refine pu HT_ 6 19 127 (h := ?_)
              refine pu HT_ 7 20 255 (h := ?_)
              refine pu HT_ 8 21 511 (h := ?_)
              refine tk HT_ HW_ hHeld 9 22 1023 (h := ?_)
              refine tk HT_ HW_ hHeld 10 23 2047 (h := ?_)
              refine on HT_ 11 (some 24) 4095 (h := fun K hK => ?_)
              refine goes_ Tryd.func168 (by kernel_rfl) rfl #[.agg #[.int .i64 a0_0, .int .i64 a0_1, .int .i64 a0_2, .int .i64 a0_3, .int .i64 a0_4, .int .i64 a0_5, .string a0_6, .slice (some ad129) l0_7.length c0_7, .int .i64 a0_8, .int .i64 a0_9, .int .i64 a0_10], .agg #[.int .i64 ((rd_Elem l0_7 x8_1).f0), .int .i64 ((rd_Elem l0_7 x8_1).f1), .int .i64 ((rd_Elem l0_7 x8_1).f2)]] (by rfl) rfl rfl (by (try simp only [List.map_toArray, List.map_cons, List.map_nil]); first | done | rfl | (simp only [List.length_drop, List.length_take]; rfl)) ?_
              with_reducible refine (op_own.calls a0_0 a0_1 a0_2 a0_3 a0_4 a0_5 a0_6 _ _ l0_7 a0_8 a0_9 a0_10 ((rd_Elem l0_7 x8_1).f0) ((rd_Elem l0_7 x8_1).f1) ((rd_Elem l0_7 x8_1).f2) false _ ?side1 ?side2 A15.out).mono ?_
              (case side1 => repeat (first | exact (Kd.C_below HR0_7.out HB.out) | (with_reducible refine Kd.C_alloc ?_ _) | (with_reducible refine Kd.C_drewN ?_ _) | (with_reducible refine Kd.C_drew ?_)))
              (case side2 => exact HC0_7.out)
              rintro e w52 ⟨rfl, hb⟩
              refine ⟨_, rfl, ?_⟩
              have n0_ := Aside0.mk (blk_below (g := gb128) (o := .cells #[.int .i64 a0_0, .int .i64 a0_1, .int .i64 a0_2, .int .i64 a0_3, .int .i64 a0_4, .int .i64 a0_5, .string a0_6, .slice (some ad129) l0_7.length c0_7, .int .i64 a0_8, .int .i64 a0_9, .int .i64 a0_10] 31 (0, 0)) (by (with_reducible repeat (first | refine blk_drewN ?_ _ | refine blk_drew ?_ | refine blk_alloc ?_ _)); exact BK128.out) hb)
              have n1_ := Aside0.mk (blk_below (g := gb130) (o := .cells #[.int .i64 ((rd_Elem l0_7 x8_1).f0), .int .i64 ((rd_Elem l0_7 x8_1).f1), .int .i64 ((rd_Elem l0_7 x8_1).f2)] 29 (0, 0)) (by (with_reducible repeat (first | refine blk_drewN ?_ _ | refine blk_drew ?_ | refine blk_alloc ?_ _)); exact BK130.out) hb)
              have n2_ := Aside0.mk (below_step (by repeat (first | (with_reducible first | exact HB.out | apply below_alloc | apply pw_below_drewN | apply below_drew1 | refine below_set ?_ GE128.out | refine below_set ?_ GE130.out) | exact HB.out)) hb)
              clear BK128
              clear BK130
              clear HB
              have BK128 := n0_
              have BK130 := n1_
              have HB := n2_
              clear n0_ n1_ n2_
              (try clear hb)
              (try clear hb2)
              (try clear hk)
              (try clear hi)
              refine hK.out _ _ ⟨bc BK130 0, bc BK130 1, bc BK130 2, bc BK128 0, bc BK128 1, bc BK128 2, bc BK128 3, bc BK128 4, bc BK128 5, bc BK128 6, bc BK128 7, bc BK128 8, bc BK128 9, bc BK128 10⟩ (fun hHeld => ?_)
              clear hK K
              refine nm (h := ?_)
              refine pu HT_ 12 25 8191 (h := ?_)
              refine pu HT_ 13 26 16383 (h := ?_)
              refine pu HT_ 14 27 32767 (h := ?_)
              refine pu HT_ 15 28 65535 (h := ?_)
              refine pu HT_ 16 29 131071 (h := ?_)
              refine off HT_ 17 30 262143 (h := ?_)
              refine off HT_ 18 31 524287 (h := ?_)
              refine off HT_ 19 32 1048575 (h := ?_)
              refine off HT_ 20 33 2097151 (h := ?_)
              refine off HT_ 21 34 4194303 (h := ?_)
              refine off HT_ 22 35 8388607 (h := ?_)
              refine off HT_ 23 36 16777215 (h := ?_)
              refine off HT_ 24 37 33554431 (h := ?_)
              refine off HT_ 25 38 67108863 (h := ?_)
              refine pu HT_ 26 39 134217727 (h := ?_)
              refine pu HT_ 27 40 268435455 (h := ?_)
              refine dn HT_ (h := ?_)
              try go_wp2
              go_roundg k1
              case measure => have := HK1.out; omega
              case rel => exact ⟨(wrap64 (x8_1 + 1)), (by first | rfl | (simp; done) | (simp [*]; done)), H', ⟨by have := HK1.out; omega⟩, ⟨by (with_reducible repeat (first | refine blk_drewN ?_ _ | refine blk_drew ?_ | refine blk_alloc ?_ _)); exact BK128.out⟩, ⟨by repeat (first | (with_reducible first | exact HB.out | apply below_alloc | apply pw_below_drewN | apply below_drew1 | refine below_set ?_ GE128.out | refine below_set ?_ GE130.out) | exact HB.out)⟩⟩
            replace c14 := Bool.eq_false_iff.mpr c14
            subst c14
            have H1 : (some false) = some r := by rw [if_neg (show ¬ (false = true) by decide)] at H; exact H
            clear H
            have H := H1
            clear H1
            obtain rfl := Option.some.inj H
            have p129 : 0 ≤ (x8_1 : Int) := of_decide_eq_true (by first | (with_reducible assumption) | assumption)
            have q129 : x8_1 < (l0_7.length : Int) := of_decide_eq_true (by first | (with_reducible assumption) | assumption)
            obtain ⟨ad129, e129, hx129_0, hx129_1, hx129_2⟩ := at_Elem HR0_7.out x8_1 p129 q129
            cases e129
            replace hx129_0 := cl HB hx129_0
            replace hx129_1 := cl HB hx129_1
            replace hx129_2 := cl HB hx129_2
            replace p129 := eq_true p129
            replace q129 := eq_true q129
            try go_wp2_with (first | ((with_reducible refine gate_dst (N := 4) rfl ?_); refine box_event ?hg (N := 4) ?hd (cs := #[.int .i64 0, .int .i64 0, .int .i64 0]) (t := 29) ?hr ?_; (case hd => rfl); (case hg => rfl); (case hr => first | (go_simp; done) | (go_simp; rfl)); intro gb130 hg w53 hbox hb; have n0_ := Aside0.mk (blk_below (g := gb128) (o := .cells #[.int .i64 a0_0, .int .i64 a0_1, .int .i64 a0_2, .int .i64 a0_3, .int .i64 a0_4, .int .i64 a0_5, .string a0_6, .slice (some ad129) l0_7.length c0_7, .int .i64 a0_8, .int .i64 a0_9, .int .i64 a0_10] 31 (0, 0)) (by (with_reducible repeat (first | refine blk_drewN ?_ _ | refine blk_drew ?_ | refine blk_alloc ?_ _)); exact BK128.out) hb); have n1_ := Aside0.mk (below_step (by repeat (first | (with_reducible first | exact HB.out | apply below_alloc | apply pw_below_drewN | apply below_drew1 | refine below_set ?_ GE128.out) | exact HB.out)) hb); have n2_ := Aside0.mk (hbox); have n3_ := Aside0.mk ((by rw [hg]; exact (below_size (by repeat (first | (with_reducible first | exact HB.out | apply below_alloc | apply pw_below_drewN | apply below_drew1 | refine below_set ?_ GE128.out) | exact HB.out))) : w.heap.size ≤ gb130)); have n4_ := Aside0.mk ((by rw [hg]; exact (below_size (by repeat (first | (with_reducible first | exact HB.out | apply below_alloc | apply pw_below_drewN | apply below_drew1 | refine below_set ?_ GE128.out) | exact HB.out))) : w.heap.size ≤ gb130)); have n5_ := Aside0.mk ((by rw [hg]; exact Nat.ne_of_lt (blk_lt (g := gb128) (o := .cells #[.int .i64 a0_0, .int .i64 a0_1, .int .i64 a0_2, .int .i64 a0_3, .int .i64 a0_4, .int .i64 a0_5, .string a0_6, .slice (some ad129) l0_7.length c0_7, .int .i64 a0_8, .int .i64 a0_9, .int .i64 a0_10] 31 (0, 0)) (by (with_reducible repeat (first | refine blk_drewN ?_ _ | refine blk_drew ?_ | refine blk_alloc ?_ _)); exact BK128.out)) : gb128 ≠ gb130)); have n6_ := Aside0.mk ((by rw [hg]; exact Nat.ne_of_gt (blk_lt (g := gb128) (o := .cells #[.int .i64 a0_0, .int .i64 a0_1, .int .i64 a0_2, .int .i64 a0_3, .int .i64 a0_4, .int .i64 a0_5, .string a0_6, .slice (some ad129) l0_7.length c0_7, .int .i64 a0_8, .int .i64 a0_9, .int .i64 a0_10] 31 (0, 0)) (by (with_reducible repeat (first | refine blk_drewN ?_ _ | refine blk_drew ?_ | refine blk_alloc ?_ _)); exact BK128.out)) : gb130 ≠ gb128)); clear BK128; clear HB; have BK128 := n0_; have HB := n1_; have BK130 := n2_; have GW130 := n3_; have GE130 := n4_; have NB128_130 := n5_; have NB130_128 := n6_; clear n0_ n1_ n2_ n3_ n4_ n5_ n6_; clear hb hbox hg; have hnb54 := NB130_128.out; have hnc54 := NB128_130.out; have hcz55_0 : w53.cell? ⟨gb130, 0, none⟩ = some (.int .i64 0) := bc BK130 0; have hcz55_1 : w53.cell? ⟨gb130, 1, none⟩ = some (.int .i64 0) := bc BK130 1; have hcz55_2 : w53.cell? ⟨gb130, 2, none⟩ = some (.int .i64 0) := bc BK130 2; have hfz55_0 := bf BK130 0; have hfz55_1 := bf BK130 1; have hfz55_2 := bf BK130 2))
            have n0_ : Aside0 ((((w53.setCell ⟨gb130, 0, none⟩ (.int .i64 ((rd_Elem l0_7 x8_1).f0))).setCell ⟨gb130, 1, none⟩ (.int .i64 ((rd_Elem l0_7 x8_1).f1))).setCell ⟨gb130, 2, none⟩ (.int .i64 ((rd_Elem l0_7 x8_1).f2))).heap[gb128]? = some (.cells #[.int .i64 a0_0, .int .i64 a0_1, .int .i64 a0_2, .int .i64 a0_3, .int .i64 a0_4, .int .i64 a0_5, .string a0_6, .slice (some ad129) l0_7.length c0_7, .int .i64 a0_8, .int .i64 a0_9, .int .i64 a0_10] 31 (0, 0))) := ⟨by (with_reducible repeat (first | refine blk_drewN ?_ _ | refine blk_drew ?_ | refine blk_alloc ?_ _)); refine blk_far ?_ NB128_130.out _; (with_reducible repeat (first | refine blk_drewN ?_ _ | refine blk_drew ?_ | refine blk_alloc ?_ _)); refine blk_far ?_ NB128_130.out _; (with_reducible repeat (first | refine blk_drewN ?_ _ | refine blk_drew ?_ | refine blk_alloc ?_ _)); refine blk_far ?_ NB128_130.out _; (with_reducible repeat (first | refine blk_drewN ?_ _ | refine blk_drew ?_ | refine blk_alloc ?_ _)); exact BK128.out⟩
            have n1_ : Aside0 ((((w53.setCell ⟨gb130, 0, none⟩ (.int .i64 ((rd_Elem l0_7 x8_1).f0))).setCell ⟨gb130, 1, none⟩ (.int .i64 ((rd_Elem l0_7 x8_1).f1))).setCell ⟨gb130, 2, none⟩ (.int .i64 ((rd_Elem l0_7 x8_1).f2))).heap[gb130]? = some (.cells #[.int .i64 ((rd_Elem l0_7 x8_1).f0), .int .i64 ((rd_Elem l0_7 x8_1).f1), .int .i64 ((rd_Elem l0_7 x8_1).f2)] 29 (0, 0))) := ⟨by (with_reducible repeat (first | refine blk_drewN ?_ _ | refine blk_drew ?_ | refine blk_alloc ?_ _)); refine blk_put (cs := #[.int .i64 ((rd_Elem l0_7 x8_1).f0), .int .i64 ((rd_Elem l0_7 x8_1).f1), .int .i64 0]) ?_ 2 _ rfl; (with_reducible repeat (first | refine blk_drewN ?_ _ | refine blk_drew ?_ | refine blk_alloc ?_ _)); refine blk_put (cs := #[.int .i64 ((rd_Elem l0_7 x8_1).f0), .int .i64 0, .int .i64 0]) ?_ 1 _ rfl; (with_reducible repeat (first | refine blk_drewN ?_ _ | refine blk_drew ?_ | refine blk_alloc ?_ _)); refine blk_put (cs := #[.int .i64 0, .int .i64 0, .int .i64 0]) ?_ 0 _ rfl; (with_reducible repeat (first | refine blk_drewN ?_ _ | refine blk_drew ?_ | refine blk_alloc ?_ _)); exact BK130.out⟩
            have n2_ : Aside0 (Below w.heap.size w (((w53.setCell ⟨gb130, 0, none⟩ (.int .i64 ((rd_Elem l0_7 x8_1).f0))).setCell ⟨gb130, 1, none⟩ (.int .i64 ((rd_Elem l0_7 x8_1).f1))).setCell ⟨gb130, 2, none⟩ (.int .i64 ((rd_Elem l0_7 x8_1).f2)))) := ⟨by repeat (first | (with_reducible first | exact HB.out | apply below_alloc | apply pw_below_drewN | apply below_drew1 | refine below_set ?_ GE128.out | refine below_set ?_ GE130.out) | exact HB.out)⟩
            (try clear BK128)
            (try clear BK130)
            (try clear HB)
            generalize (((w53.setCell ⟨gb130, 0, none⟩ (.int .i64 ((rd_Elem l0_7 x8_1).f0))).setCell ⟨gb130, 1, none⟩ (.int .i64 ((rd_Elem l0_7 x8_1).f1))).setCell ⟨gb130, 2, none⟩ (.int .i64 ((rd_Elem l0_7 x8_1).f2))) = w56 at n0_ n1_ n2_ ⊢
            have BK128 := n0_
            have BK130 := n1_
            have HB := n2_
            clear n0_ n1_ n2_
            have n0_ := Aside0.mk (blk_drew BK128.out)
            have n1_ := Aside0.mk (blk_drew BK130.out)
            have n2_ := Aside0.mk (below_drew1 HB.out)
            clear BK128
            clear BK130
            clear HB
            have BK128 := n0_
            have BK130 := n1_
            have HB := n2_
            clear n0_ n1_ n2_
            refine stP (fun w' => w'.cell? ⟨gb130, 0, none⟩ = some (.int .i64 ((rd_Elem l0_7 x8_1).f0)) ∧ w'.cell? ⟨gb130, 1, none⟩ = some (.int .i64 ((rd_Elem l0_7 x8_1).f1)) ∧ w'.cell? ⟨gb130, 2, none⟩ = some (.int .i64 ((rd_Elem l0_7 x8_1).f2))) 28 ⟨bc BK130 0, bc BK130 1, bc BK130 2⟩ (h := fun hHeld => ?_); refine with_tabW op_gone.tab4 op_gone.bits4 (fun HT_ HW_ => ?_)
            generalize w56.drew = w57 at BK128 BK130 HB hHeld ⊢
            refine pu HT_ 1 14 2 (h := ?_)
            refine tk HT_ HW_ hHeld 0 13 3 (h := ?_)
            refine pu HT_ 2 15 7 (h := ?_)
            refine pu HT_ 3 16 15 (h := ?_)
            refine tk HT_ HW_ hHeld 4 17 31 (h := ?_)
            refine on HT_ 5 (some 18) 63 (h := fun K hK => ?_)
            refine goes_ Tryd.func119 (by kernel_rfl) rfl #[.agg #[.int .i64 ((rd_Elem l0_7 x8_1).f0), .int .i64 ((rd_Elem l0_7 x8_1).f1), .int .i64 ((rd_Elem l0_7 x8_1).f2)]] (by rfl) rfl rfl (by (try simp only [List.map_toArray, List.map_cons, List.map_nil]); first | done | rfl | (simp only [List.length_drop, List.length_take]; rfl)) ?_
            with_reducible refine (op_IsElem.calls ((rd_Elem l0_7 x8_1).f0) ((rd_Elem l0_7 x8_1).f1) ((rd_Elem l0_7 x8_1).f2) false _ A13.out).mono ?_
            rintro e w58 ⟨rfl, hb⟩
            refine ⟨_, rfl, ?_⟩
            have n0_ := Aside0.mk (blk_below (g := gb128) (o := .cells #[.int .i64 a0_0, .int .i64 a0_1, .int .i64 a0_2, .int .i64 a0_3, .int .i64 a0_4, .int .i64 a0_5, .string a0_6, .slice (some ad129) l0_7.length c0_7, .int .i64 a0_8, .int .i64 a0_9, .int .i64 a0_10] 31 (0, 0)) (by (with_reducible repeat (first | refine blk_drewN ?_ _ | refine blk_drew ?_ | refine blk_alloc ?_ _)); exact BK128.out) hb)
            have n1_ := Aside0.mk (blk_below (g := gb130) (o := .cells #[.int .i64 ((rd_Elem l0_7 x8_1).f0), .int .i64 ((rd_Elem l0_7 x8_1).f1), .int .i64 ((rd_Elem l0_7 x8_1).f2)] 29 (0, 0)) (by (with_reducible repeat (first | refine blk_drewN ?_ _ | refine blk_drew ?_ | refine blk_alloc ?_ _)); exact BK130.out) hb)
            have n2_ := Aside0.mk (below_step (by repeat (first | (with_reducible first | exact HB.out | apply below_alloc | apply pw_below_drewN | apply below_drew1 | refine below_set ?_ GE128.out | refine below_set ?_ GE130.out) | exact HB.out)) hb)
            clear BK128
            clear BK130
            clear HB
            have BK128 := n0_
            have BK130 := n1_
            have HB := n2_
            clear n0_ n1_ n2_
            (try clear hb)
            (try clear hb2)
            (try clear hk)
            (try clear hi)
            refine hK.out _ _ ⟨bc BK130 0, bc BK130 1, bc BK130 2⟩ (fun hHeld => ?_)
            clear hK K
            refine nm (h := ?_)
            refine pu HT_ 6 19 127 (h := ?_)
            refine pu HT_ 7 20 255 (h := ?_)
            refine pu HT_ 8 21 511 (h := ?_)
            refine off HT_ 9 22 1023 (h := ?_)
            refine off HT_ 10 23 2047 (h := ?_)
            refine off HT_ 11 24 4095 (h := ?_)
            refine pu HT_ 12 25 8191 (h := ?_)
            refine pu HT_ 13 26 16383 (h := ?_)
            refine off HT_ 14 27 32767 (h := ?_)
            refine off HT_ 15 28 65535 (h := ?_)
            refine off HT_ 16 29 131071 (h := ?_)
            refine off HT_ 17 30 262143 (h := ?_)
            refine off HT_ 18 31 524287 (h := ?_)
            refine off HT_ 19 32 1048575 (h := ?_)
            refine off HT_ 20 33 2097151 (h := ?_)
            refine off HT_ 21 34 4194303 (h := ?_)
            refine off HT_ 22 35 8388607 (h := ?_)
            refine off HT_ 23 36 16777215 (h := ?_)
            refine off HT_ 24 37 33554431 (h := ?_)
            refine off HT_ 25 38 67108863 (h := ?_)
            refine off HT_ 26 39 134217727 (h := ?_)
            refine pu HT_ 27 40 268435455 (h := ?_)
            refine dn HT_ (h := ?_)
            try go_wp2
            go_ret
            exact ⟨by first | rfl | (simp [errW_none, errW_some] <;> rfl) | (simp [*, errW_none, errW_some] <;> rfl), by repeat (first | (with_reducible first | exact HB.out | apply below_alloc | apply pw_below_drewN | apply below_drew1 | refine below_set ?_ GE128.out | refine below_set ?_ GE130.out) | exact HB.out)⟩
          rw [if_neg c6] at H
          exact absurd H (by simp)
        rw [if_neg c5] at H
        exact absurd H (by simp)
      rw [if_neg c4] at H
      have c4b0 : decide (x8_1 < (l0_7.length : Int)) = false := decide_eq_false c4
      clear c4
      obtain rfl := Option.some.inj H
      have hcz59_0 : wr.cell? ⟨gb128, 0, none⟩ = some (.int .i64 a0_0) := bc BK128 0
      have hcz59_1 : wr.cell? ⟨gb128, 1, none⟩ = some (.int .i64 a0_1) := bc BK128 1
      have hcz59_2 : wr.cell? ⟨gb128, 2, none⟩ = some (.int .i64 a0_2) := bc BK128 2
      have hcz59_3 : wr.cell? ⟨gb128, 3, none⟩ = some (.int .i64 a0_3) := bc BK128 3
      have hcz59_4 : wr.cell? ⟨gb128, 4, none⟩ = some (.int .i64 a0_4) := bc BK128 4
      have hcz59_5 : wr.cell? ⟨gb128, 5, none⟩ = some (.int .i64 a0_5) := bc BK128 5
      have hcz59_6 : wr.cell? ⟨gb128, 6, none⟩ = some (.string a0_6) := bc BK128 6
      have hcz59_7 : wr.cell? ⟨gb128, 7, none⟩ = some (.slice A0_7 l0_7.length c0_7) := bc BK128 7
      have hcz59_8 : wr.cell? ⟨gb128, 8, none⟩ = some (.int .i64 a0_8) := bc BK128 8
      have hcz59_9 : wr.cell? ⟨gb128, 9, none⟩ = some (.int .i64 a0_9) := bc BK128 9
      have hcz59_10 : wr.cell? ⟨gb128, 10, none⟩ = some (.int .i64 a0_10) := bc BK128 10
      have hfz59_0 := bf BK128 0
      have hfz59_1 := bf BK128 1
      have hfz59_2 := bf BK128 2
      have hfz59_3 := bf BK128 3
      have hfz59_4 := bf BK128 4
      have hfz59_5 := bf BK128 5
      have hfz59_6 := bf BK128 6
      have hfz59_7 := bf BK128 7
      have hfz59_8 := bf BK128 8
      have hfz59_9 := bf BK128 9
      have hfz59_10 := bf BK128 10
      go_wp2
      go_ret
      exact ⟨by first | rfl | (simp [errW_none, errW_some] <;> rfl) | (simp [*, errW_none, errW_some] <;> rfl), by repeat (first | (with_reducible first | exact HB.out | apply below_alloc | apply pw_below_drewN | apply below_drew1 | refine below_set ?_ GE128.out) | exact HB.out)⟩
end Go.Proofs.YtdahgnalojekdaaDoor.L
end
