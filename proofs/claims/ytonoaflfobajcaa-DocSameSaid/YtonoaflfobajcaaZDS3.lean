/- Part 3 of the proof that for every argument the law DocSame answers true: of any row that may be, the elements that are visible are among all and in their order, the text is their runes one by one, each one's edit is effective, none stands twice, and what goes by an effective edit is not visible; for any row at all, without any condition. -/
import Derived.Test.YtonoaflfobajcaaZDS2
section
namespace Go.Proofs.Ytonoaflfobajcaa.L
open Go.RowKit Go.Proofs.YtonoaflfobajcaaW.PrintWords Go.Proofs.YtonoaflfobajcaaW.PrintLast Go.Proofs.YtonoaflfobajcaaW.PrintMore
attribute [local go_sem] max2_int min2_int max_two min_two max_three min_three max_four min_four
set_option linter.unusedVariables false
set_option linter.unusedSimpArgs false
attribute [local go_sem high] eqAElem
def op_gone.l0 : Nat → List (SElem) → Int → Int → Int → Int → Int → Int → Int → Int → ByteArray → List (SElem) → Int → Int → Int → Option (Bool)
 | 0, _, _, _, _, _, _, _, _, _, _, _, _, _, _ => none
 | k + 1, x6, x7, x8, x129000, x129001, x129002, x129003, x129004, x129005, x129006, x129007, x129008, x129009, x129010 => if x8 < x7 then (if 0 ≤ x8 then (if x8 < (x6.length : Int) then (if (((rd_Elem x6 x8).f0) == 0 && (((rd_Elem x6 x8).f1) == 0 && (((rd_Elem x6 x8).f2) == 0))) = true then (some false) else ((op_IsElem.f ((rd_Elem x6 x8).f0) ((rd_Elem x6 x8).f1) ((rd_Elem x6 x8).f2)).bind fun t131 => (if t131 = true then ((op_own.f x129000 x129001 x129002 x129003 x129004 x129005 x129006 x129007 x129008 x129009 x129010 ((rd_Elem x6 x8).f0) ((rd_Elem x6 x8).f1) ((rd_Elem x6 x8).f2)).bind fun t132 => (if t132 = true then (some false) else (if x8 > 0 then (if 0 ≤ (wrap64 (x8 - 1)) then (if (wrap64 (x8 - 1)) < (x129007.length : Int) then ((op_Less.f k ((rd_Elem x129007 (wrap64 (x8 - 1))).f0) ((rd_Elem x129007 (wrap64 (x8 - 1))).f1) ((rd_Elem x129007 (wrap64 (x8 - 1))).f2) ((rd_Elem x6 x8).f0) ((rd_Elem x6 x8).f1) ((rd_Elem x6 x8).f2)).bind fun t134 => (if t134 = true then (op_gone.l0 k x6 x7 (wrap64 (x8 + 1)) x129000 x129001 x129002 x129003 x129004 x129005 x129006 x129007 x129008 x129009 x129010) else (some false))) else (none)) else (none)) else (op_gone.l0 k x6 x7 (wrap64 (x8 + 1)) x129000 x129001 x129002 x129003 x129004 x129005 x129006 x129007 x129008 x129009 x129010)))) else (some false)))) else (none)) else (none)) else (some (decide ((x129007.length : Int) ≤ 200)))
def op_gone.f (k : Nat) (a0_0 : Int) (a0_1 : Int) (a0_2 : Int) (a0_3 : Int) (a0_4 : Int) (a0_5 : Int) (a0_6 : ByteArray) (l0_7 : List (SElem)) (a0_8 : Int) (a0_9 : Int) (a0_10 : Int) : Option (Bool) := op_gone.l0 k l0_7 (l0_7.length : Int) 0 a0_0 a0_1 a0_2 a0_3 a0_4 a0_5 a0_6 l0_7 a0_8 a0_9 a0_10
def op_gone.T4 : Bool × List (List Nat × List Nat) := (true, [([], []), ([], []), ([0, 1], [0, 1]), ([2], [2]), ([3], [3]), ([4, 3, 3], [3, 4]), ([5, 3], [3, 5]), ([3, 6], [3, 6]), ([7, 5], [7]), ([8], [8]), ([8], [8]), ([9, 10, 8, 8], [8, 9, 10]), ([8, 11], [8, 11]), ([12, 11], [12]), ([13], [13]), ([14, 13], [13, 14]), ([15, 13, 13], [13, 15]), ([16], [16]), ([17, 16], [16, 17]), ([16], [16]), ([19, 16], [16, 19]), ([18, 20, 16], [16, 18, 20]), ([21, 16], [16, 21]), ([16], [16]), ([22, 23, 16, 16], [16, 22, 23]), ([24, 16], [16, 24]), ([16, 25, 13], [13, 16, 25]), ([13, 26], [13, 26])])
def op_gone.B4 : List Nat := [0, 0, 3, 7, 15, 31, 63, 127, 255, 511, 511, 2047, 4095, 8191, 16383, 32767, 65535, 131071, 262143, 131071, 655359, 2097151, 4194303, 131071, 16777215, 33554431, 67108863, 134217727]
theorem op_gone.tab4 : rtab .any (opsOf Try.f76 4) = op_gone.T4 := by kernel_rfl
theorem op_gone.bits4 : waitsOk op_gone.T4.2 op_gone.B4 = true := by kernel_rfl
set_option maxHeartbeats 8000000 in
set_option maxRecDepth 100000 in
theorem op_gone.calls (k : Nat) (a0_0 : Int) (a0_1 : Int) (a0_2 : Int) (a0_3 : Int) (a0_4 : Int) (a0_5 : Int) (a0_6 : ByteArray) (A0_7 : Option Addr) (c0_7 : Nat) (l0_7 : List (SElem)) (a0_8 : Int) (a0_9 : Int) (a0_10 : Int) (r : Bool) (w : World) (hr0_7 : Kd.C kElem w A0_7 l0_7.length l0_7) (hc0_7 : l0_7.length ≤ c0_7) (h : op_gone.f k a0_0 a0_1 a0_2 a0_3 a0_4 a0_5 a0_6 l0_7 a0_8 a0_9 a0_10 = some r) :
  Calls Try.prog 76 #[.agg #[.int .i64 a0_0, .int .i64 a0_1, .int .i64 a0_2, .int .i64 a0_3, .int .i64 a0_4, .int .i64 a0_5, .string a0_6, .slice A0_7 l0_7.length c0_7, .int .i64 a0_8, .int .i64 a0_9, .int .i64 a0_10]] w fun e w' => e = .returned (.bool r) ∧ Below w.heap.size w w' := by
 have hu38 := Try.underlying38
 have hu36 := Try.underlying36
 have HR0_7 := Aside0.mk hr0_7
 have HC0_7 := Aside0.mk hc0_7
 clear hr0_7 hc0_7
 have HB := Aside0.mk (Below.refl w.heap.size w)
 have H : (op_gone.l0 k l0_7 (l0_7.length : Int) 0 a0_0 a0_1 a0_2 a0_3 a0_4 a0_5 a0_6 l0_7 a0_8 a0_9 a0_10) = some r := h
 clear h
 have H' := Aside0.mk H
 clear H
 go_enter Try.func76, Try.ntmps76
 go_wp2_with (first | ((with_reducible refine gate_dst (N := 1) rfl ?_); refine bx 1 #[.int .i64 a0_0, .int .i64 a0_1, .int .i64 a0_2, .int .i64 a0_3, .int .i64 a0_4, .int .i64 a0_5, .string a0_6, .slice A0_7 l0_7.length c0_7, .int .i64 a0_8, .int .i64 a0_9, .int .i64 a0_10] 38 (h := ?_); intro gb128 hg w2 hbox hb; have BK128 := Aside0.mk (hbox); have GW128 := bz HB hg; have GE128 := bz HB hg; replace HB := bs HB hb; clear hb hbox hg; obtain ⟨hcz3_0, hcz3_1, hcz3_2, hcz3_3, hcz3_4, hcz3_5, hcz3_6, hcz3_7, hcz3_8, hcz3_9, hcz3_10, hfz3_0, hfz3_1, hfz3_2, hfz3_3, hfz3_4, hfz3_5, hfz3_6, hfz3_7, hfz3_8, hfz3_9, hfz3_10⟩ := kc11 BK128))
 go_loopg [8] k (fun kq v8 w' => ∃ (x8_1 : Int), v8 = .int .i64 x8_1 ∧ Aside0 (op_gone.l0 kq l0_7 (l0_7.length : Int) x8_1 a0_0 a0_1 a0_2 a0_3 a0_4 a0_5 a0_6 l0_7 a0_8 a0_9 a0_10 = some r) ∧ Aside0 (kq ≤ k) ∧ Aside0 (w'.heap[gb128]? = some (.cells #[.int .i64 a0_0, .int .i64 a0_1, .int .i64 a0_2, .int .i64 a0_3, .int .i64 a0_4, .int .i64 a0_5, .string a0_6, (.slice A0_7 l0_7.length c0_7), .int .i64 a0_8, .int .i64 a0_9, .int .i64 a0_10] 38 (0, 0))) ∧ Aside0 (Below w.heap.size w w'))
 case atStart => exact ⟨(0), rf, H', ⟨Nat.le_refl _⟩, ⟨kk BK128⟩, ⟨bw HB⟩⟩
 case round =>
  clear H'
  try clear hcz3_0; try clear hcz3_1; try clear hcz3_10; try clear hcz3_2; try clear hcz3_3; try clear hcz3_4; try clear hcz3_5; try clear hcz3_6; try clear hcz3_7; try clear hcz3_8; try clear hcz3_9; try clear hfz3_0; try clear hfz3_1; try clear hfz3_10; try clear hfz3_2; try clear hfz3_3; try clear hfz3_4; try clear hfz3_5; try clear hfz3_6; try clear hfz3_7; try clear hfz3_8; try clear hfz3_9
  obtain ⟨x8_1, rfl, HA, HK1, BK128, HB⟩ := hrel
  cases gk with
  | zero => exact absurd HA.out (by simp [op_gone.l0])
  | succ k1 =>
   have H := HA.out
   clear HA
   simp only [op_gone.l0] at H
   by_cases c4 : x8_1 < (l0_7.length : Int)
   ·rw [if_pos c4] at H
    have c4b0 : decide (x8_1 < (l0_7.length : Int)) = true := decide_eq_true c4
    clear c4
    by_cases c5 : 0 ≤ x8_1
    ·rw [if_pos c5] at H
     have c5b0 : decide (0 ≤ x8_1) = true := decide_eq_true c5
     clear c5
     by_cases c6 : x8_1 < (l0_7.length : Int)
     ·rw [if_pos c6] at H
      have c6b0 : decide (x8_1 < (l0_7.length : Int)) = true := decide_eq_true c6
      clear c6
      by_cases c7 : (((rd_Elem l0_7 x8_1).f0) == 0 && (((rd_Elem l0_7 x8_1).f1) == 0 && (((rd_Elem l0_7 x8_1).f2) == 0))) = true
      ·rw [if_pos c7] at H
       have c7b0 : (((rd_Elem l0_7 x8_1).f0) == 0 && (((rd_Elem l0_7 x8_1).f1) == 0 && (((rd_Elem l0_7 x8_1).f2) == 0))) = true := c7
       (try (have c7b1 : decide (((rd_Elem l0_7 x8_1).f0) = 0 && (((rd_Elem l0_7 x8_1).f1) == 0 && (((rd_Elem l0_7 x8_1).f2) == 0))) = true := by simpa using c7))
       (try (have c7b2 : (((rd_Elem l0_7 x8_1).f0) == 0 && (((rd_Elem l0_7 x8_1).f1) == 0 && (((rd_Elem l0_7 x8_1).f2) == 0))) = true := by simpa using c7))
       clear c7
       obtain rfl := Option.some.inj H
       have p129 : 0 ≤ (x8_1 : Int) := of_decide_eq_true (by first | (with_reducible assumption) | assumption)
       have q129 : x8_1 < (l0_7.length : Int) := of_decide_eq_true (by first | (with_reducible assumption) | assumption)
       obtain ⟨ad129, e129, hx129_0, hx129_1, hx129_2⟩ := at_Elem HR0_7.out x8_1 p129 q129
       cases e129
       replace hx129_0 := cl HB hx129_0
       replace hx129_1 := cl HB hx129_1
       replace hx129_2 := cl HB hx129_2
       replace p129 := eq_true p129
       replace q129 := eq_true q129
       try go_wp2_with (first | ((with_reducible refine gate_dst (N := 4) rfl ?_); refine bx 4 #[.int .i64 0, .int .i64 0, .int .i64 0] 36 (h := ?_); intro gb130 hg w8 hbox hb; have BK130 := Aside0.mk (hbox); have GW130 := bz HB hg; have GE130 := bz HB hg; have NB128_130 := bn BK128 hg; have NB130_128 := bm BK128 hg; replace BK128 := bl BK128 hb; replace HB := bs HB hb; clear hb hbox hg; have hnb9 := NB130_128.out; have hnc9 := NB128_130.out; obtain ⟨hcz10_0, hcz10_1, hcz10_2, hfz10_0, hfz10_1, hfz10_2⟩ := kc3 BK130))
       have n0_ : Aside0 ((((w8.setCell ⟨gb130, 0, none⟩ (.int .i64 ((rd_Elem l0_7 x8_1).f0))).setCell ⟨gb130, 1, none⟩ (.int .i64 ((rd_Elem l0_7 x8_1).f1))).setCell ⟨gb130, 2, none⟩ (.int .i64 ((rd_Elem l0_7 x8_1).f2))).heap[gb128]? = some (.cells #[.int .i64 a0_0, .int .i64 a0_1, .int .i64 a0_2, .int .i64 a0_3, .int .i64 a0_4, .int .i64 a0_5, .string a0_6, .slice (some ad129) l0_7.length c0_7, .int .i64 a0_8, .int .i64 a0_9, .int .i64 a0_10] 38 (0, 0))) := ⟨kk BK128⟩
       have n1_ : Aside0 ((((w8.setCell ⟨gb130, 0, none⟩ (.int .i64 ((rd_Elem l0_7 x8_1).f0))).setCell ⟨gb130, 1, none⟩ (.int .i64 ((rd_Elem l0_7 x8_1).f1))).setCell ⟨gb130, 2, none⟩ (.int .i64 ((rd_Elem l0_7 x8_1).f2))).heap[gb130]? = some (.cells #[.int .i64 ((rd_Elem l0_7 x8_1).f0), .int .i64 ((rd_Elem l0_7 x8_1).f1), .int .i64 ((rd_Elem l0_7 x8_1).f2)] 36 (0, 0))) := ⟨bp (bp (bp (kk BK130) 0) 1) 2⟩
       have n2_ : Aside0 (Below w.heap.size w (((w8.setCell ⟨gb130, 0, none⟩ (.int .i64 ((rd_Elem l0_7 x8_1).f0))).setCell ⟨gb130, 1, none⟩ (.int .i64 ((rd_Elem l0_7 x8_1).f1))).setCell ⟨gb130, 2, none⟩ (.int .i64 ((rd_Elem l0_7 x8_1).f2)))) := ⟨bw HB⟩
       (try clear BK128)
       (try clear BK130)
       (try clear HB)
       generalize (((w8.setCell ⟨gb130, 0, none⟩ (.int .i64 ((rd_Elem l0_7 x8_1).f0))).setCell ⟨gb130, 1, none⟩ (.int .i64 ((rd_Elem l0_7 x8_1).f1))).setCell ⟨gb130, 2, none⟩ (.int .i64 ((rd_Elem l0_7 x8_1).f2))) = w11 at n0_ n1_ n2_ ⊢
       have BK128 := n0_
       have BK130 := n1_
       have HB := n2_
       clear n0_ n1_ n2_
       have n0_ := Aside0.mk (blk_drew BK128.out)
       have n1_ := Aside0.mk (blk_drew BK130.out)
       have n2_ := Aside0.mk (below_drew1 HB.out)
       clear BK128
       clear BK130
       clear HB
       have BK128 := n0_
       have BK130 := n1_
       have HB := n2_
       clear n0_ n1_ n2_
       refine stP (fun w' => E3 w' gb130 (.int .i64 ((rd_Elem l0_7 x8_1).f0)) (.int .i64 ((rd_Elem l0_7 x8_1).f1)) (.int .i64 ((rd_Elem l0_7 x8_1).f2))) 28 (e3 BK130) (h := fun hHeld => ?_); refine with_tabW op_gone.tab4 op_gone.bits4 (fun HT_ HW_ => ?_)
       generalize w11.drew = w12 at BK128 BK130 HB hHeld ⊢
       refine pu HT_ 1 14 2 (h := ?_)
       refine tk HT_ HW_ hHeld 0 13 3 (h := ?_)
       refine pu HT_ 2 15 7 (h := ?_)
       refine pu HT_ 3 16 15 (h := ?_)
       refine off HT_ 4 17 31 (h := ?_)
       refine off HT_ 5 18 63 (h := ?_)
       refine off HT_ 6 19 127 (h := ?_)
       refine pu HT_ 7 20 255 (h := ?_)
       refine pu HT_ 8 21 511 (h := ?_)
       refine off HT_ 9 22 1023 (h := ?_)
       refine off HT_ 10 23 2047 (h := ?_)
       refine off HT_ 11 24 4095 (h := ?_)
       refine pu HT_ 12 25 8191 (h := ?_)
       refine pu HT_ 13 26 16383 (h := ?_)
       refine off HT_ 14 27 32767 (h := ?_)
       refine off HT_ 15 28 65535 (h := ?_)
       refine off HT_ 16 29 131071 (h := ?_)
       refine off HT_ 17 30 262143 (h := ?_)
       refine off HT_ 18 31 524287 (h := ?_)
       refine off HT_ 19 32 1048575 (h := ?_)
       refine off HT_ 20 33 2097151 (h := ?_)
       refine off HT_ 21 34 4194303 (h := ?_)
       refine off HT_ 22 35 8388607 (h := ?_)
       refine off HT_ 23 36 16777215 (h := ?_)
       refine off HT_ 24 37 33554431 (h := ?_)
       refine off HT_ 25 38 67108863 (h := ?_)
       refine off HT_ 26 39 134217727 (h := ?_)
       refine pu HT_ 27 40 268435455 (h := ?_)
       refine dn HT_ (h := ?_)
       try go_wp2
       go_ret
       exact ⟨re, bw HB⟩
      rw [if_neg c7] at H
      have c7b0 : (((rd_Elem l0_7 x8_1).f0) == 0 && (((rd_Elem l0_7 x8_1).f1) == 0 && (((rd_Elem l0_7 x8_1).f2) == 0))) = false := by simpa using c7
      (try (have c7b1 : decide (((rd_Elem l0_7 x8_1).f0) = 0 && (((rd_Elem l0_7 x8_1).f1) == 0 && (((rd_Elem l0_7 x8_1).f2) == 0))) = false := by simpa using c7))
      (try (have c7b2 : (((rd_Elem l0_7 x8_1).f0) == 0 && (((rd_Elem l0_7 x8_1).f1) == 0 && (((rd_Elem l0_7 x8_1).f2) == 0))) = false := by simpa using c7))
      (try (have c7b3 : ¬ (((rd_Elem l0_7 x8_1).f0) = 0 && (((rd_Elem l0_7 x8_1).f1) == 0 && (((rd_Elem l0_7 x8_1).f2) == 0))) := by simpa using c7))
      clear c7
      replace H := Option.bind_eq_some_iff.mp H
      obtain ⟨t131, A130, H⟩ := H
      replace H : (if t131 = true then ((op_own.f a0_0 a0_1 a0_2 a0_3 a0_4 a0_5 a0_6 l0_7 a0_8 a0_9 a0_10 ((rd_Elem l0_7 x8_1).f0) ((rd_Elem l0_7 x8_1).f1) ((rd_Elem l0_7 x8_1).f2)).bind fun t132 => (if t132 = true then (some false) else (if x8_1 > 0 then (if 0 ≤ (wrap64 (x8_1 - 1)) then (if (wrap64 (x8_1 - 1)) < (l0_7.length : Int) then ((op_Less.f k1 ((rd_Elem l0_7 (wrap64 (x8_1 - 1))).f0) ((rd_Elem l0_7 (wrap64 (x8_1 - 1))).f1) ((rd_Elem l0_7 (wrap64 (x8_1 - 1))).f2) ((rd_Elem l0_7 x8_1).f0) ((rd_Elem l0_7 x8_1).f1) ((rd_Elem l0_7 x8_1).f2)).bind fun t134 => (if t134 = true then (op_gone.l0 k1 l0_7 (l0_7.length : Int) (wrap64 (x8_1 + 1)) a0_0 a0_1 a0_2 a0_3 a0_4 a0_5 a0_6 l0_7 a0_8 a0_9 a0_10) else (some false))) else (none)) else (none)) else (op_gone.l0 k1 l0_7 (l0_7.length : Int) (wrap64 (x8_1 + 1)) a0_0 a0_1 a0_2 a0_3 a0_4 a0_5 a0_6 l0_7 a0_8 a0_9 a0_10)))) else (some false)) = some r := H
      have A13 := Aside0.mk A130
      clear A130
      by_cases c14 : t131 = true
      ·subst c14
       have H1 : ((op_own.f a0_0 a0_1 a0_2 a0_3 a0_4 a0_5 a0_6 l0_7 a0_8 a0_9 a0_10 ((rd_Elem l0_7 x8_1).f0) ((rd_Elem l0_7 x8_1).f1) ((rd_Elem l0_7 x8_1).f2)).bind fun t132 => (if t132 = true then (some false) else (if x8_1 > 0 then (if 0 ≤ (wrap64 (x8_1 - 1)) then (if (wrap64 (x8_1 - 1)) < (l0_7.length : Int) then ((op_Less.f k1 ((rd_Elem l0_7 (wrap64 (x8_1 - 1))).f0) ((rd_Elem l0_7 (wrap64 (x8_1 - 1))).f1) ((rd_Elem l0_7 (wrap64 (x8_1 - 1))).f2) ((rd_Elem l0_7 x8_1).f0) ((rd_Elem l0_7 x8_1).f1) ((rd_Elem l0_7 x8_1).f2)).bind fun t134 => (if t134 = true then (op_gone.l0 k1 l0_7 (l0_7.length : Int) (wrap64 (x8_1 + 1)) a0_0 a0_1 a0_2 a0_3 a0_4 a0_5 a0_6 l0_7 a0_8 a0_9 a0_10) else (some false))) else (none)) else (none)) else (op_gone.l0 k1 l0_7 (l0_7.length : Int) (wrap64 (x8_1 + 1)) a0_0 a0_1 a0_2 a0_3 a0_4 a0_5 a0_6 l0_7 a0_8 a0_9 a0_10)))) = some r := by rw [if_pos rfl] at H; exact H
       clear H
       have H := H1
       clear H1
       replace H := Option.bind_eq_some_iff.mp H
       obtain ⟨t132, A150, H⟩ := H
       replace H : (if t132 = true then (some false) else (if x8_1 > 0 then (if 0 ≤ (wrap64 (x8_1 - 1)) then (if (wrap64 (x8_1 - 1)) < (l0_7.length : Int) then ((op_Less.f k1 ((rd_Elem l0_7 (wrap64 (x8_1 - 1))).f0) ((rd_Elem l0_7 (wrap64 (x8_1 - 1))).f1) ((rd_Elem l0_7 (wrap64 (x8_1 - 1))).f2) ((rd_Elem l0_7 x8_1).f0) ((rd_Elem l0_7 x8_1).f1) ((rd_Elem l0_7 x8_1).f2)).bind fun t134 => (if t134 = true then (op_gone.l0 k1 l0_7 (l0_7.length : Int) (wrap64 (x8_1 + 1)) a0_0 a0_1 a0_2 a0_3 a0_4 a0_5 a0_6 l0_7 a0_8 a0_9 a0_10) else (some false))) else (none)) else (none)) else (op_gone.l0 k1 l0_7 (l0_7.length : Int) (wrap64 (x8_1 + 1)) a0_0 a0_1 a0_2 a0_3 a0_4 a0_5 a0_6 l0_7 a0_8 a0_9 a0_10))) = some r := H
       have A15 := Aside0.mk A150
       clear A150
       by_cases c16 : t132 = true
       ·subst c16
        have H1 : (some false) = some r := by rw [if_pos rfl] at H; exact H
        clear H
        have H := H1
        clear H1
        obtain rfl := Option.some.inj H
        have p129 : 0 ≤ (x8_1 : Int) := of_decide_eq_true (by first | (with_reducible assumption) | assumption)
        have q129 : x8_1 < (l0_7.length : Int) := of_decide_eq_true (by first | (with_reducible assumption) | assumption)
        obtain ⟨ad129, e129, hx129_0, hx129_1, hx129_2⟩ := at_Elem HR0_7.out x8_1 p129 q129
        cases e129
        replace hx129_0 := cl HB hx129_0
        replace hx129_1 := cl HB hx129_1
        replace hx129_2 := cl HB hx129_2
        replace p129 := eq_true p129
        replace q129 := eq_true q129
        try go_wp2_with (first | ((with_reducible refine gate_dst (N := 4) rfl ?_); refine bx 4 #[.int .i64 0, .int .i64 0, .int .i64 0] 36 (h := ?_); intro gb130 hg w17 hbox hb; have BK130 := Aside0.mk (hbox); have GW130 := bz HB hg; have GE130 := bz HB hg; have NB128_130 := bn BK128 hg; have NB130_128 := bm BK128 hg; replace BK128 := bl BK128 hb; replace HB := bs HB hb; clear hb hbox hg; have hnb18 := NB130_128.out; have hnc18 := NB128_130.out; obtain ⟨hcz19_0, hcz19_1, hcz19_2, hfz19_0, hfz19_1, hfz19_2⟩ := kc3 BK130))
        have n0_ : Aside0 ((((w17.setCell ⟨gb130, 0, none⟩ (.int .i64 ((rd_Elem l0_7 x8_1).f0))).setCell ⟨gb130, 1, none⟩ (.int .i64 ((rd_Elem l0_7 x8_1).f1))).setCell ⟨gb130, 2, none⟩ (.int .i64 ((rd_Elem l0_7 x8_1).f2))).heap[gb128]? = some (.cells #[.int .i64 a0_0, .int .i64 a0_1, .int .i64 a0_2, .int .i64 a0_3, .int .i64 a0_4, .int .i64 a0_5, .string a0_6, .slice (some ad129) l0_7.length c0_7, .int .i64 a0_8, .int .i64 a0_9, .int .i64 a0_10] 38 (0, 0))) := ⟨kk BK128⟩
        have n1_ : Aside0 ((((w17.setCell ⟨gb130, 0, none⟩ (.int .i64 ((rd_Elem l0_7 x8_1).f0))).setCell ⟨gb130, 1, none⟩ (.int .i64 ((rd_Elem l0_7 x8_1).f1))).setCell ⟨gb130, 2, none⟩ (.int .i64 ((rd_Elem l0_7 x8_1).f2))).heap[gb130]? = some (.cells #[.int .i64 ((rd_Elem l0_7 x8_1).f0), .int .i64 ((rd_Elem l0_7 x8_1).f1), .int .i64 ((rd_Elem l0_7 x8_1).f2)] 36 (0, 0))) := ⟨bp (bp (bp (kk BK130) 0) 1) 2⟩
        have n2_ : Aside0 (Below w.heap.size w (((w17.setCell ⟨gb130, 0, none⟩ (.int .i64 ((rd_Elem l0_7 x8_1).f0))).setCell ⟨gb130, 1, none⟩ (.int .i64 ((rd_Elem l0_7 x8_1).f1))).setCell ⟨gb130, 2, none⟩ (.int .i64 ((rd_Elem l0_7 x8_1).f2)))) := ⟨bw HB⟩
        (try clear BK128)
        (try clear BK130)
        (try clear HB)
        generalize (((w17.setCell ⟨gb130, 0, none⟩ (.int .i64 ((rd_Elem l0_7 x8_1).f0))).setCell ⟨gb130, 1, none⟩ (.int .i64 ((rd_Elem l0_7 x8_1).f1))).setCell ⟨gb130, 2, none⟩ (.int .i64 ((rd_Elem l0_7 x8_1).f2))) = w20 at n0_ n1_ n2_ ⊢
        have BK128 := n0_
        have BK130 := n1_
        have HB := n2_
        clear n0_ n1_ n2_
        have n0_ := Aside0.mk (blk_drew BK128.out)
        have n1_ := Aside0.mk (blk_drew BK130.out)
        have n2_ := Aside0.mk (below_drew1 HB.out)
        clear BK128
        clear BK130
        clear HB
        have BK128 := n0_
        have BK130 := n1_
        have HB := n2_
        clear n0_ n1_ n2_
        refine stP (fun w' => B3 w' gb130 (.int .i64 ((rd_Elem l0_7 x8_1).f0)) (.int .i64 ((rd_Elem l0_7 x8_1).f1)) (.int .i64 ((rd_Elem l0_7 x8_1).f2)) (E11 w' gb128 (.int .i64 a0_0) (.int .i64 a0_1) (.int .i64 a0_2) (.int .i64 a0_3) (.int .i64 a0_4) (.int .i64 a0_5) (.string a0_6) (.slice (some ad129) l0_7.length c0_7) (.int .i64 a0_8) (.int .i64 a0_9) (.int .i64 a0_10))) 28 (b3 BK130 (e11 BK128)) (h := fun hHeld => ?_); refine with_tabW op_gone.tab4 op_gone.bits4 (fun HT_ HW_ => ?_)
        generalize w20.drew = w21 at BK128 BK130 HB hHeld ⊢
        refine pu HT_ 1 14 2 (h := ?_)
        refine tk HT_ HW_ hHeld 0 13 3 (h := ?_)
        refine pu HT_ 2 15 7 (h := ?_)
        refine pu HT_ 3 16 15 (h := ?_)
        refine tk HT_ HW_ hHeld 4 17 31 (h := ?_)
        refine on HT_ 5 (some 18) 63 (h := fun K hK => ?_)
        refine gS Try.func73 #[.agg #[.int .i64 ((rd_Elem l0_7 x8_1).f0), .int .i64 ((rd_Elem l0_7 x8_1).f1), .int .i64 ((rd_Elem l0_7 x8_1).f2)]] (h := ?_)
        with_reducible refine (op_IsElem.calls ((rd_Elem l0_7 x8_1).f0) ((rd_Elem l0_7 x8_1).f1) ((rd_Elem l0_7 x8_1).f2) true _ A13.out).mono ?_
        rintro e w22 ⟨rfl, hb⟩
        refine ⟨_, rfl, ?_⟩
        have n0_ := bl BK128 hb
        have n1_ := bl BK130 hb
        have n2_ := bs HB hb
        clear BK128
        clear BK130
        clear HB
        have BK128 := n0_
        have BK130 := n1_
        have HB := n2_
        clear n0_ n1_ n2_
        (try clear hb)
        (try clear hb2)
        (try clear hk)
        (try clear hi)
        refine hK.out _ _ (b3 BK130 (e11 BK128)) (fun hHeld => ?_)
        clear hK K
        refine nm (h := ?_)
        refine pu HT_ 6 19 127 (h := ?_)
        refine pu HT_ 7 20 255 (h := ?_)
        refine pu HT_ 8 21 511 (h := ?_)
        refine tk HT_ HW_ hHeld 9 22 1023 (h := ?_)
        refine tk HT_ HW_ hHeld 10 23 2047 (h := ?_)
        refine on HT_ 11 (some 24) 4095 (h := fun K hK => ?_)
        refine gS Try.func74 #[.agg #[.int .i64 a0_0, .int .i64 a0_1, .int .i64 a0_2, .int .i64 a0_3, .int .i64 a0_4, .int .i64 a0_5, .string a0_6, .slice (some ad129) l0_7.length c0_7, .int .i64 a0_8, .int .i64 a0_9, .int .i64 a0_10], .agg #[.int .i64 ((rd_Elem l0_7 x8_1).f0), .int .i64 ((rd_Elem l0_7 x8_1).f1), .int .i64 ((rd_Elem l0_7 x8_1).f2)]] (h := ?_)
        with_reducible refine (op_own.calls a0_0 a0_1 a0_2 a0_3 a0_4 a0_5 a0_6 _ _ l0_7 a0_8 a0_9 a0_10 ((rd_Elem l0_7 x8_1).f0) ((rd_Elem l0_7 x8_1).f1) ((rd_Elem l0_7 x8_1).f2) true _ ?side1 ?side2 A15.out).mono ?_
        (case side1 => repeat (first | exact (Kd.C_below HR0_7.out HB.out) | (with_reducible refine Kd.C_alloc ?_ _) | (with_reducible refine Kd.C_drewN ?_ _) | (with_reducible refine Kd.C_drew ?_)))
        (case side2 => exact HC0_7.out)
        rintro e w23 ⟨rfl, hb⟩
        refine ⟨_, rfl, ?_⟩
        have n0_ := bl BK128 hb
        have n1_ := bl BK130 hb
        have n2_ := bs HB hb
        clear BK128
        clear BK130
        clear HB
        have BK128 := n0_
        have BK130 := n1_
        have HB := n2_
        clear n0_ n1_ n2_
        (try clear hb)
        (try clear hb2)
        (try clear hk)
        (try clear hi)
        refine hK.out _ _ (b3 BK130 (e11 BK128)) (fun hHeld => ?_)
        clear hK K
        refine nm (h := ?_)
        refine pu HT_ 12 25 8191 (h := ?_)
        refine pu HT_ 13 26 16383 (h := ?_)
        refine off HT_ 14 27 32767 (h := ?_)
        refine off HT_ 15 28 65535 (h := ?_)
        refine off HT_ 16 29 131071 (h := ?_)
        refine off HT_ 17 30 262143 (h := ?_)
        refine off HT_ 18 31 524287 (h := ?_)
        refine off HT_ 19 32 1048575 (h := ?_)
        refine off HT_ 20 33 2097151 (h := ?_)
        refine off HT_ 21 34 4194303 (h := ?_)
        refine off HT_ 22 35 8388607 (h := ?_)
        refine off HT_ 23 36 16777215 (h := ?_)
        refine off HT_ 24 37 33554431 (h := ?_)
        refine off HT_ 25 38 67108863 (h := ?_)
        refine off HT_ 26 39 134217727 (h := ?_)
        refine pu HT_ 27 40 268435455 (h := ?_)
        refine dn HT_ (h := ?_)
        try go_wp2
        go_ret
        exact ⟨re, bw HB⟩
       replace c16 := Bool.eq_false_iff.mpr c16
       subst c16
       have H1 : (if x8_1 > 0 then (if 0 ≤ (wrap64 (x8_1 - 1)) then (if (wrap64 (x8_1 - 1)) < (l0_7.length : Int) then ((op_Less.f k1 ((rd_Elem l0_7 (wrap64 (x8_1 - 1))).f0) ((rd_Elem l0_7 (wrap64 (x8_1 - 1))).f1) ((rd_Elem l0_7 (wrap64 (x8_1 - 1))).f2) ((rd_Elem l0_7 x8_1).f0) ((rd_Elem l0_7 x8_1).f1) ((rd_Elem l0_7 x8_1).f2)).bind fun t134 => (if t134 = true then (op_gone.l0 k1 l0_7 (l0_7.length : Int) (wrap64 (x8_1 + 1)) a0_0 a0_1 a0_2 a0_3 a0_4 a0_5 a0_6 l0_7 a0_8 a0_9 a0_10) else (some false))) else (none)) else (none)) else (op_gone.l0 k1 l0_7 (l0_7.length : Int) (wrap64 (x8_1 + 1)) a0_0 a0_1 a0_2 a0_3 a0_4 a0_5 a0_6 l0_7 a0_8 a0_9 a0_10)) = some r := by rw [if_neg (show ¬ (false = true) by decide)] at H; exact H
       clear H
       have H := H1
       clear H1
       by_cases c24 : x8_1 > 0
       ·rw [if_pos c24] at H
        have c24b0 : decide (0 < x8_1) = true := decide_eq_true c24
        clear c24
        obtain ⟨ji25, hji25⟩ : ∃ j_ : Int, (wrap64 (x8_1 - 1)) = j_ := ⟨_, rfl⟩
        replace H : (if 0 ≤ (ji25) then (if (ji25) < (l0_7.length : Int) then ((op_Less.f k1 ((rd_Elem l0_7 (ji25)).f0) ((rd_Elem l0_7 (ji25)).f1) ((rd_Elem l0_7 (ji25)).f2) ((rd_Elem l0_7 x8_1).f0) ((rd_Elem l0_7 x8_1).f1) ((rd_Elem l0_7 x8_1).f2)).bind fun t134 => (if t134 = true then (op_gone.l0 k1 l0_7 (l0_7.length : Int) (wrap64 (x8_1 + 1)) a0_0 a0_1 a0_2 a0_3 a0_4 a0_5 a0_6 l0_7 a0_8 a0_9 a0_10) else (some false))) else (none)) else (none)) = some r := by first | (rw [hji25] at H; exact H) | (simp only [hji25] at H ⊢; exact H)
        (try rw [hji25] at A13)
        (try rw [hji25] at A15)
        have hji25w : (IntKind.i64.wrap (x8_1 - 1)) = ji25 := (i64_w _).trans hji25
        by_cases c26 : 0 ≤ (ji25)
        ·rw [if_pos c26] at H
         have c26b0 : decide (0 ≤ (ji25)) = true := decide_eq_true c26
         clear c26
         by_cases c27 : (ji25) < (l0_7.length : Int)
         ·rw [if_pos c27] at H
          have c27b0 : decide ((ji25) < (l0_7.length : Int)) = true := decide_eq_true c27
          clear c27
          replace H := Option.bind_eq_some_iff.mp H
          obtain ⟨t134, A280, H⟩ := H
          replace H : (if t134 = true then (op_gone.l0 k1 l0_7 (l0_7.length : Int) (wrap64 (x8_1 + 1)) a0_0 a0_1 a0_2 a0_3 a0_4 a0_5 a0_6 l0_7 a0_8 a0_9 a0_10) else (some false)) = some r := H
          have A28 := Aside0.mk A280
          clear A280
          by_cases c29 : t134 = true
          ·subst c29
           have H1 : (op_gone.l0 k1 l0_7 (l0_7.length : Int) (wrap64 (x8_1 + 1)) a0_0 a0_1 a0_2 a0_3 a0_4 a0_5 a0_6 l0_7 a0_8 a0_9 a0_10) = some r := by rw [if_pos rfl] at H; exact H
           clear H
           have H := H1
           clear H1
           have H' := Aside0.mk H
           clear H
           have p129 : 0 ≤ (x8_1 : Int) := of_decide_eq_true (by first | (with_reducible assumption) | assumption)
           have q129 : x8_1 < (l0_7.length : Int) := of_decide_eq_true (by first | (with_reducible assumption) | assumption)
           obtain ⟨ad129, e129, hx129_0, hx129_1, hx129_2⟩ := at_Elem HR0_7.out x8_1 p129 q129
           cases e129
           replace hx129_0 := cl HB hx129_0
           replace hx129_1 := cl HB hx129_1
           replace hx129_2 := cl HB hx129_2
           replace p129 := eq_true p129
           replace q129 := eq_true q129
           try go_wp2_with (first | ((with_reducible refine gate_dst (N := 4) rfl ?_); refine bx 4 #[.int .i64 0, .int .i64 0, .int .i64 0] 36 (h := ?_); intro gb130 hg w30 hbox hb; have BK130 := Aside0.mk (hbox); have GW130 := bz HB hg; have GE130 := bz HB hg; have NB128_130 := bn BK128 hg; have NB130_128 := bm BK128 hg; replace BK128 := bl BK128 hb; replace HB := bs HB hb; clear hb hbox hg; have hnb31 := NB130_128.out; have hnc31 := NB128_130.out; obtain ⟨hcz32_0, hcz32_1, hcz32_2, hfz32_0, hfz32_1, hfz32_2⟩ := kc3 BK130))
           have n0_ : Aside0 ((((w30.setCell ⟨gb130, 0, none⟩ (.int .i64 ((rd_Elem l0_7 x8_1).f0))).setCell ⟨gb130, 1, none⟩ (.int .i64 ((rd_Elem l0_7 x8_1).f1))).setCell ⟨gb130, 2, none⟩ (.int .i64 ((rd_Elem l0_7 x8_1).f2))).heap[gb128]? = some (.cells #[.int .i64 a0_0, .int .i64 a0_1, .int .i64 a0_2, .int .i64 a0_3, .int .i64 a0_4, .int .i64 a0_5, .string a0_6, .slice (some ad129) l0_7.length c0_7, .int .i64 a0_8, .int .i64 a0_9, .int .i64 a0_10] 38 (0, 0))) := ⟨kk BK128⟩
           have n1_ : Aside0 ((((w30.setCell ⟨gb130, 0, none⟩ (.int .i64 ((rd_Elem l0_7 x8_1).f0))).setCell ⟨gb130, 1, none⟩ (.int .i64 ((rd_Elem l0_7 x8_1).f1))).setCell ⟨gb130, 2, none⟩ (.int .i64 ((rd_Elem l0_7 x8_1).f2))).heap[gb130]? = some (.cells #[.int .i64 ((rd_Elem l0_7 x8_1).f0), .int .i64 ((rd_Elem l0_7 x8_1).f1), .int .i64 ((rd_Elem l0_7 x8_1).f2)] 36 (0, 0))) := ⟨bp (bp (bp (kk BK130) 0) 1) 2⟩
           have n2_ : Aside0 (Below w.heap.size w (((w30.setCell ⟨gb130, 0, none⟩ (.int .i64 ((rd_Elem l0_7 x8_1).f0))).setCell ⟨gb130, 1, none⟩ (.int .i64 ((rd_Elem l0_7 x8_1).f1))).setCell ⟨gb130, 2, none⟩ (.int .i64 ((rd_Elem l0_7 x8_1).f2)))) := ⟨bw HB⟩
           (try clear BK128)
           (try clear BK130)
           (try clear HB)
           generalize (((w30.setCell ⟨gb130, 0, none⟩ (.int .i64 ((rd_Elem l0_7 x8_1).f0))).setCell ⟨gb130, 1, none⟩ (.int .i64 ((rd_Elem l0_7 x8_1).f1))).setCell ⟨gb130, 2, none⟩ (.int .i64 ((rd_Elem l0_7 x8_1).f2))) = w33 at n0_ n1_ n2_ ⊢
           have BK128 := n0_
           have BK130 := n1_
           have HB := n2_
           clear n0_ n1_ n2_
           have n0_ := Aside0.mk (blk_drew BK128.out)
           have n1_ := Aside0.mk (blk_drew BK130.out)
           have n2_ := Aside0.mk (below_drew1 HB.out)
           clear BK128
           clear BK130
           clear HB
           have BK128 := n0_
           have BK130 := n1_
           have HB := n2_
           clear n0_ n1_ n2_
           have p133 : 0 ≤ ((ji25) : Int) := of_decide_eq_true (by first | (with_reducible assumption) | assumption)
           have q133 : (ji25) < (l0_7.length : Int) := of_decide_eq_true (by first | (with_reducible assumption) | assumption)
           obtain ⟨ad133, e133, hx133_0, hx133_1, hx133_2⟩ := at_Elem HR0_7.out (ji25) p133 q133
           have hw133_2 := hx133_2
           have hw133_1 := hx133_1
           have hw133_0 := hx133_0
           obtain rfl : ad129 = ad133 := (by injection e133)
           replace hx133_0 := cl HB hx133_0
           replace hx133_1 := cl HB hx133_1
           replace hx133_2 := cl HB hx133_2
           replace p133 := eq_true p133
           replace q133 := eq_true q133
           refine stP (fun w' => B3 w' gb130 (.int .i64 ((rd_Elem l0_7 x8_1).f0)) (.int .i64 ((rd_Elem l0_7 x8_1).f1)) (.int .i64 ((rd_Elem l0_7 x8_1).f2)) (B11 w' gb128 (.int .i64 a0_0) (.int .i64 a0_1) (.int .i64 a0_2) (.int .i64 a0_3) (.int .i64 a0_4) (.int .i64 a0_5) (.string a0_6) (.slice (some ad129) l0_7.length c0_7) (.int .i64 a0_8) (.int .i64 a0_9) (.int .i64 a0_10) (w'.cell? (ad129.add (((ji25)).toNat * 3)) = some (.int .i64 ((rd_Elem l0_7 (ji25)).f0)) ∧ w'.cell? ⟨(ad129.add (((ji25)).toNat * 3)).block, (ad129.add (((ji25)).toNat * 3)).off + 1, none⟩ = some (.int .i64 ((rd_Elem l0_7 (ji25)).f1)) ∧ w'.cell? ⟨(ad129.add (((ji25)).toNat * 3)).block, (ad129.add (((ji25)).toNat * 3)).off + 2, none⟩ = some (.int .i64 ((rd_Elem l0_7 (ji25)).f2))))) 28 (b3 BK130 (b11 BK128 ⟨(cl HB hw133_0), (cl HB hw133_1), (cl HB hw133_2)⟩)) (h := fun hHeld => ?_); refine with_tabW op_gone.tab4 op_gone.bits4 (fun HT_ HW_ => ?_)
           generalize w33.drew = w34 at BK128 BK130 HB hx133_0 hx133_1 hx133_2 hHeld ⊢
           refine pu HT_ 1 14 2 (h := ?_)
           refine tk HT_ HW_ hHeld 0 13 3 (h := ?_)
           refine pu HT_ 2 15 7 (h := ?_)
           refine pu HT_ 3 16 15 (h := ?_)
           refine tk HT_ HW_ hHeld 4 17 31 (h := ?_)
           refine on HT_ 5 (some 18) 63 (h := fun K hK => ?_)
           refine gS Try.func73 #[.agg #[.int .i64 ((rd_Elem l0_7 x8_1).f0), .int .i64 ((rd_Elem l0_7 x8_1).f1), .int .i64 ((rd_Elem l0_7 x8_1).f2)]] (h := ?_)
           with_reducible refine (op_IsElem.calls ((rd_Elem l0_7 x8_1).f0) ((rd_Elem l0_7 x8_1).f1) ((rd_Elem l0_7 x8_1).f2) true _ A13.out).mono ?_
           rintro e w35 ⟨rfl, hb⟩
           refine ⟨_, rfl, ?_⟩
           have n0_ := bl BK128 hb
           have n1_ := bl BK130 hb
           have n2_ := bs HB hb
           clear BK128
           clear BK130
           clear HB
           have BK128 := n0_
           have BK130 := n1_
           have HB := n2_
           clear n0_ n1_ n2_
           (try clear hb)
           (try clear hb2)
           (try clear hk)
           (try clear hi)
           refine hK.out _ _ (b3 BK130 (b11 BK128 ⟨(cl HB hw133_0), (cl HB hw133_1), (cl HB hw133_2)⟩)) (fun hHeld => ?_)
           clear hK K
           refine nm (h := ?_)
           refine pu HT_ 6 19 127 (h := ?_)
           refine pu HT_ 7 20 255 (h := ?_)
           refine pu HT_ 8 21 511 (h := ?_)
           refine tk HT_ HW_ hHeld 9 22 1023 (h := ?_)
           refine tk HT_ HW_ hHeld 10 23 2047 (h := ?_)
           refine on HT_ 11 (some 24) 4095 (h := fun K hK => ?_)
           refine gS Try.func74 #[.agg #[.int .i64 a0_0, .int .i64 a0_1, .int .i64 a0_2, .int .i64 a0_3, .int .i64 a0_4, .int .i64 a0_5, .string a0_6, .slice (some ad129) l0_7.length c0_7, .int .i64 a0_8, .int .i64 a0_9, .int .i64 a0_10], .agg #[.int .i64 ((rd_Elem l0_7 x8_1).f0), .int .i64 ((rd_Elem l0_7 x8_1).f1), .int .i64 ((rd_Elem l0_7 x8_1).f2)]] (h := ?_)
           with_reducible refine (op_own.calls a0_0 a0_1 a0_2 a0_3 a0_4 a0_5 a0_6 _ _ l0_7 a0_8 a0_9 a0_10 ((rd_Elem l0_7 x8_1).f0) ((rd_Elem l0_7 x8_1).f1) ((rd_Elem l0_7 x8_1).f2) false _ ?side1 ?side2 A15.out).mono ?_
           (case side1 => repeat (first | exact (Kd.C_below HR0_7.out HB.out) | (with_reducible refine Kd.C_alloc ?_ _) | (with_reducible refine Kd.C_drewN ?_ _) | (with_reducible refine Kd.C_drew ?_)))
           (case side2 => exact HC0_7.out)
           rintro e w36 ⟨rfl, hb⟩
           refine ⟨_, rfl, ?_⟩
           have n0_ := bl BK128 hb
           have n1_ := bl BK130 hb
           have n2_ := bs HB hb
           clear BK128
           clear BK130
           clear HB
           have BK128 := n0_
           have BK130 := n1_
           have HB := n2_
           clear n0_ n1_ n2_
           (try clear hb)
           (try clear hb2)
           (try clear hk)
           (try clear hi)
           refine hK.out _ _ (b3 BK130 (b11 BK128 ⟨(cl HB hw133_0), (cl HB hw133_1), (cl HB hw133_2)⟩)) (fun hHeld => ?_)
           clear hK K
           refine nm (h := ?_)
           refine pu HT_ 12 25 8191 (h := ?_)
           refine pu HT_ 13 26 16383 (h := ?_)
           refine pu HT_ 14 27 32767 (h := ?_)
           refine pu HT_ 15 28 65535 (h := ?_)
           refine pu HT_ 16 29 131071 (h := ?_)
           refine pu HT_ 17 30 262143 (h := ?_)
           refine pu HT_ 19 32 786431 (h := ?_)
           refine pu HT_ 20 33 1835007 (h := ?_)
           refine tk HT_ HW_ hHeld 18 31 2097151 (h := ?_)
           refine pu HT_ 21 34 4194303 (h := ?_)
           refine tk HT_ HW_ hHeld 22 35 8388607 (h := ?_)
           refine tk HT_ HW_ hHeld 23 36 16777215 (h := ?_)
           refine on HT_ 24 (some 37) 33554431 (h := fun K hK => ?_)
           refine goes_ Try.func24 (by kernel_rfl) rfl #[.agg #[.int .i64 ((rd_Elem l0_7 (ji25)).f0), .int .i64 ((rd_Elem l0_7 (ji25)).f1), .int .i64 ((rd_Elem l0_7 (ji25)).f2)], .agg #[.int .i64 ((rd_Elem l0_7 x8_1).f0), .int .i64 ((rd_Elem l0_7 x8_1).f1), .int .i64 ((rd_Elem l0_7 x8_1).f2)]] (by rfl) rfl rfl (by (try simp only [List.map_toArray, List.map_cons, List.map_nil]); first | done | (simp only [hji25]; rfl) | rfl | (simp only [List.length_drop, List.length_take]; rfl)) ?_
           with_reducible refine (op_Less.calls k1 ((rd_Elem l0_7 (ji25)).f0) ((rd_Elem l0_7 (ji25)).f1) ((rd_Elem l0_7 (ji25)).f2) ((rd_Elem l0_7 x8_1).f0) ((rd_Elem l0_7 x8_1).f1) ((rd_Elem l0_7 x8_1).f2) true _ A28.out).mono ?_
           rintro e w37 ⟨rfl, hb⟩
           refine ⟨_, rfl, ?_⟩
           have n0_ := bl BK128 hb
           have n1_ := bl BK130 hb
           have n2_ := bs HB hb
           clear BK128
           clear BK130
           clear HB
           have BK128 := n0_
           have BK130 := n1_
           have HB := n2_
           clear n0_ n1_ n2_
           (try clear hb)
           (try clear hb2)
           (try clear hk)
           (try clear hi)
           refine hK.out _ _ (b3 BK130 (b11 BK128 ⟨(cl HB hw133_0), (cl HB hw133_1), (cl HB hw133_2)⟩)) (fun hHeld => ?_)
           clear hK K
           refine nm (h := ?_)
           refine pu HT_ 25 38 67108863 (h := ?_)
           refine pu HT_ 26 39 134217727 (h := ?_)
           refine pu HT_ 27 40 268435455 (h := ?_)
           refine dn HT_ (h := ?_)
           try go_wp2
           go_roundg k1
           case measure => have := HK1.out; omega
           case rel => exact ⟨(wrap64 (x8_1 + 1)), rf, H', ⟨by have := HK1.out; omega⟩, ⟨kk BK128⟩, ⟨bw HB⟩⟩
          replace c29 := Bool.eq_false_iff.mpr c29
          subst c29
          have H1 : (some false) = some r := by rw [if_neg (show ¬ (false = true) by decide)] at H; exact H
          clear H
          have H := H1
          clear H1
          obtain rfl := Option.some.inj H
          have p129 : 0 ≤ (x8_1 : Int) := of_decide_eq_true (by first | (with_reducible assumption) | assumption)
          have q129 : x8_1 < (l0_7.length : Int) := of_decide_eq_true (by first | (with_reducible assumption) | assumption)
          obtain ⟨ad129, e129, hx129_0, hx129_1, hx129_2⟩ := at_Elem HR0_7.out x8_1 p129 q129
          cases e129
          replace hx129_0 := cl HB hx129_0
          replace hx129_1 := cl HB hx129_1
          replace hx129_2 := cl HB hx129_2
          replace p129 := eq_true p129
          replace q129 := eq_true q129
          try go_wp2_with (first | ((with_reducible refine gate_dst (N := 4) rfl ?_); refine bx 4 #[.int .i64 0, .int .i64 0, .int .i64 0] 36 (h := ?_); intro gb130 hg w38 hbox hb; have BK130 := Aside0.mk (hbox); have GW130 := bz HB hg; have GE130 := bz HB hg; have NB128_130 := bn BK128 hg; have NB130_128 := bm BK128 hg; replace BK128 := bl BK128 hb; replace HB := bs HB hb; clear hb hbox hg; have hnb39 := NB130_128.out; have hnc39 := NB128_130.out; obtain ⟨hcz40_0, hcz40_1, hcz40_2, hfz40_0, hfz40_1, hfz40_2⟩ := kc3 BK130))
          have n0_ : Aside0 ((((w38.setCell ⟨gb130, 0, none⟩ (.int .i64 ((rd_Elem l0_7 x8_1).f0))).setCell ⟨gb130, 1, none⟩ (.int .i64 ((rd_Elem l0_7 x8_1).f1))).setCell ⟨gb130, 2, none⟩ (.int .i64 ((rd_Elem l0_7 x8_1).f2))).heap[gb128]? = some (.cells #[.int .i64 a0_0, .int .i64 a0_1, .int .i64 a0_2, .int .i64 a0_3, .int .i64 a0_4, .int .i64 a0_5, .string a0_6, .slice (some ad129) l0_7.length c0_7, .int .i64 a0_8, .int .i64 a0_9, .int .i64 a0_10] 38 (0, 0))) := ⟨kk BK128⟩
          have n1_ : Aside0 ((((w38.setCell ⟨gb130, 0, none⟩ (.int .i64 ((rd_Elem l0_7 x8_1).f0))).setCell ⟨gb130, 1, none⟩ (.int .i64 ((rd_Elem l0_7 x8_1).f1))).setCell ⟨gb130, 2, none⟩ (.int .i64 ((rd_Elem l0_7 x8_1).f2))).heap[gb130]? = some (.cells #[.int .i64 ((rd_Elem l0_7 x8_1).f0), .int .i64 ((rd_Elem l0_7 x8_1).f1), .int .i64 ((rd_Elem l0_7 x8_1).f2)] 36 (0, 0))) := ⟨bp (bp (bp (kk BK130) 0) 1) 2⟩
          have n2_ : Aside0 (Below w.heap.size w (((w38.setCell ⟨gb130, 0, none⟩ (.int .i64 ((rd_Elem l0_7 x8_1).f0))).setCell ⟨gb130, 1, none⟩ (.int .i64 ((rd_Elem l0_7 x8_1).f1))).setCell ⟨gb130, 2, none⟩ (.int .i64 ((rd_Elem l0_7 x8_1).f2)))) := ⟨bw HB⟩
          (try clear BK128)
          (try clear BK130)
          (try clear HB)
          generalize (((w38.setCell ⟨gb130, 0, none⟩ (.int .i64 ((rd_Elem l0_7 x8_1).f0))).setCell ⟨gb130, 1, none⟩ (.int .i64 ((rd_Elem l0_7 x8_1).f1))).setCell ⟨gb130, 2, none⟩ (.int .i64 ((rd_Elem l0_7 x8_1).f2))) = w41 at n0_ n1_ n2_ ⊢
          have BK128 := n0_
          have BK130 := n1_
          have HB := n2_
          clear n0_ n1_ n2_
          have n0_ := Aside0.mk (blk_drew BK128.out)
          have n1_ := Aside0.mk (blk_drew BK130.out)
          have n2_ := Aside0.mk (below_drew1 HB.out)
          clear BK128
          clear BK130
          clear HB
          have BK128 := n0_
          have BK130 := n1_
          have HB := n2_
          clear n0_ n1_ n2_
          have p133 : 0 ≤ ((ji25) : Int) := of_decide_eq_true (by first | (with_reducible assumption) | assumption)
          have q133 : (ji25) < (l0_7.length : Int) := of_decide_eq_true (by first | (with_reducible assumption) | assumption)
          obtain ⟨ad133, e133, hx133_0, hx133_1, hx133_2⟩ := at_Elem HR0_7.out (ji25) p133 q133
          have hw133_2 := hx133_2
          have hw133_1 := hx133_1
          have hw133_0 := hx133_0
          obtain rfl : ad129 = ad133 := (by injection e133)
          replace hx133_0 := cl HB hx133_0
          replace hx133_1 := cl HB hx133_1
          replace hx133_2 := cl HB hx133_2
          replace p133 := eq_true p133
          replace q133 := eq_true q133
          refine stP (fun w' => B3 w' gb130 (.int .i64 ((rd_Elem l0_7 x8_1).f0)) (.int .i64 ((rd_Elem l0_7 x8_1).f1)) (.int .i64 ((rd_Elem l0_7 x8_1).f2)) (B11 w' gb128 (.int .i64 a0_0) (.int .i64 a0_1) (.int .i64 a0_2) (.int .i64 a0_3) (.int .i64 a0_4) (.int .i64 a0_5) (.string a0_6) (.slice (some ad129) l0_7.length c0_7) (.int .i64 a0_8) (.int .i64 a0_9) (.int .i64 a0_10) (w'.cell? (ad129.add (((ji25)).toNat * 3)) = some (.int .i64 ((rd_Elem l0_7 (ji25)).f0)) ∧ w'.cell? ⟨(ad129.add (((ji25)).toNat * 3)).block, (ad129.add (((ji25)).toNat * 3)).off + 1, none⟩ = some (.int .i64 ((rd_Elem l0_7 (ji25)).f1)) ∧ w'.cell? ⟨(ad129.add (((ji25)).toNat * 3)).block, (ad129.add (((ji25)).toNat * 3)).off + 2, none⟩ = some (.int .i64 ((rd_Elem l0_7 (ji25)).f2))))) 28 (b3 BK130 (b11 BK128 ⟨(cl HB hw133_0), (cl HB hw133_1), (cl HB hw133_2)⟩)) (h := fun hHeld => ?_); refine with_tabW op_gone.tab4 op_gone.bits4 (fun HT_ HW_ => ?_)
          generalize w41.drew = w42 at BK128 BK130 HB hx133_0 hx133_1 hx133_2 hHeld ⊢
          refine pu HT_ 1 14 2 (h := ?_)
          refine tk HT_ HW_ hHeld 0 13 3 (h := ?_)
          refine pu HT_ 2 15 7 (h := ?_)
          refine pu HT_ 3 16 15 (h := ?_)
          refine tk HT_ HW_ hHeld 4 17 31 (h := ?_)
          refine on HT_ 5 (some 18) 63 (h := fun K hK => ?_)
          refine gS Try.func73 #[.agg #[.int .i64 ((rd_Elem l0_7 x8_1).f0), .int .i64 ((rd_Elem l0_7 x8_1).f1), .int .i64 ((rd_Elem l0_7 x8_1).f2)]] (h := ?_)
          with_reducible refine (op_IsElem.calls ((rd_Elem l0_7 x8_1).f0) ((rd_Elem l0_7 x8_1).f1) ((rd_Elem l0_7 x8_1).f2) true _ A13.out).mono ?_
          rintro e w43 ⟨rfl, hb⟩
          refine ⟨_, rfl, ?_⟩
          have n0_ := bl BK128 hb
          have n1_ := bl BK130 hb
          have n2_ := bs HB hb
          clear BK128
          clear BK130
          clear HB
          have BK128 := n0_
          have BK130 := n1_
          have HB := n2_
          clear n0_ n1_ n2_
          (try clear hb)
          (try clear hb2)
          (try clear hk)
          (try clear hi)
          refine hK.out _ _ (b3 BK130 (b11 BK128 ⟨(cl HB hw133_0), (cl HB hw133_1), (cl HB hw133_2)⟩)) (fun hHeld => ?_)
          clear hK K
          refine nm (h := ?_)
          refine pu HT_ 6 19 127 (h := ?_)
          refine pu HT_ 7 20 255 (h := ?_)
          refine pu HT_ 8 21 511 (h := ?_)
          refine tk HT_ HW_ hHeld 9 22 1023 (h := ?_)
          refine tk HT_ HW_ hHeld 10 23 2047 (h := ?_)
          refine on HT_ 11 (some 24) 4095 (h := fun K hK => ?_)
          refine gS Try.func74 #[.agg #[.int .i64 a0_0, .int .i64 a0_1, .int .i64 a0_2, .int .i64 a0_3, .int .i64 a0_4, .int .i64 a0_5, .string a0_6, .slice (some ad129) l0_7.length c0_7, .int .i64 a0_8, .int .i64 a0_9, .int .i64 a0_10], .agg #[.int .i64 ((rd_Elem l0_7 x8_1).f0), .int .i64 ((rd_Elem l0_7 x8_1).f1), .int .i64 ((rd_Elem l0_7 x8_1).f2)]] (h := ?_)
          with_reducible refine (op_own.calls a0_0 a0_1 a0_2 a0_3 a0_4 a0_5 a0_6 _ _ l0_7 a0_8 a0_9 a0_10 ((rd_Elem l0_7 x8_1).f0) ((rd_Elem l0_7 x8_1).f1) ((rd_Elem l0_7 x8_1).f2) false _ ?side1 ?side2 A15.out).mono ?_
          (case side1 => repeat (first | exact (Kd.C_below HR0_7.out HB.out) | (with_reducible refine Kd.C_alloc ?_ _) | (with_reducible refine Kd.C_drewN ?_ _) | (with_reducible refine Kd.C_drew ?_)))
          (case side2 => exact HC0_7.out)
          rintro e w44 ⟨rfl, hb⟩
          refine ⟨_, rfl, ?_⟩
          have n0_ := bl BK128 hb
          have n1_ := bl BK130 hb
          have n2_ := bs HB hb
          clear BK128
          clear BK130
          clear HB
          have BK128 := n0_
          have BK130 := n1_
          have HB := n2_
          clear n0_ n1_ n2_
          (try clear hb)
          (try clear hb2)
          (try clear hk)
          (try clear hi)
          refine hK.out _ _ (b3 BK130 (b11 BK128 ⟨(cl HB hw133_0), (cl HB hw133_1), (cl HB hw133_2)⟩)) (fun hHeld => ?_)
          clear hK K
          refine nm (h := ?_)
          refine pu HT_ 12 25 8191 (h := ?_)
          refine pu HT_ 13 26 16383 (h := ?_)
          refine pu HT_ 14 27 32767 (h := ?_)
          refine pu HT_ 15 28 65535 (h := ?_)
          refine pu HT_ 16 29 131071 (h := ?_)
          refine pu HT_ 17 30 262143 (h := ?_)
          refine pu HT_ 19 32 786431 (h := ?_)
          refine pu HT_ 20 33 1835007 (h := ?_)
          refine tk HT_ HW_ hHeld 18 31 2097151 (h := ?_)
          refine pu HT_ 21 34 4194303 (h := ?_)
          refine tk HT_ HW_ hHeld 22 35 8388607 (h := ?_)
          refine tk HT_ HW_ hHeld 23 36 16777215 (h := ?_)
          refine on HT_ 24 (some 37) 33554431 (h := fun K hK => ?_)
          refine goes_ Try.func24 (by kernel_rfl) rfl #[.agg #[.int .i64 ((rd_Elem l0_7 (ji25)).f0), .int .i64 ((rd_Elem l0_7 (ji25)).f1), .int .i64 ((rd_Elem l0_7 (ji25)).f2)], .agg #[.int .i64 ((rd_Elem l0_7 x8_1).f0), .int .i64 ((rd_Elem l0_7 x8_1).f1), .int .i64 ((rd_Elem l0_7 x8_1).f2)]] (by rfl) rfl rfl (by (try simp only [List.map_toArray, List.map_cons, List.map_nil]); first | done | (simp only [hji25]; rfl) | rfl | (simp only [List.length_drop, List.length_take]; rfl)) ?_
          with_reducible refine (op_Less.calls k1 ((rd_Elem l0_7 (ji25)).f0) ((rd_Elem l0_7 (ji25)).f1) ((rd_Elem l0_7 (ji25)).f2) ((rd_Elem l0_7 x8_1).f0) ((rd_Elem l0_7 x8_1).f1) ((rd_Elem l0_7 x8_1).f2) false _ A28.out).mono ?_
          rintro e w45 ⟨rfl, hb⟩
          refine ⟨_, rfl, ?_⟩
          have n0_ := bl BK128 hb
          have n1_ := bl BK130 hb
          have n2_ := bs HB hb
          clear BK128
          clear BK130
          clear HB
          have BK128 := n0_
          have BK130 := n1_
          have HB := n2_
          clear n0_ n1_ n2_
          (try clear hb)
          (try clear hb2)
          (try clear hk)
          (try clear hi)
          refine hK.out _ _ (b3 BK130 (b11 BK128 ⟨(cl HB hw133_0), (cl HB hw133_1), (cl HB hw133_2)⟩)) (fun hHeld => ?_)
          clear hK K
          refine nm (h := ?_)
          refine pu HT_ 25 38 67108863 (h := ?_)
          refine pu HT_ 26 39 134217727 (h := ?_)
          refine pu HT_ 27 40 268435455 (h := ?_)
          refine dn HT_ (h := ?_)
          try go_wp2
          go_ret
          exact ⟨by first | rfl | (simp [errW_none, errW_some] <;> rfl) | (simp only [← hji25]; first | rfl | (simp [errW_none, errW_some] <;> rfl)) | (simp [*, errW_none, errW_some] <;> rfl), bw HB⟩
         rw [if_neg c27] at H
         exact absurd H (by simp)
        rw [if_neg c26] at H
        exact absurd H (by simp)
       rw [if_neg c24] at H
       have c24b0 : decide (0 < x8_1) = false := decide_eq_false c24
       clear c24
       have H' := Aside0.mk H
       clear H
       have p129 : 0 ≤ (x8_1 : Int) := of_decide_eq_true (by first | (with_reducible assumption) | assumption)
       have q129 : x8_1 < (l0_7.length : Int) := of_decide_eq_true (by first | (with_reducible assumption) | assumption)
       obtain ⟨ad129, e129, hx129_0, hx129_1, hx129_2⟩ := at_Elem HR0_7.out x8_1 p129 q129
       cases e129
       replace hx129_0 := cl HB hx129_0
       replace hx129_1 := cl HB hx129_1
       replace hx129_2 := cl HB hx129_2
       replace p129 := eq_true p129
       replace q129 := eq_true q129
       try go_wp2_with (first | ((with_reducible refine gate_dst (N := 4) rfl ?_); refine bx 4 #[.int .i64 0, .int .i64 0, .int .i64 0] 36 (h := ?_); intro gb130 hg w46 hbox hb; have BK130 := Aside0.mk (hbox); have GW130 := bz HB hg; have GE130 := bz HB hg; have NB128_130 := bn BK128 hg; have NB130_128 := bm BK128 hg; replace BK128 := bl BK128 hb; replace HB := bs HB hb; clear hb hbox hg; have hnb47 := NB130_128.out; have hnc47 := NB128_130.out; obtain ⟨hcz48_0, hcz48_1, hcz48_2, hfz48_0, hfz48_1, hfz48_2⟩ := kc3 BK130))
       have n0_ : Aside0 ((((w46.setCell ⟨gb130, 0, none⟩ (.int .i64 ((rd_Elem l0_7 x8_1).f0))).setCell ⟨gb130, 1, none⟩ (.int .i64 ((rd_Elem l0_7 x8_1).f1))).setCell ⟨gb130, 2, none⟩ (.int .i64 ((rd_Elem l0_7 x8_1).f2))).heap[gb128]? = some (.cells #[.int .i64 a0_0, .int .i64 a0_1, .int .i64 a0_2, .int .i64 a0_3, .int .i64 a0_4, .int .i64 a0_5, .string a0_6, .slice (some ad129) l0_7.length c0_7, .int .i64 a0_8, .int .i64 a0_9, .int .i64 a0_10] 38 (0, 0))) := ⟨kk BK128⟩
       have n1_ : Aside0 ((((w46.setCell ⟨gb130, 0, none⟩ (.int .i64 ((rd_Elem l0_7 x8_1).f0))).setCell ⟨gb130, 1, none⟩ (.int .i64 ((rd_Elem l0_7 x8_1).f1))).setCell ⟨gb130, 2, none⟩ (.int .i64 ((rd_Elem l0_7 x8_1).f2))).heap[gb130]? = some (.cells #[.int .i64 ((rd_Elem l0_7 x8_1).f0), .int .i64 ((rd_Elem l0_7 x8_1).f1), .int .i64 ((rd_Elem l0_7 x8_1).f2)] 36 (0, 0))) := ⟨bp (bp (bp (kk BK130) 0) 1) 2⟩
       have n2_ : Aside0 (Below w.heap.size w (((w46.setCell ⟨gb130, 0, none⟩ (.int .i64 ((rd_Elem l0_7 x8_1).f0))).setCell ⟨gb130, 1, none⟩ (.int .i64 ((rd_Elem l0_7 x8_1).f1))).setCell ⟨gb130, 2, none⟩ (.int .i64 ((rd_Elem l0_7 x8_1).f2)))) := ⟨bw HB⟩
       (try clear BK128)
       (try clear BK130)
       (try clear HB)
       generalize (((w46.setCell ⟨gb130, 0, none⟩ (.int .i64 ((rd_Elem l0_7 x8_1).f0))).setCell ⟨gb130, 1, none⟩ (.int .i64 ((rd_Elem l0_7 x8_1).f1))).setCell ⟨gb130, 2, none⟩ (.int .i64 ((rd_Elem l0_7 x8_1).f2))) = w49 at n0_ n1_ n2_ ⊢
       have BK128 := n0_
       have BK130 := n1_
       have HB := n2_
       clear n0_ n1_ n2_
       have n0_ := Aside0.mk (blk_drew BK128.out)
       have n1_ := Aside0.mk (blk_drew BK130.out)
       have n2_ := Aside0.mk (below_drew1 HB.out)
       clear BK128
       clear BK130
       clear HB
       have BK128 := n0_
       have BK130 := n1_
       have HB := n2_
       clear n0_ n1_ n2_
       refine stP (fun w' => B3 w' gb130 (.int .i64 ((rd_Elem l0_7 x8_1).f0)) (.int .i64 ((rd_Elem l0_7 x8_1).f1)) (.int .i64 ((rd_Elem l0_7 x8_1).f2)) (E11 w' gb128 (.int .i64 a0_0) (.int .i64 a0_1) (.int .i64 a0_2) (.int .i64 a0_3) (.int .i64 a0_4) (.int .i64 a0_5) (.string a0_6) (.slice (some ad129) l0_7.length c0_7) (.int .i64 a0_8) (.int .i64 a0_9) (.int .i64 a0_10))) 28 (b3 BK130 (e11 BK128)) (h := fun hHeld => ?_); refine with_tabW op_gone.tab4 op_gone.bits4 (fun HT_ HW_ => ?_)
       generalize w49.drew = w50 at BK128 BK130 HB hHeld ⊢
       refine pu HT_ 1 14 2 (h := ?_)
       refine tk HT_ HW_ hHeld 0 13 3 (h := ?_)
       refine pu HT_ 2 15 7 (h := ?_)
       refine pu HT_ 3 16 15 (h := ?_)
       refine tk HT_ HW_ hHeld 4 17 31 (h := ?_)
       refine on HT_ 5 (some 18) 63 (h := fun K hK => ?_)
       refine gS Try.func73 #[.agg #[.int .i64 ((rd_Elem l0_7 x8_1).f0), .int .i64 ((rd_Elem l0_7 x8_1).f1), .int .i64 ((rd_Elem l0_7 x8_1).f2)]] (h := ?_)
       with_reducible refine (op_IsElem.calls ((rd_Elem l0_7 x8_1).f0) ((rd_Elem l0_7 x8_1).f1) ((rd_Elem l0_7 x8_1).f2) true _ A13.out).mono ?_
       rintro e w51 ⟨rfl, hb⟩
       refine ⟨_, rfl, ?_⟩
       have n0_ := bl BK128 hb
       have n1_ := bl BK130 hb
       have n2_ := bs HB hb
       clear BK128
       clear BK130
       clear HB
       have BK128 := n0_
       have BK130 := n1_
       have HB := n2_
       clear n0_ n1_ n2_
       (try clear hb)
       (try clear hb2)
       (try clear hk)
       (try clear hi)
       refine hK.out _ _ (b3 BK130 (e11 BK128)) (fun hHeld => ?_)
       clear hK K
       refine nm (h := ?_)
       refine pu HT_ 6 19 127 (h := ?_)
       refine pu HT_ 7 20 255 (h := ?_)
       refine pu HT_ 8 21 511 (h := ?_)
       refine tk HT_ HW_ hHeld 9 22 1023 (h := ?_)
       refine tk HT_ HW_ hHeld 10 23 2047 (h := ?_)
       refine on HT_ 11 (some 24) 4095 (h := fun K hK => ?_)
       refine gS Try.func74 #[.agg #[.int .i64 a0_0, .int .i64 a0_1, .int .i64 a0_2, .int .i64 a0_3, .int .i64 a0_4, .int .i64 a0_5, .string a0_6, .slice (some ad129) l0_7.length c0_7, .int .i64 a0_8, .int .i64 a0_9, .int .i64 a0_10], .agg #[.int .i64 ((rd_Elem l0_7 x8_1).f0), .int .i64 ((rd_Elem l0_7 x8_1).f1), .int .i64 ((rd_Elem l0_7 x8_1).f2)]] (h := ?_)
       with_reducible refine (op_own.calls a0_0 a0_1 a0_2 a0_3 a0_4 a0_5 a0_6 _ _ l0_7 a0_8 a0_9 a0_10 ((rd_Elem l0_7 x8_1).f0) ((rd_Elem l0_7 x8_1).f1) ((rd_Elem l0_7 x8_1).f2) false _ ?side1 ?side2 A15.out).mono ?_
       (case side1 => repeat (first | exact (Kd.C_below HR0_7.out HB.out) | (with_reducible refine Kd.C_alloc ?_ _) | (with_reducible refine Kd.C_drewN ?_ _) | (with_reducible refine Kd.C_drew ?_)))
       (case side2 => exact HC0_7.out)
       rintro e w52 ⟨rfl, hb⟩
       refine ⟨_, rfl, ?_⟩
       have n0_ := bl BK128 hb
       have n1_ := bl BK130 hb
       have n2_ := bs HB hb
       clear BK128
       clear BK130
       clear HB
       have BK128 := n0_
       have BK130 := n1_
       have HB := n2_
       clear n0_ n1_ n2_
       (try clear hb)
       (try clear hb2)
       (try clear hk)
       (try clear hi)
       refine hK.out _ _ (b3 BK130 (e11 BK128)) (fun hHeld => ?_)
       clear hK K
       refine nm (h := ?_)
       refine pu HT_ 12 25 8191 (h := ?_)
       refine pu HT_ 13 26 16383 (h := ?_)
       refine pu HT_ 14 27 32767 (h := ?_)
       refine pu HT_ 15 28 65535 (h := ?_)
       refine pu HT_ 16 29 131071 (h := ?_)
       refine off HT_ 17 30 262143 (h := ?_)
       refine off HT_ 18 31 524287 (h := ?_)
       refine off HT_ 19 32 1048575 (h := ?_)
       refine off HT_ 20 33 2097151 (h := ?_)
       refine off HT_ 21 34 4194303 (h := ?_)
       refine off HT_ 22 35 8388607 (h := ?_)
       refine off HT_ 23 36 16777215 (h := ?_)
       refine off HT_ 24 37 33554431 (h := ?_)
       refine off HT_ 25 38 67108863 (h := ?_)
       refine pu HT_ 26 39 134217727 (h := ?_)
       refine pu HT_ 27 40 268435455 (h := ?_)
       refine dn HT_ (h := ?_)
       try go_wp2
       go_roundg k1
       case measure => have := HK1.out; omega
       case rel => exact ⟨(wrap64 (x8_1 + 1)), rf, H', ⟨by have := HK1.out; omega⟩, ⟨kk BK128⟩, ⟨bw HB⟩⟩
      replace c14 := Bool.eq_false_iff.mpr c14
      subst c14
      have H1 : (some false) = some r := by rw [if_neg (show ¬ (false = true) by decide)] at H; exact H
      clear H
      have H := H1
      clear H1
      obtain rfl := Option.some.inj H
      have p129 : 0 ≤ (x8_1 : Int) := of_decide_eq_true (by first | (with_reducible assumption) | assumption)
      have q129 : x8_1 < (l0_7.length : Int) := of_decide_eq_true (by first | (with_reducible assumption) | assumption)
      obtain ⟨ad129, e129, hx129_0, hx129_1, hx129_2⟩ := at_Elem HR0_7.out x8_1 p129 q129
      cases e129
      replace hx129_0 := cl HB hx129_0
      replace hx129_1 := cl HB hx129_1
      replace hx129_2 := cl HB hx129_2
      replace p129 := eq_true p129
      replace q129 := eq_true q129
      try go_wp2_with (first | ((with_reducible refine gate_dst (N := 4) rfl ?_); refine bx 4 #[.int .i64 0, .int .i64 0, .int .i64 0] 36 (h := ?_); intro gb130 hg w53 hbox hb; have BK130 := Aside0.mk (hbox); have GW130 := bz HB hg; have GE130 := bz HB hg; have NB128_130 := bn BK128 hg; have NB130_128 := bm BK128 hg; replace BK128 := bl BK128 hb; replace HB := bs HB hb; clear hb hbox hg; have hnb54 := NB130_128.out; have hnc54 := NB128_130.out; obtain ⟨hcz55_0, hcz55_1, hcz55_2, hfz55_0, hfz55_1, hfz55_2⟩ := kc3 BK130))
      have n0_ : Aside0 ((((w53.setCell ⟨gb130, 0, none⟩ (.int .i64 ((rd_Elem l0_7 x8_1).f0))).setCell ⟨gb130, 1, none⟩ (.int .i64 ((rd_Elem l0_7 x8_1).f1))).setCell ⟨gb130, 2, none⟩ (.int .i64 ((rd_Elem l0_7 x8_1).f2))).heap[gb128]? = some (.cells #[.int .i64 a0_0, .int .i64 a0_1, .int .i64 a0_2, .int .i64 a0_3, .int .i64 a0_4, .int .i64 a0_5, .string a0_6, .slice (some ad129) l0_7.length c0_7, .int .i64 a0_8, .int .i64 a0_9, .int .i64 a0_10] 38 (0, 0))) := ⟨kk BK128⟩
      have n1_ : Aside0 ((((w53.setCell ⟨gb130, 0, none⟩ (.int .i64 ((rd_Elem l0_7 x8_1).f0))).setCell ⟨gb130, 1, none⟩ (.int .i64 ((rd_Elem l0_7 x8_1).f1))).setCell ⟨gb130, 2, none⟩ (.int .i64 ((rd_Elem l0_7 x8_1).f2))).heap[gb130]? = some (.cells #[.int .i64 ((rd_Elem l0_7 x8_1).f0), .int .i64 ((rd_Elem l0_7 x8_1).f1), .int .i64 ((rd_Elem l0_7 x8_1).f2)] 36 (0, 0))) := ⟨bp (bp (bp (kk BK130) 0) 1) 2⟩
      have n2_ : Aside0 (Below w.heap.size w (((w53.setCell ⟨gb130, 0, none⟩ (.int .i64 ((rd_Elem l0_7 x8_1).f0))).setCell ⟨gb130, 1, none⟩ (.int .i64 ((rd_Elem l0_7 x8_1).f1))).setCell ⟨gb130, 2, none⟩ (.int .i64 ((rd_Elem l0_7 x8_1).f2)))) := ⟨bw HB⟩
      (try clear BK128)
      (try clear BK130)
      (try clear HB)
      generalize (((w53.setCell ⟨gb130, 0, none⟩ (.int .i64 ((rd_Elem l0_7 x8_1).f0))).setCell ⟨gb130, 1, none⟩ (.int .i64 ((rd_Elem l0_7 x8_1).f1))).setCell ⟨gb130, 2, none⟩ (.int .i64 ((rd_Elem l0_7 x8_1).f2))) = w56 at n0_ n1_ n2_ ⊢
      have BK128 := n0_
      have BK130 := n1_
      have HB := n2_
      clear n0_ n1_ n2_
      have n0_ := Aside0.mk (blk_drew BK128.out)
      have n1_ := Aside0.mk (blk_drew BK130.out)
      have n2_ := Aside0.mk (below_drew1 HB.out)
      clear BK128
      clear BK130
      clear HB
      have BK128 := n0_
      have BK130 := n1_
      have HB := n2_
      clear n0_ n1_ n2_
      refine stP (fun w' => E3 w' gb130 (.int .i64 ((rd_Elem l0_7 x8_1).f0)) (.int .i64 ((rd_Elem l0_7 x8_1).f1)) (.int .i64 ((rd_Elem l0_7 x8_1).f2))) 28 (e3 BK130) (h := fun hHeld => ?_); refine with_tabW op_gone.tab4 op_gone.bits4 (fun HT_ HW_ => ?_)
      generalize w56.drew = w57 at BK128 BK130 HB hHeld ⊢
      refine pu HT_ 1 14 2 (h := ?_)
      refine tk HT_ HW_ hHeld 0 13 3 (h := ?_)
      refine pu HT_ 2 15 7 (h := ?_)
      refine pu HT_ 3 16 15 (h := ?_)
      refine tk HT_ HW_ hHeld 4 17 31 (h := ?_)
      refine on HT_ 5 (some 18) 63 (h := fun K hK => ?_)
      refine gS Try.func73 #[.agg #[.int .i64 ((rd_Elem l0_7 x8_1).f0), .int .i64 ((rd_Elem l0_7 x8_1).f1), .int .i64 ((rd_Elem l0_7 x8_1).f2)]] (h := ?_)
      with_reducible refine (op_IsElem.calls ((rd_Elem l0_7 x8_1).f0) ((rd_Elem l0_7 x8_1).f1) ((rd_Elem l0_7 x8_1).f2) false _ A13.out).mono ?_
      rintro e w58 ⟨rfl, hb⟩
      refine ⟨_, rfl, ?_⟩
      have n0_ := bl BK128 hb
      have n1_ := bl BK130 hb
      have n2_ := bs HB hb
      clear BK128
      clear BK130
      clear HB
      have BK128 := n0_
      have BK130 := n1_
      have HB := n2_
      clear n0_ n1_ n2_
      (try clear hb)
      (try clear hb2)
      (try clear hk)
      (try clear hi)
      refine hK.out _ _ (e3 BK130) (fun hHeld => ?_)
      clear hK K
      refine nm (h := ?_)
      refine pu HT_ 6 19 127 (h := ?_)
      refine pu HT_ 7 20 255 (h := ?_)
      refine pu HT_ 8 21 511 (h := ?_)
      refine off HT_ 9 22 1023 (h := ?_)
      refine off HT_ 10 23 2047 (h := ?_)
      refine off HT_ 11 24 4095 (h := ?_)
      refine pu HT_ 12 25 8191 (h := ?_)
      refine pu HT_ 13 26 16383 (h := ?_)
      refine off HT_ 14 27 32767 (h := ?_)
      refine off HT_ 15 28 65535 (h := ?_)
      refine off HT_ 16 29 131071 (h := ?_)
      refine off HT_ 17 30 262143 (h := ?_)
      refine off HT_ 18 31 524287 (h := ?_)
      refine off HT_ 19 32 1048575 (h := ?_)
      refine off HT_ 20 33 2097151 (h := ?_)
      refine off HT_ 21 34 4194303 (h := ?_)
      refine off HT_ 22 35 8388607 (h := ?_)
      refine off HT_ 23 36 16777215 (h := ?_)
      refine off HT_ 24 37 33554431 (h := ?_)
      refine off HT_ 25 38 67108863 (h := ?_)
      refine off HT_ 26 39 134217727 (h := ?_)
      refine pu HT_ 27 40 268435455 (h := ?_)
      refine dn HT_ (h := ?_)
      try go_wp2
      go_ret
      exact ⟨re, bw HB⟩
     rw [if_neg c6] at H
     exact absurd H (by simp)
    rw [if_neg c5] at H
    exact absurd H (by simp)
   rw [if_neg c4] at H
   have c4b0 : decide (x8_1 < (l0_7.length : Int)) = false := decide_eq_false c4
   clear c4
   obtain rfl := Option.some.inj H
   obtain ⟨hcz59_0, hcz59_1, hcz59_2, hcz59_3, hcz59_4, hcz59_5, hcz59_6, hcz59_7, hcz59_8, hcz59_9, hcz59_10, hfz59_0, hfz59_1, hfz59_2, hfz59_3, hfz59_4, hfz59_5, hfz59_6, hfz59_7, hfz59_8, hfz59_9, hfz59_10⟩ := kc11 BK128
   go_wp2
   go_ret
   exact ⟨re, bw HB⟩
end Go.Proofs.Ytonoaflfobajcaa.L
end

section
namespace Go.Proofs.Ytonoaflfobajcaa.L
open Go.RowKit Go.Proofs.YtonoaflfobajcaaW.PrintWords Go.Proofs.YtonoaflfobajcaaW.PrintLast Go.Proofs.YtonoaflfobajcaaW.PrintMore
attribute [local go_sem] max2_int min2_int max_two min_two max_three min_three max_four min_four
set_option linter.unusedVariables false
set_option linter.unusedSimpArgs false
attribute [local go_sem high] eqAElem
def op_edit.j0 : Nat → Bool → Int → Int → Int → Int → Int → Int → ByteArray → List (SElem) → Int → Int → Int → Option (Bool)
 | 0, _, _, _, _, _, _, _, _, _, _, _, _ => none
 | k + 1, x34, x136000, x136001, x136002, x136003, x136004, x136005, x136006, x136007, x136008, x136009, x136010 => if x34 = true then (some false) else ((text_May.f x136006).bind fun t138 => (if t138 = true then ((op_Size.f x136000 x136001 x136002 x136003 x136004 x136005 x136006 x136007 x136008 x136009 x136010).bind fun t139 => (if t139 ≤ 12 then ((op_gone.f k x136000 x136001 x136002 x136003 x136004 x136005 x136006 x136007 x136008 x136009 x136010).bind fun t140 => (if t140 = true then (if x136008 = 0 then (if x136009 = 0 then (some (x136010 == 0)) else (some false)) else (some false)) else (some false))) else (some false))) else (some false)))
def op_edit.f (k : Nat) (a0_0 : Int) (a0_1 : Int) (a0_2 : Int) (a0_3 : Int) (a0_4 : Int) (a0_5 : Int) (a0_6 : ByteArray) (l0_7 : List (SElem)) (a0_8 : Int) (a0_9 : Int) (a0_10 : Int) : Option (Bool) := (op_IsElem.f a0_3 a0_4 a0_5).bind fun t136 => (if t136 = true then ((op_own.f a0_0 a0_1 a0_2 a0_3 a0_4 a0_5 a0_6 l0_7 a0_8 a0_9 a0_10 a0_3 a0_4 a0_5).bind fun t137 => (if t137 = true then (op_edit.j0 k true a0_0 a0_1 a0_2 a0_3 a0_4 a0_5 a0_6 l0_7 a0_8 a0_9 a0_10) else (if a0_6.toList = ([] : List UInt8) then (if (!(a0_3 == 0) || (!(a0_4 == 0) || (!(a0_5 == 0)))) = true then (op_edit.j0 k true a0_0 a0_1 a0_2 a0_3 a0_4 a0_5 a0_6 l0_7 a0_8 a0_9 a0_10) else (op_edit.j0 k ((l0_7.length : Int) == 0) a0_0 a0_1 a0_2 a0_3 a0_4 a0_5 a0_6 l0_7 a0_8 a0_9 a0_10)) else (op_edit.j0 k false a0_0 a0_1 a0_2 a0_3 a0_4 a0_5 a0_6 l0_7 a0_8 a0_9 a0_10)))) else (op_edit.j0 k true a0_0 a0_1 a0_2 a0_3 a0_4 a0_5 a0_6 l0_7 a0_8 a0_9 a0_10))
set_option maxHeartbeats 8000000 in
set_option maxRecDepth 100000 in
theorem op_edit.calls (k : Nat) (a0_0 : Int) (a0_1 : Int) (a0_2 : Int) (a0_3 : Int) (a0_4 : Int) (a0_5 : Int) (a0_6 : ByteArray) (A0_7 : Option Addr) (c0_7 : Nat) (l0_7 : List (SElem)) (a0_8 : Int) (a0_9 : Int) (a0_10 : Int) (r : Bool) (w : World) (hr0_7 : Kd.C kElem w A0_7 l0_7.length l0_7) (hc0_7 : l0_7.length ≤ c0_7) (h : op_edit.f k a0_0 a0_1 a0_2 a0_3 a0_4 a0_5 a0_6 l0_7 a0_8 a0_9 a0_10 = some r) :
  Calls Try.prog 59 #[.agg #[.int .i64 a0_0, .int .i64 a0_1, .int .i64 a0_2, .int .i64 a0_3, .int .i64 a0_4, .int .i64 a0_5, .string a0_6, .slice A0_7 l0_7.length c0_7, .int .i64 a0_8, .int .i64 a0_9, .int .i64 a0_10]] w fun e w' => e = .returned (.bool r) ∧ Below w.heap.size w w' := by
 have hu38 := Try.underlying38
 have hu36 := Try.underlying36
 have HR0_7 := Aside0.mk hr0_7
 have HC0_7 := Aside0.mk hc0_7
 clear hr0_7 hc0_7
 have HB := Aside0.mk (Below.refl w.heap.size w)
 have H : ((op_IsElem.f a0_3 a0_4 a0_5).bind fun t136 => (if t136 = true then ((op_own.f a0_0 a0_1 a0_2 a0_3 a0_4 a0_5 a0_6 l0_7 a0_8 a0_9 a0_10 a0_3 a0_4 a0_5).bind fun t137 => (if t137 = true then (op_edit.j0 k true a0_0 a0_1 a0_2 a0_3 a0_4 a0_5 a0_6 l0_7 a0_8 a0_9 a0_10) else (if a0_6.toList = ([] : List UInt8) then (if (!(a0_3 == 0) || (!(a0_4 == 0) || (!(a0_5 == 0)))) = true then (op_edit.j0 k true a0_0 a0_1 a0_2 a0_3 a0_4 a0_5 a0_6 l0_7 a0_8 a0_9 a0_10) else (op_edit.j0 k ((l0_7.length : Int) == 0) a0_0 a0_1 a0_2 a0_3 a0_4 a0_5 a0_6 l0_7 a0_8 a0_9 a0_10)) else (op_edit.j0 k false a0_0 a0_1 a0_2 a0_3 a0_4 a0_5 a0_6 l0_7 a0_8 a0_9 a0_10)))) else (op_edit.j0 k true a0_0 a0_1 a0_2 a0_3 a0_4 a0_5 a0_6 l0_7 a0_8 a0_9 a0_10))) = some r := h
 clear h
 have HC2 := Aside0.mk H
 clear H
 go_enter Try.func59, Try.ntmps59
 go_upto_region 1 with (first | ((with_reducible refine gate_dst (N := 1) rfl ?_); (try (refine gate_guard (by rfl) ?_; dsimp only)); refine bx 1 #[.int .i64 a0_0, .int .i64 a0_1, .int .i64 a0_2, .int .i64 a0_3, .int .i64 a0_4, .int .i64 a0_5, .string a0_6, .slice A0_7 l0_7.length c0_7, .int .i64 a0_8, .int .i64 a0_9, .int .i64 a0_10] 38 (h := ?_); intro gb135 hg w3 hbox hb; have BK135 := Aside0.mk (hbox); have GW135 := bz HB hg; have GE135 := bz HB hg; replace HB := bs HB hb; clear hb hbox hg))
 (try simp only [Act.put, List.setIfInBounds_toArray, List.set_cons_zero, List.set_cons_succ])
 go_cut [34] (fun v34 wc => ∃ (kq : Nat) (x34_1 : Bool), v34 = .bool x34_1 ∧ Aside0 (op_edit.j0 kq x34_1 a0_0 a0_1 a0_2 a0_3 a0_4 a0_5 a0_6 l0_7 a0_8 a0_9 a0_10 = some r) ∧ Aside0 (kq ≤ k) ∧ Aside0 (wc.heap[gb135]? = some (.cells #[.int .i64 a0_0, .int .i64 a0_1, .int .i64 a0_2, .int .i64 a0_3, .int .i64 a0_4, .int .i64 a0_5, .string a0_6, (.slice A0_7 l0_7.length c0_7), .int .i64 a0_8, .int .i64 a0_9, .int .i64 a0_10] 38 (0, 0))) ∧ Aside0 (Below w.heap.size w wc))
 case first =>
  have H := HC2.out
  clear HC2
  replace H := Option.bind_eq_some_iff.mp H
  obtain ⟨t136, A40, H⟩ := H
  replace H : (if t136 = true then ((op_own.f a0_0 a0_1 a0_2 a0_3 a0_4 a0_5 a0_6 l0_7 a0_8 a0_9 a0_10 a0_3 a0_4 a0_5).bind fun t137 => (if t137 = true then (op_edit.j0 k true a0_0 a0_1 a0_2 a0_3 a0_4 a0_5 a0_6 l0_7 a0_8 a0_9 a0_10) else (if a0_6.toList = ([] : List UInt8) then (if (!(a0_3 == 0) || (!(a0_4 == 0) || (!(a0_5 == 0)))) = true then (op_edit.j0 k true a0_0 a0_1 a0_2 a0_3 a0_4 a0_5 a0_6 l0_7 a0_8 a0_9 a0_10) else (op_edit.j0 k ((l0_7.length : Int) == 0) a0_0 a0_1 a0_2 a0_3 a0_4 a0_5 a0_6 l0_7 a0_8 a0_9 a0_10)) else (op_edit.j0 k false a0_0 a0_1 a0_2 a0_3 a0_4 a0_5 a0_6 l0_7 a0_8 a0_9 a0_10)))) else (op_edit.j0 k true a0_0 a0_1 a0_2 a0_3 a0_4 a0_5 a0_6 l0_7 a0_8 a0_9 a0_10)) = some r := H
  have A4 := Aside0.mk A40
  clear A40
  by_cases c5 : t136 = true
  ·subst c5
   have H1 : ((op_own.f a0_0 a0_1 a0_2 a0_3 a0_4 a0_5 a0_6 l0_7 a0_8 a0_9 a0_10 a0_3 a0_4 a0_5).bind fun t137 => (if t137 = true then (op_edit.j0 k true a0_0 a0_1 a0_2 a0_3 a0_4 a0_5 a0_6 l0_7 a0_8 a0_9 a0_10) else (if a0_6.toList = ([] : List UInt8) then (if (!(a0_3 == 0) || (!(a0_4 == 0) || (!(a0_5 == 0)))) = true then (op_edit.j0 k true a0_0 a0_1 a0_2 a0_3 a0_4 a0_5 a0_6 l0_7 a0_8 a0_9 a0_10) else (op_edit.j0 k ((l0_7.length : Int) == 0) a0_0 a0_1 a0_2 a0_3 a0_4 a0_5 a0_6 l0_7 a0_8 a0_9 a0_10)) else (op_edit.j0 k false a0_0 a0_1 a0_2 a0_3 a0_4 a0_5 a0_6 l0_7 a0_8 a0_9 a0_10)))) = some r := by rw [if_pos rfl] at H; exact H
   clear H
   have H := H1
   clear H1
   replace H := Option.bind_eq_some_iff.mp H
   obtain ⟨t137, A60, H⟩ := H
   replace H : (if t137 = true then (op_edit.j0 k true a0_0 a0_1 a0_2 a0_3 a0_4 a0_5 a0_6 l0_7 a0_8 a0_9 a0_10) else (if a0_6.toList = ([] : List UInt8) then (if (!(a0_3 == 0) || (!(a0_4 == 0) || (!(a0_5 == 0)))) = true then (op_edit.j0 k true a0_0 a0_1 a0_2 a0_3 a0_4 a0_5 a0_6 l0_7 a0_8 a0_9 a0_10) else (op_edit.j0 k ((l0_7.length : Int) == 0) a0_0 a0_1 a0_2 a0_3 a0_4 a0_5 a0_6 l0_7 a0_8 a0_9 a0_10)) else (op_edit.j0 k false a0_0 a0_1 a0_2 a0_3 a0_4 a0_5 a0_6 l0_7 a0_8 a0_9 a0_10))) = some r := H
   have A6 := Aside0.mk A60
   clear A60
   by_cases c7 : t137 = true
   ·subst c7
    have H1 : (op_edit.j0 k true a0_0 a0_1 a0_2 a0_3 a0_4 a0_5 a0_6 l0_7 a0_8 a0_9 a0_10) = some r := by rw [if_pos rfl] at H; exact H
    clear H
    have H := H1
    clear H1
    have H' := Aside0.mk H
    clear H
    obtain ⟨hcz8_0, hcz8_1, hcz8_2, hcz8_3, hcz8_4, hcz8_5, hcz8_6, hcz8_7, hcz8_8, hcz8_9, hcz8_10, hfz8_0, hfz8_1, hfz8_2, hfz8_3, hfz8_4, hfz8_5, hfz8_6, hfz8_7, hfz8_8, hfz8_9, hfz8_10⟩ := kc11 BK135
    go_wp2_with (first | ((with_reducible refine gate_callee (f := 73) rfl ?_); refine gl (some 5) Try.func73 #[.agg #[.int .i64 a0_3, .int .i64 a0_4, .int .i64 a0_5]] (h := ?_); (with_reducible refine (op_IsElem.calls a0_3 a0_4 a0_5 true _ A4.out).mono ?_); rintro e w9 ⟨rfl, hb⟩; refine ⟨_, rfl, ?_⟩; replace BK135 := bl BK135 hb; replace HB := bs HB hb; (try clear hb); (try clear hb2); (try clear hk); (try clear hi); obtain ⟨hcz10_0, hcz10_1, hcz10_2, hcz10_3, hcz10_4, hcz10_5, hcz10_6, hcz10_7, hcz10_8, hcz10_9, hcz10_10, hfz10_0, hfz10_1, hfz10_2, hfz10_3, hfz10_4, hfz10_5, hfz10_6, hfz10_7, hfz10_8, hfz10_9, hfz10_10⟩ := kc11 BK135) | (go_at_call 74; (with_reducible refine (op_own.calls a0_0 a0_1 a0_2 a0_3 a0_4 a0_5 a0_6 _ _ l0_7 a0_8 a0_9 a0_10 a0_3 a0_4 a0_5 true _ ?side1 ?side2 A6.out).mono ?_); (case side1 => repeat (first | exact (Kd.C_below HR0_7.out HB.out) | (with_reducible refine Kd.C_alloc ?_ _) | (with_reducible refine Kd.C_drewN ?_ _) | (with_reducible refine Kd.C_drew ?_))); (case side2 => exact HC0_7.out); rintro e w11 ⟨rfl, hb⟩; replace BK135 := bl BK135 hb; replace HB := bs HB hb; (try clear hb); (try clear hb2); (try clear hk); (try clear hi)))
    go_meet
    case rel => exact ⟨_, (true), rf, H', ⟨by first | omega | exact Nat.le_refl _⟩, ⟨kk BK135⟩, ⟨bw HB⟩⟩
   replace c7 := Bool.eq_false_iff.mpr c7
   subst c7
   have H1 : (if a0_6.toList = ([] : List UInt8) then (if (!(a0_3 == 0) || (!(a0_4 == 0) || (!(a0_5 == 0)))) = true then (op_edit.j0 k true a0_0 a0_1 a0_2 a0_3 a0_4 a0_5 a0_6 l0_7 a0_8 a0_9 a0_10) else (op_edit.j0 k ((l0_7.length : Int) == 0) a0_0 a0_1 a0_2 a0_3 a0_4 a0_5 a0_6 l0_7 a0_8 a0_9 a0_10)) else (op_edit.j0 k false a0_0 a0_1 a0_2 a0_3 a0_4 a0_5 a0_6 l0_7 a0_8 a0_9 a0_10)) = some r := by rw [if_neg (show ¬ (false = true) by decide)] at H; exact H
   clear H
   have H := H1
   clear H1
   by_cases c12 : a0_6.toList = ([] : List UInt8)
   ·rw [if_pos c12] at H
    have c12b0 : (a0_6.toList == ([] : List UInt8)) = true := beq_iff_eq.mpr c12
    have c12b1 : (a0_6.toList != ([] : List UInt8)) = false := bne_eq_false_iff_eq.mpr c12
    clear c12
    (first | rw [c12b0] | (simp only [i64_w, i32_w]; rw [c12b0]) | skip)
    by_cases c13 : (!(a0_3 == 0) || (!(a0_4 == 0) || (!(a0_5 == 0)))) = true
    ·rw [if_pos c13] at H
     have c13b0 : (!(a0_3 == 0) || (!(a0_4 == 0) || (!(a0_5 == 0)))) = true := c13
     clear c13
     have H' := Aside0.mk H
     clear H
     obtain ⟨hcz14_0, hcz14_1, hcz14_2, hcz14_3, hcz14_4, hcz14_5, hcz14_6, hcz14_7, hcz14_8, hcz14_9, hcz14_10, hfz14_0, hfz14_1, hfz14_2, hfz14_3, hfz14_4, hfz14_5, hfz14_6, hfz14_7, hfz14_8, hfz14_9, hfz14_10⟩ := kc11 BK135
     go_wp2_with (first | ((with_reducible refine gate_callee (f := 73) rfl ?_); refine gl (some 5) Try.func73 #[.agg #[.int .i64 a0_3, .int .i64 a0_4, .int .i64 a0_5]] (h := ?_); (with_reducible refine (op_IsElem.calls a0_3 a0_4 a0_5 true _ A4.out).mono ?_); rintro e w15 ⟨rfl, hb⟩; refine ⟨_, rfl, ?_⟩; replace BK135 := bl BK135 hb; replace HB := bs HB hb; (try clear hb); (try clear hb2); (try clear hk); (try clear hi); obtain ⟨hcz16_0, hcz16_1, hcz16_2, hcz16_3, hcz16_4, hcz16_5, hcz16_6, hcz16_7, hcz16_8, hcz16_9, hcz16_10, hfz16_0, hfz16_1, hfz16_2, hfz16_3, hfz16_4, hfz16_5, hfz16_6, hfz16_7, hfz16_8, hfz16_9, hfz16_10⟩ := kc11 BK135) | (go_at_call 74; (with_reducible refine (op_own.calls a0_0 a0_1 a0_2 a0_3 a0_4 a0_5 a0_6 _ _ l0_7 a0_8 a0_9 a0_10 a0_3 a0_4 a0_5 false _ ?side1 ?side2 A6.out).mono ?_); (case side1 => repeat (first | exact (Kd.C_below HR0_7.out HB.out) | (with_reducible refine Kd.C_alloc ?_ _) | (with_reducible refine Kd.C_drewN ?_ _) | (with_reducible refine Kd.C_drew ?_))); (case side2 => exact HC0_7.out); rintro e w17 ⟨rfl, hb⟩; replace BK135 := bl BK135 hb; replace HB := bs HB hb; (try clear hb); (try clear hb2); (try clear hk); (try clear hi); obtain ⟨hcz18_0, hcz18_1, hcz18_2, hcz18_3, hcz18_4, hcz18_5, hcz18_6, hcz18_7, hcz18_8, hcz18_9, hcz18_10, hfz18_0, hfz18_1, hfz18_2, hfz18_3, hfz18_4, hfz18_5, hfz18_6, hfz18_7, hfz18_8, hfz18_9, hfz18_10⟩ := kc11 BK135))
     go_meet
     case rel => exact ⟨_, (true), rf, H', ⟨by first | omega | exact Nat.le_refl _⟩, ⟨kk BK135⟩, ⟨bw HB⟩⟩
    rw [if_neg c13] at H
    have c13b0 : (!(a0_3 == 0) || (!(a0_4 == 0) || (!(a0_5 == 0)))) = false := by simpa using c13
    clear c13
    have H' := Aside0.mk H
    clear H
    obtain ⟨hcz19_0, hcz19_1, hcz19_2, hcz19_3, hcz19_4, hcz19_5, hcz19_6, hcz19_7, hcz19_8, hcz19_9, hcz19_10, hfz19_0, hfz19_1, hfz19_2, hfz19_3, hfz19_4, hfz19_5, hfz19_6, hfz19_7, hfz19_8, hfz19_9, hfz19_10⟩ := kc11 BK135
    go_wp2_with (first | ((with_reducible refine gate_callee (f := 73) rfl ?_); refine gl (some 5) Try.func73 #[.agg #[.int .i64 a0_3, .int .i64 a0_4, .int .i64 a0_5]] (h := ?_); (with_reducible refine (op_IsElem.calls a0_3 a0_4 a0_5 true _ A4.out).mono ?_); rintro e w20 ⟨rfl, hb⟩; refine ⟨_, rfl, ?_⟩; replace BK135 := bl BK135 hb; replace HB := bs HB hb; (try clear hb); (try clear hb2); (try clear hk); (try clear hi); obtain ⟨hcz21_0, hcz21_1, hcz21_2, hcz21_3, hcz21_4, hcz21_5, hcz21_6, hcz21_7, hcz21_8, hcz21_9, hcz21_10, hfz21_0, hfz21_1, hfz21_2, hfz21_3, hfz21_4, hfz21_5, hfz21_6, hfz21_7, hfz21_8, hfz21_9, hfz21_10⟩ := kc11 BK135) | (go_at_call 74; (with_reducible refine (op_own.calls a0_0 a0_1 a0_2 a0_3 a0_4 a0_5 a0_6 _ _ l0_7 a0_8 a0_9 a0_10 a0_3 a0_4 a0_5 false _ ?side1 ?side2 A6.out).mono ?_); (case side1 => repeat (first | exact (Kd.C_below HR0_7.out HB.out) | (with_reducible refine Kd.C_alloc ?_ _) | (with_reducible refine Kd.C_drewN ?_ _) | (with_reducible refine Kd.C_drew ?_))); (case side2 => exact HC0_7.out); rintro e w22 ⟨rfl, hb⟩; replace BK135 := bl BK135 hb; replace HB := bs HB hb; (try clear hb); (try clear hb2); (try clear hk); (try clear hi); obtain ⟨hcz23_0, hcz23_1, hcz23_2, hcz23_3, hcz23_4, hcz23_5, hcz23_6, hcz23_7, hcz23_8, hcz23_9, hcz23_10, hfz23_0, hfz23_1, hfz23_2, hfz23_3, hfz23_4, hfz23_5, hfz23_6, hfz23_7, hfz23_8, hfz23_9, hfz23_10⟩ := kc11 BK135))
    go_meet
    case rel => exact ⟨_, (((l0_7.length : Int) == 0)), rf, H', ⟨by first | omega | exact Nat.le_refl _⟩, ⟨kk BK135⟩, ⟨bw HB⟩⟩
   rw [if_neg c12] at H
   have c12b0 : (a0_6.toList == ([] : List UInt8)) = false := beq_eq_false_iff_ne.mpr c12
   have c12b1 : (a0_6.toList != ([] : List UInt8)) = true := bne_iff_ne.mpr c12
   (first | rw [c12b0] | (simp only [i64_w, i32_w]; rw [c12b0]) | skip)
   have H' := Aside0.mk H
   clear H
   obtain ⟨hcz24_0, hcz24_1, hcz24_2, hcz24_3, hcz24_4, hcz24_5, hcz24_6, hcz24_7, hcz24_8, hcz24_9, hcz24_10, hfz24_0, hfz24_1, hfz24_2, hfz24_3, hfz24_4, hfz24_5, hfz24_6, hfz24_7, hfz24_8, hfz24_9, hfz24_10⟩ := kc11 BK135
   go_wp2_with (first | ((with_reducible refine gate_callee (f := 73) rfl ?_); refine gl (some 5) Try.func73 #[.agg #[.int .i64 a0_3, .int .i64 a0_4, .int .i64 a0_5]] (h := ?_); (with_reducible refine (op_IsElem.calls a0_3 a0_4 a0_5 true _ A4.out).mono ?_); rintro e w25 ⟨rfl, hb⟩; refine ⟨_, rfl, ?_⟩; replace BK135 := bl BK135 hb; replace HB := bs HB hb; (try clear hb); (try clear hb2); (try clear hk); (try clear hi); obtain ⟨hcz26_0, hcz26_1, hcz26_2, hcz26_3, hcz26_4, hcz26_5, hcz26_6, hcz26_7, hcz26_8, hcz26_9, hcz26_10, hfz26_0, hfz26_1, hfz26_2, hfz26_3, hfz26_4, hfz26_5, hfz26_6, hfz26_7, hfz26_8, hfz26_9, hfz26_10⟩ := kc11 BK135) | (go_at_call 74; (with_reducible refine (op_own.calls a0_0 a0_1 a0_2 a0_3 a0_4 a0_5 a0_6 _ _ l0_7 a0_8 a0_9 a0_10 a0_3 a0_4 a0_5 false _ ?side1 ?side2 A6.out).mono ?_); (case side1 => repeat (first | exact (Kd.C_below HR0_7.out HB.out) | (with_reducible refine Kd.C_alloc ?_ _) | (with_reducible refine Kd.C_drewN ?_ _) | (with_reducible refine Kd.C_drew ?_))); (case side2 => exact HC0_7.out); rintro e w27 ⟨rfl, hb⟩; replace BK135 := bl BK135 hb; replace HB := bs HB hb; (try clear hb); (try clear hb2); (try clear hk); (try clear hi); obtain ⟨hcz28_0, hcz28_1, hcz28_2, hcz28_3, hcz28_4, hcz28_5, hcz28_6, hcz28_7, hcz28_8, hcz28_9, hcz28_10, hfz28_0, hfz28_1, hfz28_2, hfz28_3, hfz28_4, hfz28_5, hfz28_6, hfz28_7, hfz28_8, hfz28_9, hfz28_10⟩ := kc11 BK135))
   go_meet
   case rel => exact ⟨_, (false), rf, H', ⟨by first | omega | exact Nat.le_refl _⟩, ⟨kk BK135⟩, ⟨bw HB⟩⟩
  replace c5 := Bool.eq_false_iff.mpr c5
  subst c5
  have H1 : (op_edit.j0 k true a0_0 a0_1 a0_2 a0_3 a0_4 a0_5 a0_6 l0_7 a0_8 a0_9 a0_10) = some r := by rw [if_neg (show ¬ (false = true) by decide)] at H; exact H
  clear H
  have H := H1
  clear H1
  have H' := Aside0.mk H
  clear H
  obtain ⟨hcz29_0, hcz29_1, hcz29_2, hcz29_3, hcz29_4, hcz29_5, hcz29_6, hcz29_7, hcz29_8, hcz29_9, hcz29_10, hfz29_0, hfz29_1, hfz29_2, hfz29_3, hfz29_4, hfz29_5, hfz29_6, hfz29_7, hfz29_8, hfz29_9, hfz29_10⟩ := kc11 BK135
  go_wp2_with (first | ((with_reducible refine gate_callee (f := 73) rfl ?_); refine gl (some 5) Try.func73 #[.agg #[.int .i64 a0_3, .int .i64 a0_4, .int .i64 a0_5]] (h := ?_); (with_reducible refine (op_IsElem.calls a0_3 a0_4 a0_5 false _ A4.out).mono ?_); rintro e w30 ⟨rfl, hb⟩; refine ⟨_, rfl, ?_⟩; replace BK135 := bl BK135 hb; replace HB := bs HB hb; (try clear hb); (try clear hb2); (try clear hk); (try clear hi)))
  go_meet
  case rel => exact ⟨_, (true), rf, H', ⟨by first | omega | exact Nat.le_refl _⟩, ⟨kk BK135⟩, ⟨bw HB⟩⟩
 case rest =>
  clear HC2
  obtain ⟨kq, x34_1, rfl, HA, HJ1, BK135, HB⟩ := hcut
  cases kq with
  | zero => exact absurd HA.out (by simp [op_edit.j0])
  | succ kj1 =>
   have H := HA.out
   clear HA
   simp only [op_edit.j0] at H
   by_cases c31 : x34_1 = true
   ·subst c31
    have H1 : (some false) = some r := by rw [if_pos rfl] at H; exact H
    clear H
    have H := H1
    clear H1
    obtain rfl := Option.some.inj H
    go_wp2
    go_ret
    exact ⟨re, bw HB⟩
   replace c31 := Bool.eq_false_iff.mpr c31
   subst c31
   have H1 : ((text_May.f a0_6).bind fun t138 => (if t138 = true then ((op_Size.f a0_0 a0_1 a0_2 a0_3 a0_4 a0_5 a0_6 l0_7 a0_8 a0_9 a0_10).bind fun t139 => (if t139 ≤ 12 then ((op_gone.f kj1 a0_0 a0_1 a0_2 a0_3 a0_4 a0_5 a0_6 l0_7 a0_8 a0_9 a0_10).bind fun t140 => (if t140 = true then (if a0_8 = 0 then (if a0_9 = 0 then (some (a0_10 == 0)) else (some false)) else (some false)) else (some false))) else (some false))) else (some false))) = some r := by rw [if_neg (show ¬ (false = true) by decide)] at H; exact H
   clear H
   have H := H1
   clear H1
   replace H := Option.bind_eq_some_iff.mp H
   obtain ⟨t138, A320, H⟩ := H
   replace H : (if t138 = true then ((op_Size.f a0_0 a0_1 a0_2 a0_3 a0_4 a0_5 a0_6 l0_7 a0_8 a0_9 a0_10).bind fun t139 => (if t139 ≤ 12 then ((op_gone.f kj1 a0_0 a0_1 a0_2 a0_3 a0_4 a0_5 a0_6 l0_7 a0_8 a0_9 a0_10).bind fun t140 => (if t140 = true then (if a0_8 = 0 then (if a0_9 = 0 then (some (a0_10 == 0)) else (some false)) else (some false)) else (some false))) else (some false))) else (some false)) = some r := H
   have A32 := Aside0.mk A320
   clear A320
   by_cases c33 : t138 = true
   ·subst c33
    have H1 : ((op_Size.f a0_0 a0_1 a0_2 a0_3 a0_4 a0_5 a0_6 l0_7 a0_8 a0_9 a0_10).bind fun t139 => (if t139 ≤ 12 then ((op_gone.f kj1 a0_0 a0_1 a0_2 a0_3 a0_4 a0_5 a0_6 l0_7 a0_8 a0_9 a0_10).bind fun t140 => (if t140 = true then (if a0_8 = 0 then (if a0_9 = 0 then (some (a0_10 == 0)) else (some false)) else (some false)) else (some false))) else (some false))) = some r := by rw [if_pos rfl] at H; exact H
    clear H
    have H := H1
    clear H1
    replace H := Option.bind_eq_some_iff.mp H
    obtain ⟨t139, A340, H⟩ := H
    replace H : (if t139 ≤ 12 then ((op_gone.f kj1 a0_0 a0_1 a0_2 a0_3 a0_4 a0_5 a0_6 l0_7 a0_8 a0_9 a0_10).bind fun t140 => (if t140 = true then (if a0_8 = 0 then (if a0_9 = 0 then (some (a0_10 == 0)) else (some false)) else (some false)) else (some false))) else (some false)) = some r := H
    have A34 := Aside0.mk A340
    clear A340
    by_cases c35 : t139 ≤ 12
    ·rw [if_pos c35] at H
     have c35b0 : decide (t139 ≤ 12) = true := decide_eq_true c35
     clear c35
     replace H := Option.bind_eq_some_iff.mp H
     obtain ⟨t140, A360, H⟩ := H
     replace H : (if t140 = true then (if a0_8 = 0 then (if a0_9 = 0 then (some (a0_10 == 0)) else (some false)) else (some false)) else (some false)) = some r := H
     have A36 := Aside0.mk A360
     clear A360
     by_cases c37 : t140 = true
     ·subst c37
      have H1 : (if a0_8 = 0 then (if a0_9 = 0 then (some (a0_10 == 0)) else (some false)) else (some false)) = some r := by rw [if_pos rfl] at H; exact H
      clear H
      have H := H1
      clear H1
      by_cases c38 : a0_8 = 0
      ·rw [if_pos c38] at H
       have c38b0 : (a0_8 == 0) = true := beq_iff_eq.mpr c38
       have c38b1 : (a0_8 != 0) = false := bne_eq_false_iff_eq.mpr c38
       clear c38
       by_cases c39 : a0_9 = 0
       ·rw [if_pos c39] at H
        have c39b0 : (a0_9 == 0) = true := beq_iff_eq.mpr c39
        have c39b1 : (a0_9 != 0) = false := bne_eq_false_iff_eq.mpr c39
        clear c39
        obtain rfl := Option.some.inj H
        obtain ⟨hcz40_0, hcz40_1, hcz40_2, hcz40_3, hcz40_4, hcz40_5, hcz40_6, hcz40_7, hcz40_8, hcz40_9, hcz40_10, hfz40_0, hfz40_1, hfz40_2, hfz40_3, hfz40_4, hfz40_5, hfz40_6, hfz40_7, hfz40_8, hfz40_9, hfz40_10⟩ := kc11 BK135
        go_wp2_with (first | ((with_reducible refine gate_callee (f := 75) rfl ?_); refine gl (some 37) Try.func75 #[.string a0_6] (h := ?_); (with_reducible refine (text_May.calls a0_6 true _ A32.out).mono ?_); rintro e w41 ⟨rfl, hb⟩; refine ⟨_, rfl, ?_⟩; replace BK135 := bl BK135 hb; replace HB := bs HB hb; (try clear hb); (try clear hb2); (try clear hk); (try clear hi); obtain ⟨hcz42_0, hcz42_1, hcz42_2, hcz42_3, hcz42_4, hcz42_5, hcz42_6, hcz42_7, hcz42_8, hcz42_9, hcz42_10, hfz42_0, hfz42_1, hfz42_2, hfz42_3, hfz42_4, hfz42_5, hfz42_6, hfz42_7, hfz42_8, hfz42_9, hfz42_10⟩ := kc11 BK135) | (go_at_call 45; (with_reducible refine (op_Size.calls a0_0 a0_1 a0_2 a0_3 a0_4 a0_5 a0_6 _ _ l0_7 a0_8 a0_9 a0_10 t139 _ ?side1 ?side2 A34.out).mono ?_); (case side1 => repeat (first | exact (Kd.C_below HR0_7.out HB.out) | (with_reducible refine Kd.C_alloc ?_ _) | (with_reducible refine Kd.C_drewN ?_ _) | (with_reducible refine Kd.C_drew ?_))); (case side2 => exact HC0_7.out); rintro e w43 ⟨rfl, hb⟩; replace BK135 := bl BK135 hb; replace HB := bs HB hb; (try clear hb); (try clear hb2); (try clear hk); (try clear hi); obtain ⟨hcz44_0, hcz44_1, hcz44_2, hcz44_3, hcz44_4, hcz44_5, hcz44_6, hcz44_7, hcz44_8, hcz44_9, hcz44_10, hfz44_0, hfz44_1, hfz44_2, hfz44_3, hfz44_4, hfz44_5, hfz44_6, hfz44_7, hfz44_8, hfz44_9, hfz44_10⟩ := kc11 BK135) | (go_at_call 76; (with_reducible refine (op_gone.calls kj1 a0_0 a0_1 a0_2 a0_3 a0_4 a0_5 a0_6 _ _ l0_7 a0_8 a0_9 a0_10 true _ ?side1 ?side2 A36.out).mono ?_); (case side1 => repeat (first | exact (Kd.C_below HR0_7.out HB.out) | (with_reducible refine Kd.C_alloc ?_ _) | (with_reducible refine Kd.C_drewN ?_ _) | (with_reducible refine Kd.C_drew ?_))); (case side2 => exact HC0_7.out); rintro e w45 ⟨rfl, hb⟩; replace BK135 := bl BK135 hb; replace HB := bs HB hb; (try clear hb); (try clear hb2); (try clear hk); (try clear hi); obtain ⟨hcz46_0, hcz46_1, hcz46_2, hcz46_3, hcz46_4, hcz46_5, hcz46_6, hcz46_7, hcz46_8, hcz46_9, hcz46_10, hfz46_0, hfz46_1, hfz46_2, hfz46_3, hfz46_4, hfz46_5, hfz46_6, hfz46_7, hfz46_8, hfz46_9, hfz46_10⟩ := kc11 BK135))
        go_ret
        exact ⟨re, bw HB⟩
       rw [if_neg c39] at H
       have c39b0 : (a0_9 == 0) = false := beq_eq_false_iff_ne.mpr c39
       have c39b1 : (a0_9 != 0) = true := bne_iff_ne.mpr c39
       obtain rfl := Option.some.inj H
       obtain ⟨hcz47_0, hcz47_1, hcz47_2, hcz47_3, hcz47_4, hcz47_5, hcz47_6, hcz47_7, hcz47_8, hcz47_9, hcz47_10, hfz47_0, hfz47_1, hfz47_2, hfz47_3, hfz47_4, hfz47_5, hfz47_6, hfz47_7, hfz47_8, hfz47_9, hfz47_10⟩ := kc11 BK135
       go_wp2_with (first | ((with_reducible refine gate_callee (f := 75) rfl ?_); refine gl (some 37) Try.func75 #[.string a0_6] (h := ?_); (with_reducible refine (text_May.calls a0_6 true _ A32.out).mono ?_); rintro e w48 ⟨rfl, hb⟩; refine ⟨_, rfl, ?_⟩; replace BK135 := bl BK135 hb; replace HB := bs HB hb; (try clear hb); (try clear hb2); (try clear hk); (try clear hi); obtain ⟨hcz49_0, hcz49_1, hcz49_2, hcz49_3, hcz49_4, hcz49_5, hcz49_6, hcz49_7, hcz49_8, hcz49_9, hcz49_10, hfz49_0, hfz49_1, hfz49_2, hfz49_3, hfz49_4, hfz49_5, hfz49_6, hfz49_7, hfz49_8, hfz49_9, hfz49_10⟩ := kc11 BK135) | (go_at_call 45; (with_reducible refine (op_Size.calls a0_0 a0_1 a0_2 a0_3 a0_4 a0_5 a0_6 _ _ l0_7 a0_8 a0_9 a0_10 t139 _ ?side1 ?side2 A34.out).mono ?_); (case side1 => repeat (first | exact (Kd.C_below HR0_7.out HB.out) | (with_reducible refine Kd.C_alloc ?_ _) | (with_reducible refine Kd.C_drewN ?_ _) | (with_reducible refine Kd.C_drew ?_))); (case side2 => exact HC0_7.out); rintro e w50 ⟨rfl, hb⟩; replace BK135 := bl BK135 hb; replace HB := bs HB hb; (try clear hb); (try clear hb2); (try clear hk); (try clear hi); obtain ⟨hcz51_0, hcz51_1, hcz51_2, hcz51_3, hcz51_4, hcz51_5, hcz51_6, hcz51_7, hcz51_8, hcz51_9, hcz51_10, hfz51_0, hfz51_1, hfz51_2, hfz51_3, hfz51_4, hfz51_5, hfz51_6, hfz51_7, hfz51_8, hfz51_9, hfz51_10⟩ := kc11 BK135) | (go_at_call 76; (with_reducible refine (op_gone.calls kj1 a0_0 a0_1 a0_2 a0_3 a0_4 a0_5 a0_6 _ _ l0_7 a0_8 a0_9 a0_10 true _ ?side1 ?side2 A36.out).mono ?_); (case side1 => repeat (first | exact (Kd.C_below HR0_7.out HB.out) | (with_reducible refine Kd.C_alloc ?_ _) | (with_reducible refine Kd.C_drewN ?_ _) | (with_reducible refine Kd.C_drew ?_))); (case side2 => exact HC0_7.out); rintro e w52 ⟨rfl, hb⟩; replace BK135 := bl BK135 hb; replace HB := bs HB hb; (try clear hb); (try clear hb2); (try clear hk); (try clear hi); obtain ⟨hcz53_0, hcz53_1, hcz53_2, hcz53_3, hcz53_4, hcz53_5, hcz53_6, hcz53_7, hcz53_8, hcz53_9, hcz53_10, hfz53_0, hfz53_1, hfz53_2, hfz53_3, hfz53_4, hfz53_5, hfz53_6, hfz53_7, hfz53_8, hfz53_9, hfz53_10⟩ := kc11 BK135))
       go_ret
       exact ⟨re, bw HB⟩
      rw [if_neg c38] at H
      have c38b0 : (a0_8 == 0) = false := beq_eq_false_iff_ne.mpr c38
      have c38b1 : (a0_8 != 0) = true := bne_iff_ne.mpr c38
      obtain rfl := Option.some.inj H
      obtain ⟨hcz54_0, hcz54_1, hcz54_2, hcz54_3, hcz54_4, hcz54_5, hcz54_6, hcz54_7, hcz54_8, hcz54_9, hcz54_10, hfz54_0, hfz54_1, hfz54_2, hfz54_3, hfz54_4, hfz54_5, hfz54_6, hfz54_7, hfz54_8, hfz54_9, hfz54_10⟩ := kc11 BK135
      go_wp2_with (first | ((with_reducible refine gate_callee (f := 75) rfl ?_); refine gl (some 37) Try.func75 #[.string a0_6] (h := ?_); (with_reducible refine (text_May.calls a0_6 true _ A32.out).mono ?_); rintro e w55 ⟨rfl, hb⟩; refine ⟨_, rfl, ?_⟩; replace BK135 := bl BK135 hb; replace HB := bs HB hb; (try clear hb); (try clear hb2); (try clear hk); (try clear hi); obtain ⟨hcz56_0, hcz56_1, hcz56_2, hcz56_3, hcz56_4, hcz56_5, hcz56_6, hcz56_7, hcz56_8, hcz56_9, hcz56_10, hfz56_0, hfz56_1, hfz56_2, hfz56_3, hfz56_4, hfz56_5, hfz56_6, hfz56_7, hfz56_8, hfz56_9, hfz56_10⟩ := kc11 BK135) | (go_at_call 45; (with_reducible refine (op_Size.calls a0_0 a0_1 a0_2 a0_3 a0_4 a0_5 a0_6 _ _ l0_7 a0_8 a0_9 a0_10 t139 _ ?side1 ?side2 A34.out).mono ?_); (case side1 => repeat (first | exact (Kd.C_below HR0_7.out HB.out) | (with_reducible refine Kd.C_alloc ?_ _) | (with_reducible refine Kd.C_drewN ?_ _) | (with_reducible refine Kd.C_drew ?_))); (case side2 => exact HC0_7.out); rintro e w57 ⟨rfl, hb⟩; replace BK135 := bl BK135 hb; replace HB := bs HB hb; (try clear hb); (try clear hb2); (try clear hk); (try clear hi); obtain ⟨hcz58_0, hcz58_1, hcz58_2, hcz58_3, hcz58_4, hcz58_5, hcz58_6, hcz58_7, hcz58_8, hcz58_9, hcz58_10, hfz58_0, hfz58_1, hfz58_2, hfz58_3, hfz58_4, hfz58_5, hfz58_6, hfz58_7, hfz58_8, hfz58_9, hfz58_10⟩ := kc11 BK135) | (go_at_call 76; (with_reducible refine (op_gone.calls kj1 a0_0 a0_1 a0_2 a0_3 a0_4 a0_5 a0_6 _ _ l0_7 a0_8 a0_9 a0_10 true _ ?side1 ?side2 A36.out).mono ?_); (case side1 => repeat (first | exact (Kd.C_below HR0_7.out HB.out) | (with_reducible refine Kd.C_alloc ?_ _) | (with_reducible refine Kd.C_drewN ?_ _) | (with_reducible refine Kd.C_drew ?_))); (case side2 => exact HC0_7.out); rintro e w59 ⟨rfl, hb⟩; replace BK135 := bl BK135 hb; replace HB := bs HB hb; (try clear hb); (try clear hb2); (try clear hk); (try clear hi); obtain ⟨hcz60_0, hcz60_1, hcz60_2, hcz60_3, hcz60_4, hcz60_5, hcz60_6, hcz60_7, hcz60_8, hcz60_9, hcz60_10, hfz60_0, hfz60_1, hfz60_2, hfz60_3, hfz60_4, hfz60_5, hfz60_6, hfz60_7, hfz60_8, hfz60_9, hfz60_10⟩ := kc11 BK135))
      go_ret
      exact ⟨re, bw HB⟩
     replace c37 := Bool.eq_false_iff.mpr c37
     subst c37
     have H1 : (some false) = some r := by rw [if_neg (show ¬ (false = true) by decide)] at H; exact H
     clear H
     have H := H1
     clear H1
     obtain rfl := Option.some.inj H
     obtain ⟨hcz61_0, hcz61_1, hcz61_2, hcz61_3, hcz61_4, hcz61_5, hcz61_6, hcz61_7, hcz61_8, hcz61_9, hcz61_10, hfz61_0, hfz61_1, hfz61_2, hfz61_3, hfz61_4, hfz61_5, hfz61_6, hfz61_7, hfz61_8, hfz61_9, hfz61_10⟩ := kc11 BK135
     go_wp2_with (first | ((with_reducible refine gate_callee (f := 75) rfl ?_); refine gl (some 37) Try.func75 #[.string a0_6] (h := ?_); (with_reducible refine (text_May.calls a0_6 true _ A32.out).mono ?_); rintro e w62 ⟨rfl, hb⟩; refine ⟨_, rfl, ?_⟩; replace BK135 := bl BK135 hb; replace HB := bs HB hb; (try clear hb); (try clear hb2); (try clear hk); (try clear hi); obtain ⟨hcz63_0, hcz63_1, hcz63_2, hcz63_3, hcz63_4, hcz63_5, hcz63_6, hcz63_7, hcz63_8, hcz63_9, hcz63_10, hfz63_0, hfz63_1, hfz63_2, hfz63_3, hfz63_4, hfz63_5, hfz63_6, hfz63_7, hfz63_8, hfz63_9, hfz63_10⟩ := kc11 BK135) | (go_at_call 45; (with_reducible refine (op_Size.calls a0_0 a0_1 a0_2 a0_3 a0_4 a0_5 a0_6 _ _ l0_7 a0_8 a0_9 a0_10 t139 _ ?side1 ?side2 A34.out).mono ?_); (case side1 => repeat (first | exact (Kd.C_below HR0_7.out HB.out) | (with_reducible refine Kd.C_alloc ?_ _) | (with_reducible refine Kd.C_drewN ?_ _) | (with_reducible refine Kd.C_drew ?_))); (case side2 => exact HC0_7.out); rintro e w64 ⟨rfl, hb⟩; replace BK135 := bl BK135 hb; replace HB := bs HB hb; (try clear hb); (try clear hb2); (try clear hk); (try clear hi); obtain ⟨hcz65_0, hcz65_1, hcz65_2, hcz65_3, hcz65_4, hcz65_5, hcz65_6, hcz65_7, hcz65_8, hcz65_9, hcz65_10, hfz65_0, hfz65_1, hfz65_2, hfz65_3, hfz65_4, hfz65_5, hfz65_6, hfz65_7, hfz65_8, hfz65_9, hfz65_10⟩ := kc11 BK135) | (go_at_call 76; (with_reducible refine (op_gone.calls kj1 a0_0 a0_1 a0_2 a0_3 a0_4 a0_5 a0_6 _ _ l0_7 a0_8 a0_9 a0_10 false _ ?side1 ?side2 A36.out).mono ?_); (case side1 => repeat (first | exact (Kd.C_below HR0_7.out HB.out) | (with_reducible refine Kd.C_alloc ?_ _) | (with_reducible refine Kd.C_drewN ?_ _) | (with_reducible refine Kd.C_drew ?_))); (case side2 => exact HC0_7.out); rintro e w66 ⟨rfl, hb⟩; replace BK135 := bl BK135 hb; replace HB := bs HB hb; (try clear hb); (try clear hb2); (try clear hk); (try clear hi)))
     go_ret
     exact ⟨re, bw HB⟩
    rw [if_neg c35] at H
    have c35b0 : decide (t139 ≤ 12) = false := decide_eq_false c35
    clear c35
    obtain rfl := Option.some.inj H
    obtain ⟨hcz67_0, hcz67_1, hcz67_2, hcz67_3, hcz67_4, hcz67_5, hcz67_6, hcz67_7, hcz67_8, hcz67_9, hcz67_10, hfz67_0, hfz67_1, hfz67_2, hfz67_3, hfz67_4, hfz67_5, hfz67_6, hfz67_7, hfz67_8, hfz67_9, hfz67_10⟩ := kc11 BK135
    go_wp2_with (first | ((with_reducible refine gate_callee (f := 75) rfl ?_); refine gl (some 37) Try.func75 #[.string a0_6] (h := ?_); (with_reducible refine (text_May.calls a0_6 true _ A32.out).mono ?_); rintro e w68 ⟨rfl, hb⟩; refine ⟨_, rfl, ?_⟩; replace BK135 := bl BK135 hb; replace HB := bs HB hb; (try clear hb); (try clear hb2); (try clear hk); (try clear hi); obtain ⟨hcz69_0, hcz69_1, hcz69_2, hcz69_3, hcz69_4, hcz69_5, hcz69_6, hcz69_7, hcz69_8, hcz69_9, hcz69_10, hfz69_0, hfz69_1, hfz69_2, hfz69_3, hfz69_4, hfz69_5, hfz69_6, hfz69_7, hfz69_8, hfz69_9, hfz69_10⟩ := kc11 BK135) | (go_at_call 45; (with_reducible refine (op_Size.calls a0_0 a0_1 a0_2 a0_3 a0_4 a0_5 a0_6 _ _ l0_7 a0_8 a0_9 a0_10 t139 _ ?side1 ?side2 A34.out).mono ?_); (case side1 => repeat (first | exact (Kd.C_below HR0_7.out HB.out) | (with_reducible refine Kd.C_alloc ?_ _) | (with_reducible refine Kd.C_drewN ?_ _) | (with_reducible refine Kd.C_drew ?_))); (case side2 => exact HC0_7.out); rintro e w70 ⟨rfl, hb⟩; replace BK135 := bl BK135 hb; replace HB := bs HB hb; (try clear hb); (try clear hb2); (try clear hk); (try clear hi)))
    go_ret
    exact ⟨re, bw HB⟩
   replace c33 := Bool.eq_false_iff.mpr c33
   subst c33
   have H1 : (some false) = some r := by rw [if_neg (show ¬ (false = true) by decide)] at H; exact H
   clear H
   have H := H1
   clear H1
   obtain rfl := Option.some.inj H
   obtain ⟨hcz71_0, hcz71_1, hcz71_2, hcz71_3, hcz71_4, hcz71_5, hcz71_6, hcz71_7, hcz71_8, hcz71_9, hcz71_10, hfz71_0, hfz71_1, hfz71_2, hfz71_3, hfz71_4, hfz71_5, hfz71_6, hfz71_7, hfz71_8, hfz71_9, hfz71_10⟩ := kc11 BK135
   go_wp2_with (first | ((with_reducible refine gate_callee (f := 75) rfl ?_); refine gl (some 37) Try.func75 #[.string a0_6] (h := ?_); (with_reducible refine (text_May.calls a0_6 false _ A32.out).mono ?_); rintro e w72 ⟨rfl, hb⟩; refine ⟨_, rfl, ?_⟩; replace BK135 := bl BK135 hb; replace HB := bs HB hb; (try clear hb); (try clear hb2); (try clear hk); (try clear hi)))
   go_ret
   exact ⟨re, bw HB⟩
end Go.Proofs.Ytonoaflfobajcaa.L
end

section
namespace Go.Proofs.Ytonoaflfobajcaa.L
open Go.RowKit Go.Proofs.YtonoaflfobajcaaW.PrintWords Go.Proofs.YtonoaflfobajcaaW.PrintLast Go.Proofs.YtonoaflfobajcaaW.PrintMore
attribute [local go_sem] max2_int min2_int max_two min_two max_three min_three max_four min_four
set_option linter.unusedVariables false
set_option linter.unusedSimpArgs false
attribute [local go_sem high] eqAElem
def op_toggle.f (a0_0 : Int) (a0_1 : Int) (a0_2 : Int) (a0_3 : Int) (a0_4 : Int) (a0_5 : Int) (a0_6 : ByteArray) (l0_7 : List (SElem)) (a0_8 : Int) (a0_9 : Int) (a0_10 : Int) : Option (Bool) := (op_Name.f a0_8 a0_9).bind fun t142 => (if t142 = true then (if a0_8 = a0_0 then (if a0_9 = a0_1 then (some false) else (if a0_10 < 0 then (some false) else (if a0_10 > 268435456 then (some false) else (if (a0_3 == 0 && (a0_4 == 0 && (a0_5 == 0))) = true then (if a0_6.toList = ([] : List UInt8) then (some ((l0_7.length : Int) == 0)) else (some false)) else (some false))))) else (if a0_10 < 0 then (some false) else (if a0_10 > 268435456 then (some false) else (if (a0_3 == 0 && (a0_4 == 0 && (a0_5 == 0))) = true then (if a0_6.toList = ([] : List UInt8) then (some ((l0_7.length : Int) == 0)) else (some false)) else (some false))))) else (some false))
set_option maxHeartbeats 8000000 in
set_option maxRecDepth 100000 in
theorem op_toggle.calls (a0_0 : Int) (a0_1 : Int) (a0_2 : Int) (a0_3 : Int) (a0_4 : Int) (a0_5 : Int) (a0_6 : ByteArray) (A0_7 : Option Addr) (c0_7 : Nat) (l0_7 : List (SElem)) (a0_8 : Int) (a0_9 : Int) (a0_10 : Int) (r : Bool) (w : World) (hr0_7 : Kd.C kElem w A0_7 l0_7.length l0_7) (hc0_7 : l0_7.length ≤ c0_7) (h : op_toggle.f a0_0 a0_1 a0_2 a0_3 a0_4 a0_5 a0_6 l0_7 a0_8 a0_9 a0_10 = some r) :
  Calls Try.prog 60 #[.agg #[.int .i64 a0_0, .int .i64 a0_1, .int .i64 a0_2, .int .i64 a0_3, .int .i64 a0_4, .int .i64 a0_5, .string a0_6, .slice A0_7 l0_7.length c0_7, .int .i64 a0_8, .int .i64 a0_9, .int .i64 a0_10]] w fun e w' => e = .returned (.bool r) ∧ Below w.heap.size w w' := by
 have hu38 := Try.underlying38
 have hu36 := Try.underlying36
 have HR0_7 := Aside0.mk hr0_7
 have HC0_7 := Aside0.mk hc0_7
 clear hr0_7 hc0_7
 have HB := Aside0.mk (Below.refl w.heap.size w)
 have H : ((op_Name.f a0_8 a0_9).bind fun t142 => (if t142 = true then (if a0_8 = a0_0 then (if a0_9 = a0_1 then (some false) else (if a0_10 < 0 then (some false) else (if a0_10 > 268435456 then (some false) else (if (a0_3 == 0 && (a0_4 == 0 && (a0_5 == 0))) = true then (if a0_6.toList = ([] : List UInt8) then (some ((l0_7.length : Int) == 0)) else (some false)) else (some false))))) else (if a0_10 < 0 then (some false) else (if a0_10 > 268435456 then (some false) else (if (a0_3 == 0 && (a0_4 == 0 && (a0_5 == 0))) = true then (if a0_6.toList = ([] : List UInt8) then (some ((l0_7.length : Int) == 0)) else (some false)) else (some false))))) else (some false))) = some r := h
 clear h
 replace H := Option.bind_eq_some_iff.mp H
 obtain ⟨t142, A20, H⟩ := H
 replace H : (if t142 = true then (if a0_8 = a0_0 then (if a0_9 = a0_1 then (some false) else (if a0_10 < 0 then (some false) else (if a0_10 > 268435456 then (some false) else (if (a0_3 == 0 && (a0_4 == 0 && (a0_5 == 0))) = true then (if a0_6.toList = ([] : List UInt8) then (some ((l0_7.length : Int) == 0)) else (some false)) else (some false))))) else (if a0_10 < 0 then (some false) else (if a0_10 > 268435456 then (some false) else (if (a0_3 == 0 && (a0_4 == 0 && (a0_5 == 0))) = true then (if a0_6.toList = ([] : List UInt8) then (some ((l0_7.length : Int) == 0)) else (some false)) else (some false))))) else (some false)) = some r := H
 have A2 := Aside0.mk A20
 clear A20
 by_cases c3 : t142 = true
 ·subst c3
  have H1 : (if a0_8 = a0_0 then (if a0_9 = a0_1 then (some false) else (if a0_10 < 0 then (some false) else (if a0_10 > 268435456 then (some false) else (if (a0_3 == 0 && (a0_4 == 0 && (a0_5 == 0))) = true then (if a0_6.toList = ([] : List UInt8) then (some ((l0_7.length : Int) == 0)) else (some false)) else (some false))))) else (if a0_10 < 0 then (some false) else (if a0_10 > 268435456 then (some false) else (if (a0_3 == 0 && (a0_4 == 0 && (a0_5 == 0))) = true then (if a0_6.toList = ([] : List UInt8) then (some ((l0_7.length : Int) == 0)) else (some false)) else (some false))))) = some r := by rw [if_pos rfl] at H; exact H
  clear H
  have H := H1
  clear H1
  by_cases c4 : a0_8 = a0_0
  ·rw [if_pos c4] at H
   have c4b0 : (a0_8 == a0_0) = true := beq_iff_eq.mpr c4
   have c4b1 : (a0_8 != a0_0) = false := bne_eq_false_iff_eq.mpr c4
   clear c4
   by_cases c5 : a0_9 = a0_1
   ·rw [if_pos c5] at H
    have c5b0 : (a0_9 == a0_1) = true := beq_iff_eq.mpr c5
    have c5b1 : (a0_9 != a0_1) = false := bne_eq_false_iff_eq.mpr c5
    clear c5
    obtain rfl := Option.some.inj H
    go_enter Try.func60, Try.ntmps60
    go_wp2_with (first | ((with_reducible refine gate_dst (N := 1) rfl ?_); (try (refine gate_guard (by rfl) ?_; dsimp only)); refine bx 1 #[.int .i64 a0_0, .int .i64 a0_1, .int .i64 a0_2, .int .i64 a0_3, .int .i64 a0_4, .int .i64 a0_5, .string a0_6, .slice A0_7 l0_7.length c0_7, .int .i64 a0_8, .int .i64 a0_9, .int .i64 a0_10] 38 (h := ?_); intro gb141 hg w6 hbox hb; have BK141 := Aside0.mk (hbox); have GW141 := bz HB hg; have GE141 := bz HB hg; replace HB := bs HB hb; clear hb hbox hg; obtain ⟨hcz7_0, hcz7_1, hcz7_2, hcz7_3, hcz7_4, hcz7_5, hcz7_6, hcz7_7, hcz7_8, hcz7_9, hcz7_10, hfz7_0, hfz7_1, hfz7_2, hfz7_3, hfz7_4, hfz7_5, hfz7_6, hfz7_7, hfz7_8, hfz7_9, hfz7_10⟩ := kc11 BK141) | ((with_reducible refine gate_callee (f := 58) rfl ?_); refine gl (some 7) Try.func58 #[.int .i64 a0_8, .int .i64 a0_9] (h := ?_); (with_reducible refine (op_Name.calls a0_8 a0_9 true _ A2.out).mono ?_); rintro e w' ⟨rfl, ⟨nd, rfl⟩⟩; refine ⟨_, rfl, ?_⟩))
    go_ret
    exact ⟨re, bw HB⟩
   rw [if_neg c5] at H
   have c5b0 : (a0_9 == a0_1) = false := beq_eq_false_iff_ne.mpr c5
   have c5b1 : (a0_9 != a0_1) = true := bne_iff_ne.mpr c5
   by_cases c8 : a0_10 < 0
   ·rw [if_pos c8] at H
    have c8b0 : decide (a0_10 < 0) = true := decide_eq_true c8
    clear c8
    obtain rfl := Option.some.inj H
    go_enter Try.func60, Try.ntmps60
    go_wp2_with (first | ((with_reducible refine gate_dst (N := 1) rfl ?_); (try (refine gate_guard (by rfl) ?_; dsimp only)); refine bx 1 #[.int .i64 a0_0, .int .i64 a0_1, .int .i64 a0_2, .int .i64 a0_3, .int .i64 a0_4, .int .i64 a0_5, .string a0_6, .slice A0_7 l0_7.length c0_7, .int .i64 a0_8, .int .i64 a0_9, .int .i64 a0_10] 38 (h := ?_); intro gb141 hg w9 hbox hb; have BK141 := Aside0.mk (hbox); have GW141 := bz HB hg; have GE141 := bz HB hg; replace HB := bs HB hb; clear hb hbox hg; obtain ⟨hcz10_0, hcz10_1, hcz10_2, hcz10_3, hcz10_4, hcz10_5, hcz10_6, hcz10_7, hcz10_8, hcz10_9, hcz10_10, hfz10_0, hfz10_1, hfz10_2, hfz10_3, hfz10_4, hfz10_5, hfz10_6, hfz10_7, hfz10_8, hfz10_9, hfz10_10⟩ := kc11 BK141) | ((with_reducible refine gate_callee (f := 58) rfl ?_); refine gl (some 7) Try.func58 #[.int .i64 a0_8, .int .i64 a0_9] (h := ?_); (with_reducible refine (op_Name.calls a0_8 a0_9 true _ A2.out).mono ?_); rintro e w' ⟨rfl, ⟨nd, rfl⟩⟩; refine ⟨_, rfl, ?_⟩))
    go_ret
    exact ⟨re, bw HB⟩
   rw [if_neg c8] at H
   have c8b0 : decide (a0_10 < 0) = false := decide_eq_false c8
   clear c8
   by_cases c11 : a0_10 > 268435456
   ·rw [if_pos c11] at H
    have c11b0 : decide (268435456 < a0_10) = true := decide_eq_true c11
    clear c11
    obtain rfl := Option.some.inj H
    go_enter Try.func60, Try.ntmps60
    go_wp2_with (first | ((with_reducible refine gate_dst (N := 1) rfl ?_); (try (refine gate_guard (by rfl) ?_; dsimp only)); refine bx 1 #[.int .i64 a0_0, .int .i64 a0_1, .int .i64 a0_2, .int .i64 a0_3, .int .i64 a0_4, .int .i64 a0_5, .string a0_6, .slice A0_7 l0_7.length c0_7, .int .i64 a0_8, .int .i64 a0_9, .int .i64 a0_10] 38 (h := ?_); intro gb141 hg w12 hbox hb; have BK141 := Aside0.mk (hbox); have GW141 := bz HB hg; have GE141 := bz HB hg; replace HB := bs HB hb; clear hb hbox hg; obtain ⟨hcz13_0, hcz13_1, hcz13_2, hcz13_3, hcz13_4, hcz13_5, hcz13_6, hcz13_7, hcz13_8, hcz13_9, hcz13_10, hfz13_0, hfz13_1, hfz13_2, hfz13_3, hfz13_4, hfz13_5, hfz13_6, hfz13_7, hfz13_8, hfz13_9, hfz13_10⟩ := kc11 BK141) | ((with_reducible refine gate_callee (f := 58) rfl ?_); refine gl (some 7) Try.func58 #[.int .i64 a0_8, .int .i64 a0_9] (h := ?_); (with_reducible refine (op_Name.calls a0_8 a0_9 true _ A2.out).mono ?_); rintro e w' ⟨rfl, ⟨nd, rfl⟩⟩; refine ⟨_, rfl, ?_⟩))
    go_ret
    exact ⟨re, bw HB⟩
   rw [if_neg c11] at H
   have c11b0 : decide (268435456 < a0_10) = false := decide_eq_false c11
   clear c11
   by_cases c14 : (a0_3 == 0 && (a0_4 == 0 && (a0_5 == 0))) = true
   ·rw [if_pos c14] at H
    have c14b0 : (a0_3 == 0 && (a0_4 == 0 && (a0_5 == 0))) = true := c14
    (try (have c14b1 : decide (a0_3 = 0 && (a0_4 == 0 && (a0_5 == 0))) = true := by simpa using c14))
    (try (have c14b2 : (a0_3 == 0 && (a0_4 == 0 && (a0_5 == 0))) = true := by simpa using c14))
    clear c14
    by_cases c15 : a0_6.toList = ([] : List UInt8)
    ·rw [if_pos c15] at H
     have c15b0 : (a0_6.toList == ([] : List UInt8)) = true := beq_iff_eq.mpr c15
     have c15b1 : (a0_6.toList != ([] : List UInt8)) = false := bne_eq_false_iff_eq.mpr c15
     clear c15
     obtain rfl := Option.some.inj H
     go_enter Try.func60, Try.ntmps60
     go_wp2_with (first | ((with_reducible refine gate_dst (N := 1) rfl ?_); (try (refine gate_guard (by rfl) ?_; dsimp only)); refine bx 1 #[.int .i64 a0_0, .int .i64 a0_1, .int .i64 a0_2, .int .i64 a0_3, .int .i64 a0_4, .int .i64 a0_5, .string a0_6, .slice A0_7 l0_7.length c0_7, .int .i64 a0_8, .int .i64 a0_9, .int .i64 a0_10] 38 (h := ?_); intro gb141 hg w16 hbox hb; have BK141 := Aside0.mk (hbox); have GW141 := bz HB hg; have GE141 := bz HB hg; replace HB := bs HB hb; clear hb hbox hg; obtain ⟨hcz17_0, hcz17_1, hcz17_2, hcz17_3, hcz17_4, hcz17_5, hcz17_6, hcz17_7, hcz17_8, hcz17_9, hcz17_10, hfz17_0, hfz17_1, hfz17_2, hfz17_3, hfz17_4, hfz17_5, hfz17_6, hfz17_7, hfz17_8, hfz17_9, hfz17_10⟩ := kc11 BK141) | ((with_reducible refine gate_callee (f := 58) rfl ?_); refine gl (some 7) Try.func58 #[.int .i64 a0_8, .int .i64 a0_9] (h := ?_); (with_reducible refine (op_Name.calls a0_8 a0_9 true _ A2.out).mono ?_); rintro e w' ⟨rfl, ⟨nd, rfl⟩⟩; refine ⟨_, rfl, ?_⟩))
     go_ret
     exact ⟨re, bw HB⟩
    rw [if_neg c15] at H
    have c15b0 : (a0_6.toList == ([] : List UInt8)) = false := beq_eq_false_iff_ne.mpr c15
    have c15b1 : (a0_6.toList != ([] : List UInt8)) = true := bne_iff_ne.mpr c15
    obtain rfl := Option.some.inj H
    go_enter Try.func60, Try.ntmps60
    go_wp2_with (first | ((with_reducible refine gate_dst (N := 1) rfl ?_); (try (refine gate_guard (by rfl) ?_; dsimp only)); refine bx 1 #[.int .i64 a0_0, .int .i64 a0_1, .int .i64 a0_2, .int .i64 a0_3, .int .i64 a0_4, .int .i64 a0_5, .string a0_6, .slice A0_7 l0_7.length c0_7, .int .i64 a0_8, .int .i64 a0_9, .int .i64 a0_10] 38 (h := ?_); intro gb141 hg w18 hbox hb; have BK141 := Aside0.mk (hbox); have GW141 := bz HB hg; have GE141 := bz HB hg; replace HB := bs HB hb; clear hb hbox hg; obtain ⟨hcz19_0, hcz19_1, hcz19_2, hcz19_3, hcz19_4, hcz19_5, hcz19_6, hcz19_7, hcz19_8, hcz19_9, hcz19_10, hfz19_0, hfz19_1, hfz19_2, hfz19_3, hfz19_4, hfz19_5, hfz19_6, hfz19_7, hfz19_8, hfz19_9, hfz19_10⟩ := kc11 BK141) | ((with_reducible refine gate_callee (f := 58) rfl ?_); refine gl (some 7) Try.func58 #[.int .i64 a0_8, .int .i64 a0_9] (h := ?_); (with_reducible refine (op_Name.calls a0_8 a0_9 true _ A2.out).mono ?_); rintro e w' ⟨rfl, ⟨nd, rfl⟩⟩; refine ⟨_, rfl, ?_⟩))
    go_ret
    exact ⟨re, bw HB⟩
   rw [if_neg c14] at H
   have c14b0 : (a0_3 == 0 && (a0_4 == 0 && (a0_5 == 0))) = false := by simpa using c14
   (try (have c14b1 : decide (a0_3 = 0 && (a0_4 == 0 && (a0_5 == 0))) = false := by simpa using c14))
   (try (have c14b2 : (a0_3 == 0 && (a0_4 == 0 && (a0_5 == 0))) = false := by simpa using c14))
   (try (have c14b3 : ¬ (a0_3 = 0 && (a0_4 == 0 && (a0_5 == 0))) := by simpa using c14))
   clear c14
   obtain rfl := Option.some.inj H
   go_enter Try.func60, Try.ntmps60
   go_wp2_with (first | ((with_reducible refine gate_dst (N := 1) rfl ?_); (try (refine gate_guard (by rfl) ?_; dsimp only)); refine bx 1 #[.int .i64 a0_0, .int .i64 a0_1, .int .i64 a0_2, .int .i64 a0_3, .int .i64 a0_4, .int .i64 a0_5, .string a0_6, .slice A0_7 l0_7.length c0_7, .int .i64 a0_8, .int .i64 a0_9, .int .i64 a0_10] 38 (h := ?_); intro gb141 hg w20 hbox hb; have BK141 := Aside0.mk (hbox); have GW141 := bz HB hg; have GE141 := bz HB hg; replace HB := bs HB hb; clear hb hbox hg; obtain ⟨hcz21_0, hcz21_1, hcz21_2, hcz21_3, hcz21_4, hcz21_5, hcz21_6, hcz21_7, hcz21_8, hcz21_9, hcz21_10, hfz21_0, hfz21_1, hfz21_2, hfz21_3, hfz21_4, hfz21_5, hfz21_6, hfz21_7, hfz21_8, hfz21_9, hfz21_10⟩ := kc11 BK141) | ((with_reducible refine gate_callee (f := 58) rfl ?_); refine gl (some 7) Try.func58 #[.int .i64 a0_8, .int .i64 a0_9] (h := ?_); (with_reducible refine (op_Name.calls a0_8 a0_9 true _ A2.out).mono ?_); rintro e w' ⟨rfl, ⟨nd, rfl⟩⟩; refine ⟨_, rfl, ?_⟩))
   go_ret
   exact ⟨re, bw HB⟩
  rw [if_neg c4] at H
  have c4b0 : (a0_8 == a0_0) = false := beq_eq_false_iff_ne.mpr c4
  have c4b1 : (a0_8 != a0_0) = true := bne_iff_ne.mpr c4
  by_cases c22 : a0_10 < 0
  ·rw [if_pos c22] at H
   have c22b0 : decide (a0_10 < 0) = true := decide_eq_true c22
   clear c22
   obtain rfl := Option.some.inj H
   go_enter Try.func60, Try.ntmps60
   go_wp2_with (first | ((with_reducible refine gate_dst (N := 1) rfl ?_); (try (refine gate_guard (by rfl) ?_; dsimp only)); refine bx 1 #[.int .i64 a0_0, .int .i64 a0_1, .int .i64 a0_2, .int .i64 a0_3, .int .i64 a0_4, .int .i64 a0_5, .string a0_6, .slice A0_7 l0_7.length c0_7, .int .i64 a0_8, .int .i64 a0_9, .int .i64 a0_10] 38 (h := ?_); intro gb141 hg w23 hbox hb; have BK141 := Aside0.mk (hbox); have GW141 := bz HB hg; have GE141 := bz HB hg; replace HB := bs HB hb; clear hb hbox hg; obtain ⟨hcz24_0, hcz24_1, hcz24_2, hcz24_3, hcz24_4, hcz24_5, hcz24_6, hcz24_7, hcz24_8, hcz24_9, hcz24_10, hfz24_0, hfz24_1, hfz24_2, hfz24_3, hfz24_4, hfz24_5, hfz24_6, hfz24_7, hfz24_8, hfz24_9, hfz24_10⟩ := kc11 BK141) | ((with_reducible refine gate_callee (f := 58) rfl ?_); refine gl (some 7) Try.func58 #[.int .i64 a0_8, .int .i64 a0_9] (h := ?_); (with_reducible refine (op_Name.calls a0_8 a0_9 true _ A2.out).mono ?_); rintro e w' ⟨rfl, ⟨nd, rfl⟩⟩; refine ⟨_, rfl, ?_⟩))
   go_ret
   exact ⟨re, bw HB⟩
  rw [if_neg c22] at H
  have c22b0 : decide (a0_10 < 0) = false := decide_eq_false c22
  clear c22
  by_cases c25 : a0_10 > 268435456
  ·rw [if_pos c25] at H
   have c25b0 : decide (268435456 < a0_10) = true := decide_eq_true c25
   clear c25
   obtain rfl := Option.some.inj H
   go_enter Try.func60, Try.ntmps60
   go_wp2_with (first | ((with_reducible refine gate_dst (N := 1) rfl ?_); (try (refine gate_guard (by rfl) ?_; dsimp only)); refine bx 1 #[.int .i64 a0_0, .int .i64 a0_1, .int .i64 a0_2, .int .i64 a0_3, .int .i64 a0_4, .int .i64 a0_5, .string a0_6, .slice A0_7 l0_7.length c0_7, .int .i64 a0_8, .int .i64 a0_9, .int .i64 a0_10] 38 (h := ?_); intro gb141 hg w26 hbox hb; have BK141 := Aside0.mk (hbox); have GW141 := bz HB hg; have GE141 := bz HB hg; replace HB := bs HB hb; clear hb hbox hg; obtain ⟨hcz27_0, hcz27_1, hcz27_2, hcz27_3, hcz27_4, hcz27_5, hcz27_6, hcz27_7, hcz27_8, hcz27_9, hcz27_10, hfz27_0, hfz27_1, hfz27_2, hfz27_3, hfz27_4, hfz27_5, hfz27_6, hfz27_7, hfz27_8, hfz27_9, hfz27_10⟩ := kc11 BK141) | ((with_reducible refine gate_callee (f := 58) rfl ?_); refine gl (some 7) Try.func58 #[.int .i64 a0_8, .int .i64 a0_9] (h := ?_); (with_reducible refine (op_Name.calls a0_8 a0_9 true _ A2.out).mono ?_); rintro e w' ⟨rfl, ⟨nd, rfl⟩⟩; refine ⟨_, rfl, ?_⟩))
   go_ret
   exact ⟨re, bw HB⟩
  rw [if_neg c25] at H
  have c25b0 : decide (268435456 < a0_10) = false := decide_eq_false c25
  clear c25
  by_cases c28 : (a0_3 == 0 && (a0_4 == 0 && (a0_5 == 0))) = true
  ·rw [if_pos c28] at H
   have c28b0 : (a0_3 == 0 && (a0_4 == 0 && (a0_5 == 0))) = true := c28
   (try (have c28b1 : decide (a0_3 = 0 && (a0_4 == 0 && (a0_5 == 0))) = true := by simpa using c28))
   (try (have c28b2 : (a0_3 == 0 && (a0_4 == 0 && (a0_5 == 0))) = true := by simpa using c28))
   clear c28
   by_cases c29 : a0_6.toList = ([] : List UInt8)
   ·rw [if_pos c29] at H
    have c29b0 : (a0_6.toList == ([] : List UInt8)) = true := beq_iff_eq.mpr c29
    have c29b1 : (a0_6.toList != ([] : List UInt8)) = false := bne_eq_false_iff_eq.mpr c29
    clear c29
    obtain rfl := Option.some.inj H
    go_enter Try.func60, Try.ntmps60
    go_wp2_with (first | ((with_reducible refine gate_dst (N := 1) rfl ?_); (try (refine gate_guard (by rfl) ?_; dsimp only)); refine bx 1 #[.int .i64 a0_0, .int .i64 a0_1, .int .i64 a0_2, .int .i64 a0_3, .int .i64 a0_4, .int .i64 a0_5, .string a0_6, .slice A0_7 l0_7.length c0_7, .int .i64 a0_8, .int .i64 a0_9, .int .i64 a0_10] 38 (h := ?_); intro gb141 hg w30 hbox hb; have BK141 := Aside0.mk (hbox); have GW141 := bz HB hg; have GE141 := bz HB hg; replace HB := bs HB hb; clear hb hbox hg; obtain ⟨hcz31_0, hcz31_1, hcz31_2, hcz31_3, hcz31_4, hcz31_5, hcz31_6, hcz31_7, hcz31_8, hcz31_9, hcz31_10, hfz31_0, hfz31_1, hfz31_2, hfz31_3, hfz31_4, hfz31_5, hfz31_6, hfz31_7, hfz31_8, hfz31_9, hfz31_10⟩ := kc11 BK141) | ((with_reducible refine gate_callee (f := 58) rfl ?_); refine gl (some 7) Try.func58 #[.int .i64 a0_8, .int .i64 a0_9] (h := ?_); (with_reducible refine (op_Name.calls a0_8 a0_9 true _ A2.out).mono ?_); rintro e w' ⟨rfl, ⟨nd, rfl⟩⟩; refine ⟨_, rfl, ?_⟩))
    go_ret
    exact ⟨re, bw HB⟩
   rw [if_neg c29] at H
   have c29b0 : (a0_6.toList == ([] : List UInt8)) = false := beq_eq_false_iff_ne.mpr c29
   have c29b1 : (a0_6.toList != ([] : List UInt8)) = true := bne_iff_ne.mpr c29
   obtain rfl := Option.some.inj H
   go_enter Try.func60, Try.ntmps60
   go_wp2_with (first | ((with_reducible refine gate_dst (N := 1) rfl ?_); (try (refine gate_guard (by rfl) ?_; dsimp only)); refine bx 1 #[.int .i64 a0_0, .int .i64 a0_1, .int .i64 a0_2, .int .i64 a0_3, .int .i64 a0_4, .int .i64 a0_5, .string a0_6, .slice A0_7 l0_7.length c0_7, .int .i64 a0_8, .int .i64 a0_9, .int .i64 a0_10] 38 (h := ?_); intro gb141 hg w32 hbox hb; have BK141 := Aside0.mk (hbox); have GW141 := bz HB hg; have GE141 := bz HB hg; replace HB := bs HB hb; clear hb hbox hg; obtain ⟨hcz33_0, hcz33_1, hcz33_2, hcz33_3, hcz33_4, hcz33_5, hcz33_6, hcz33_7, hcz33_8, hcz33_9, hcz33_10, hfz33_0, hfz33_1, hfz33_2, hfz33_3, hfz33_4, hfz33_5, hfz33_6, hfz33_7, hfz33_8, hfz33_9, hfz33_10⟩ := kc11 BK141) | ((with_reducible refine gate_callee (f := 58) rfl ?_); refine gl (some 7) Try.func58 #[.int .i64 a0_8, .int .i64 a0_9] (h := ?_); (with_reducible refine (op_Name.calls a0_8 a0_9 true _ A2.out).mono ?_); rintro e w' ⟨rfl, ⟨nd, rfl⟩⟩; refine ⟨_, rfl, ?_⟩))
   go_ret
   exact ⟨re, bw HB⟩
  rw [if_neg c28] at H
  have c28b0 : (a0_3 == 0 && (a0_4 == 0 && (a0_5 == 0))) = false := by simpa using c28
  (try (have c28b1 : decide (a0_3 = 0 && (a0_4 == 0 && (a0_5 == 0))) = false := by simpa using c28))
  (try (have c28b2 : (a0_3 == 0 && (a0_4 == 0 && (a0_5 == 0))) = false := by simpa using c28))
  (try (have c28b3 : ¬ (a0_3 = 0 && (a0_4 == 0 && (a0_5 == 0))) := by simpa using c28))
  clear c28
  obtain rfl := Option.some.inj H
  go_enter Try.func60, Try.ntmps60
  go_wp2_with (first | ((with_reducible refine gate_dst (N := 1) rfl ?_); (try (refine gate_guard (by rfl) ?_; dsimp only)); refine bx 1 #[.int .i64 a0_0, .int .i64 a0_1, .int .i64 a0_2, .int .i64 a0_3, .int .i64 a0_4, .int .i64 a0_5, .string a0_6, .slice A0_7 l0_7.length c0_7, .int .i64 a0_8, .int .i64 a0_9, .int .i64 a0_10] 38 (h := ?_); intro gb141 hg w34 hbox hb; have BK141 := Aside0.mk (hbox); have GW141 := bz HB hg; have GE141 := bz HB hg; replace HB := bs HB hb; clear hb hbox hg; obtain ⟨hcz35_0, hcz35_1, hcz35_2, hcz35_3, hcz35_4, hcz35_5, hcz35_6, hcz35_7, hcz35_8, hcz35_9, hcz35_10, hfz35_0, hfz35_1, hfz35_2, hfz35_3, hfz35_4, hfz35_5, hfz35_6, hfz35_7, hfz35_8, hfz35_9, hfz35_10⟩ := kc11 BK141) | ((with_reducible refine gate_callee (f := 58) rfl ?_); refine gl (some 7) Try.func58 #[.int .i64 a0_8, .int .i64 a0_9] (h := ?_); (with_reducible refine (op_Name.calls a0_8 a0_9 true _ A2.out).mono ?_); rintro e w' ⟨rfl, ⟨nd, rfl⟩⟩; refine ⟨_, rfl, ?_⟩))
  go_ret
  exact ⟨re, bw HB⟩
 replace c3 := Bool.eq_false_iff.mpr c3
 subst c3
 have H1 : (some false) = some r := by rw [if_neg (show ¬ (false = true) by decide)] at H; exact H
 clear H
 have H := H1
 clear H1
 obtain rfl := Option.some.inj H
 go_enter Try.func60, Try.ntmps60
 go_wp2_with (first | ((with_reducible refine gate_dst (N := 1) rfl ?_); (try (refine gate_guard (by rfl) ?_; dsimp only)); refine bx 1 #[.int .i64 a0_0, .int .i64 a0_1, .int .i64 a0_2, .int .i64 a0_3, .int .i64 a0_4, .int .i64 a0_5, .string a0_6, .slice A0_7 l0_7.length c0_7, .int .i64 a0_8, .int .i64 a0_9, .int .i64 a0_10] 38 (h := ?_); intro gb141 hg w36 hbox hb; have BK141 := Aside0.mk (hbox); have GW141 := bz HB hg; have GE141 := bz HB hg; replace HB := bs HB hb; clear hb hbox hg; obtain ⟨hcz37_0, hcz37_1, hcz37_2, hcz37_3, hcz37_4, hcz37_5, hcz37_6, hcz37_7, hcz37_8, hcz37_9, hcz37_10, hfz37_0, hfz37_1, hfz37_2, hfz37_3, hfz37_4, hfz37_5, hfz37_6, hfz37_7, hfz37_8, hfz37_9, hfz37_10⟩ := kc11 BK141) | ((with_reducible refine gate_callee (f := 58) rfl ?_); refine gl (some 7) Try.func58 #[.int .i64 a0_8, .int .i64 a0_9] (h := ?_); (with_reducible refine (op_Name.calls a0_8 a0_9 false _ A2.out).mono ?_); rintro e w' ⟨rfl, ⟨nd, rfl⟩⟩; refine ⟨_, rfl, ?_⟩))
 go_ret
 exact ⟨re, bw HB⟩
def op_May.f (k : Nat) (a0_0 : Int) (a0_1 : Int) (a0_2 : Int) (a0_3 : Int) (a0_4 : Int) (a0_5 : Int) (a0_6 : ByteArray) (l0_7 : List (SElem)) (a0_8 : Int) (a0_9 : Int) (a0_10 : Int) : Option (Bool) := (op_Name.f a0_0 a0_1).bind fun t144 => (if t144 = true then (if a0_2 = 1 then ((op_edit.f k a0_0 a0_1 a0_2 a0_3 a0_4 a0_5 a0_6 l0_7 a0_8 a0_9 a0_10).bind fun t145 => (some t145)) else (if a0_2 = 2 then ((op_toggle.f a0_0 a0_1 a0_2 a0_3 a0_4 a0_5 a0_6 l0_7 a0_8 a0_9 a0_10).bind fun t146 => (some t146)) else (some false))) else (some false))
set_option maxHeartbeats 8000000 in
set_option maxRecDepth 100000 in
theorem op_May.calls (k : Nat) (a0_0 : Int) (a0_1 : Int) (a0_2 : Int) (a0_3 : Int) (a0_4 : Int) (a0_5 : Int) (a0_6 : ByteArray) (A0_7 : Option Addr) (c0_7 : Nat) (l0_7 : List (SElem)) (a0_8 : Int) (a0_9 : Int) (a0_10 : Int) (r : Bool) (w : World) (hr0_7 : Kd.C kElem w A0_7 l0_7.length l0_7) (hc0_7 : l0_7.length ≤ c0_7) (h : op_May.f k a0_0 a0_1 a0_2 a0_3 a0_4 a0_5 a0_6 l0_7 a0_8 a0_9 a0_10 = some r) :
  Calls Try.prog 37 #[.agg #[.int .i64 a0_0, .int .i64 a0_1, .int .i64 a0_2, .int .i64 a0_3, .int .i64 a0_4, .int .i64 a0_5, .string a0_6, .slice A0_7 l0_7.length c0_7, .int .i64 a0_8, .int .i64 a0_9, .int .i64 a0_10]] w fun e w' => e = .returned (.bool r) ∧ Below w.heap.size w w' := by
 have hu38 := Try.underlying38
 have HR0_7 := Aside0.mk hr0_7
 have HC0_7 := Aside0.mk hc0_7
 clear hr0_7 hc0_7
 have HB := Aside0.mk (Below.refl w.heap.size w)
 have H : ((op_Name.f a0_0 a0_1).bind fun t144 => (if t144 = true then (if a0_2 = 1 then ((op_edit.f k a0_0 a0_1 a0_2 a0_3 a0_4 a0_5 a0_6 l0_7 a0_8 a0_9 a0_10).bind fun t145 => (some t145)) else (if a0_2 = 2 then ((op_toggle.f a0_0 a0_1 a0_2 a0_3 a0_4 a0_5 a0_6 l0_7 a0_8 a0_9 a0_10).bind fun t146 => (some t146)) else (some false))) else (some false))) = some r := h
 clear h
 replace H := Option.bind_eq_some_iff.mp H
 obtain ⟨t144, A20, H⟩ := H
 replace H : (if t144 = true then (if a0_2 = 1 then ((op_edit.f k a0_0 a0_1 a0_2 a0_3 a0_4 a0_5 a0_6 l0_7 a0_8 a0_9 a0_10).bind fun t145 => (some t145)) else (if a0_2 = 2 then ((op_toggle.f a0_0 a0_1 a0_2 a0_3 a0_4 a0_5 a0_6 l0_7 a0_8 a0_9 a0_10).bind fun t146 => (some t146)) else (some false))) else (some false)) = some r := H
 have A2 := Aside0.mk A20
 clear A20
 by_cases c3 : t144 = true
 ·subst c3
  have H1 : (if a0_2 = 1 then ((op_edit.f k a0_0 a0_1 a0_2 a0_3 a0_4 a0_5 a0_6 l0_7 a0_8 a0_9 a0_10).bind fun t145 => (some t145)) else (if a0_2 = 2 then ((op_toggle.f a0_0 a0_1 a0_2 a0_3 a0_4 a0_5 a0_6 l0_7 a0_8 a0_9 a0_10).bind fun t146 => (some t146)) else (some false))) = some r := by rw [if_pos rfl] at H; exact H
  clear H
  have H := H1
  clear H1
  by_cases c4 : a0_2 = 1
  ·rw [if_pos c4] at H
   have c4b0 : (a0_2 == 1) = true := beq_iff_eq.mpr c4
   have c4b1 : (a0_2 != 1) = false := bne_eq_false_iff_eq.mpr c4
   clear c4
   replace H := Option.bind_eq_some_iff.mp H
   obtain ⟨t145, A50, H⟩ := H
   replace H : (some t145) = some r := H
   have A5 := Aside0.mk A50
   clear A50
   obtain rfl := Option.some.inj H
   go_enter Try.func37, Try.ntmps37
   go_wp2_with (first | ((with_reducible refine gate_dst (N := 1) rfl ?_); refine bx 1 #[.int .i64 a0_0, .int .i64 a0_1, .int .i64 a0_2, .int .i64 a0_3, .int .i64 a0_4, .int .i64 a0_5, .string a0_6, .slice A0_7 l0_7.length c0_7, .int .i64 a0_8, .int .i64 a0_9, .int .i64 a0_10] 38 (h := ?_); intro gb143 hg w6 hbox hb; have BK143 := Aside0.mk (hbox); have GW143 := bz HB hg; have GE143 := bz HB hg; replace HB := bs HB hb; clear hb hbox hg; obtain ⟨hcz7_0, hcz7_1, hcz7_2, hcz7_3, hcz7_4, hcz7_5, hcz7_6, hcz7_7, hcz7_8, hcz7_9, hcz7_10, hfz7_0, hfz7_1, hfz7_2, hfz7_3, hfz7_4, hfz7_5, hfz7_6, hfz7_7, hfz7_8, hfz7_9, hfz7_10⟩ := kc11 BK143) | ((with_reducible refine gate_callee (f := 58) rfl ?_); refine gl (some 8) Try.func58 #[.int .i64 a0_0, .int .i64 a0_1] (h := ?_); (with_reducible refine (op_Name.calls a0_0 a0_1 true _ A2.out).mono ?_); rintro e w' ⟨rfl, ⟨nd, rfl⟩⟩; refine ⟨_, rfl, ?_⟩) | ((with_reducible refine gate_callee (f := 59) rfl ?_); refine gl (some 15) Try.func59 #[.agg #[.int .i64 a0_0, .int .i64 a0_1, .int .i64 a0_2, .int .i64 a0_3, .int .i64 a0_4, .int .i64 a0_5, .string a0_6, .slice A0_7 l0_7.length c0_7, .int .i64 a0_8, .int .i64 a0_9, .int .i64 a0_10]] (h := ?_); (with_reducible refine (op_edit.calls k a0_0 a0_1 a0_2 a0_3 a0_4 a0_5 a0_6 _ _ l0_7 a0_8 a0_9 a0_10 t145 _ ?side1 ?side2 A5.out).mono ?_); (case side1 => repeat (first | exact (Kd.C_below HR0_7.out (bw HB)) | (with_reducible refine Kd.C_alloc ?_ _) | (with_reducible refine Kd.C_drewN ?_ _) | (with_reducible refine Kd.C_drew ?_))); (case side2 => exact HC0_7.out); rintro e w8 ⟨rfl, hb⟩; refine ⟨_, rfl, ?_⟩; replace BK143 := bl BK143 hb; replace HB := bs HB hb; (try clear hb); (try clear hb2); (try clear hk); (try clear hi)))
   go_ret
   exact ⟨re, bw HB⟩
  rw [if_neg c4] at H
  have c4b0 : (a0_2 == 1) = false := beq_eq_false_iff_ne.mpr c4
  have c4b1 : (a0_2 != 1) = true := bne_iff_ne.mpr c4
  by_cases c9 : a0_2 = 2
  ·rw [if_pos c9] at H
   have c9b0 : (a0_2 == 2) = true := beq_iff_eq.mpr c9
   have c9b1 : (a0_2 != 2) = false := bne_eq_false_iff_eq.mpr c9
   clear c9
   replace H := Option.bind_eq_some_iff.mp H
   obtain ⟨t146, A100, H⟩ := H
   replace H : (some t146) = some r := H
   have A10 := Aside0.mk A100
   clear A100
   obtain rfl := Option.some.inj H
   go_enter Try.func37, Try.ntmps37
   go_wp2_with (first | ((with_reducible refine gate_dst (N := 1) rfl ?_); refine bx 1 #[.int .i64 a0_0, .int .i64 a0_1, .int .i64 a0_2, .int .i64 a0_3, .int .i64 a0_4, .int .i64 a0_5, .string a0_6, .slice A0_7 l0_7.length c0_7, .int .i64 a0_8, .int .i64 a0_9, .int .i64 a0_10] 38 (h := ?_); intro gb143 hg w11 hbox hb; have BK143 := Aside0.mk (hbox); have GW143 := bz HB hg; have GE143 := bz HB hg; replace HB := bs HB hb; clear hb hbox hg; obtain ⟨hcz12_0, hcz12_1, hcz12_2, hcz12_3, hcz12_4, hcz12_5, hcz12_6, hcz12_7, hcz12_8, hcz12_9, hcz12_10, hfz12_0, hfz12_1, hfz12_2, hfz12_3, hfz12_4, hfz12_5, hfz12_6, hfz12_7, hfz12_8, hfz12_9, hfz12_10⟩ := kc11 BK143) | ((with_reducible refine gate_callee (f := 58) rfl ?_); refine gl (some 8) Try.func58 #[.int .i64 a0_0, .int .i64 a0_1] (h := ?_); (with_reducible refine (op_Name.calls a0_0 a0_1 true _ A2.out).mono ?_); rintro e w' ⟨rfl, ⟨nd, rfl⟩⟩; refine ⟨_, rfl, ?_⟩) | (go_at_call 60; (with_reducible refine (op_toggle.calls a0_0 a0_1 a0_2 a0_3 a0_4 a0_5 a0_6 _ _ l0_7 a0_8 a0_9 a0_10 t146 _ ?side1 ?side2 A10.out).mono ?_); (case side1 => repeat (first | exact (Kd.C_below HR0_7.out (bw HB)) | (with_reducible refine Kd.C_alloc ?_ _) | (with_reducible refine Kd.C_drewN ?_ _) | (with_reducible refine Kd.C_drew ?_))); (case side2 => exact HC0_7.out); rintro e w13 ⟨rfl, hb⟩; replace BK143 := bl BK143 hb; replace HB := bs HB hb; (try clear hb); (try clear hb2); (try clear hk); (try clear hi)))
   go_ret
   exact ⟨re, bw HB⟩
  rw [if_neg c9] at H
  have c9b0 : (a0_2 == 2) = false := beq_eq_false_iff_ne.mpr c9
  have c9b1 : (a0_2 != 2) = true := bne_iff_ne.mpr c9
  obtain rfl := Option.some.inj H
  go_enter Try.func37, Try.ntmps37
  go_wp2_with (first | ((with_reducible refine gate_dst (N := 1) rfl ?_); refine bx 1 #[.int .i64 a0_0, .int .i64 a0_1, .int .i64 a0_2, .int .i64 a0_3, .int .i64 a0_4, .int .i64 a0_5, .string a0_6, .slice A0_7 l0_7.length c0_7, .int .i64 a0_8, .int .i64 a0_9, .int .i64 a0_10] 38 (h := ?_); intro gb143 hg w14 hbox hb; have BK143 := Aside0.mk (hbox); have GW143 := bz HB hg; have GE143 := bz HB hg; replace HB := bs HB hb; clear hb hbox hg; obtain ⟨hcz15_0, hcz15_1, hcz15_2, hcz15_3, hcz15_4, hcz15_5, hcz15_6, hcz15_7, hcz15_8, hcz15_9, hcz15_10, hfz15_0, hfz15_1, hfz15_2, hfz15_3, hfz15_4, hfz15_5, hfz15_6, hfz15_7, hfz15_8, hfz15_9, hfz15_10⟩ := kc11 BK143) | ((with_reducible refine gate_callee (f := 58) rfl ?_); refine gl (some 8) Try.func58 #[.int .i64 a0_0, .int .i64 a0_1] (h := ?_); (with_reducible refine (op_Name.calls a0_0 a0_1 true _ A2.out).mono ?_); rintro e w' ⟨rfl, ⟨nd, rfl⟩⟩; refine ⟨_, rfl, ?_⟩))
  go_ret
  exact ⟨re, bw HB⟩
 replace c3 := Bool.eq_false_iff.mpr c3
 subst c3
 have H1 : (some false) = some r := by rw [if_neg (show ¬ (false = true) by decide)] at H; exact H
 clear H
 have H := H1
 clear H1
 obtain rfl := Option.some.inj H
 go_enter Try.func37, Try.ntmps37
 go_wp2_with (first | ((with_reducible refine gate_dst (N := 1) rfl ?_); refine bx 1 #[.int .i64 a0_0, .int .i64 a0_1, .int .i64 a0_2, .int .i64 a0_3, .int .i64 a0_4, .int .i64 a0_5, .string a0_6, .slice A0_7 l0_7.length c0_7, .int .i64 a0_8, .int .i64 a0_9, .int .i64 a0_10] 38 (h := ?_); intro gb143 hg w16 hbox hb; have BK143 := Aside0.mk (hbox); have GW143 := bz HB hg; have GE143 := bz HB hg; replace HB := bs HB hb; clear hb hbox hg; obtain ⟨hcz17_0, hcz17_1, hcz17_2, hcz17_3, hcz17_4, hcz17_5, hcz17_6, hcz17_7, hcz17_8, hcz17_9, hcz17_10, hfz17_0, hfz17_1, hfz17_2, hfz17_3, hfz17_4, hfz17_5, hfz17_6, hfz17_7, hfz17_8, hfz17_9, hfz17_10⟩ := kc11 BK143) | ((with_reducible refine gate_callee (f := 58) rfl ?_); refine gl (some 8) Try.func58 #[.int .i64 a0_0, .int .i64 a0_1] (h := ?_); (with_reducible refine (op_Name.calls a0_0 a0_1 false _ A2.out).mono ?_); rintro e w' ⟨rfl, ⟨nd, rfl⟩⟩; refine ⟨_, rfl, ?_⟩))
 go_ret
 exact ⟨re, bw HB⟩
def lectionarylaw0_OpWeight.f (a0_0 : Int) (a0_1 : Int) (a0_2 : Int) (a0_3 : Int) (a0_4 : Int) (a0_5 : Int) (a0_6 : ByteArray) (l0_7 : List (SElem)) (a0_8 : Int) (a0_9 : Int) (a0_10 : Int) : Option (Int) := some (wrap64 ((wrap64 (2 + (wrap64 ((a0_6.size : Int) / 4)))) + (l0_7.length : Int)))
set_option maxHeartbeats 8000000 in
set_option maxRecDepth 100000 in
theorem lectionarylaw0_OpWeight.calls (a0_0 : Int) (a0_1 : Int) (a0_2 : Int) (a0_3 : Int) (a0_4 : Int) (a0_5 : Int) (a0_6 : ByteArray) (A0_7 : Option Addr) (c0_7 : Nat) (l0_7 : List (SElem)) (a0_8 : Int) (a0_9 : Int) (a0_10 : Int) (r : Int) (w : World) (hr0_7 : Kd.C kElem w A0_7 l0_7.length l0_7) (hc0_7 : l0_7.length ≤ c0_7) (h : lectionarylaw0_OpWeight.f a0_0 a0_1 a0_2 a0_3 a0_4 a0_5 a0_6 l0_7 a0_8 a0_9 a0_10 = some r) :
  Calls Try.prog 47 #[.agg #[.int .i64 a0_0, .int .i64 a0_1, .int .i64 a0_2, .int .i64 a0_3, .int .i64 a0_4, .int .i64 a0_5, .string a0_6, .slice A0_7 l0_7.length c0_7, .int .i64 a0_8, .int .i64 a0_9, .int .i64 a0_10]] w fun e w' => e = .returned (.int .i64 r) ∧ Below w.heap.size w w' := by
 have hu38 := Try.underlying38
 have HR0_7 := Aside0.mk hr0_7
 have HC0_7 := Aside0.mk hc0_7
 clear hr0_7 hc0_7
 have HB := Aside0.mk (Below.refl w.heap.size w)
 have H : (some (wrap64 ((wrap64 (2 + (wrap64 ((a0_6.size : Int) / 4)))) + (l0_7.length : Int)))) = some r := h
 clear h
 obtain rfl := Option.some.inj H
 go_enter Try.func47, Try.ntmps47
 go_wp2_with (first | ((with_reducible refine gate_dst (N := 1) rfl ?_); refine bx 1 #[.int .i64 a0_0, .int .i64 a0_1, .int .i64 a0_2, .int .i64 a0_3, .int .i64 a0_4, .int .i64 a0_5, .string a0_6, .slice A0_7 l0_7.length c0_7, .int .i64 a0_8, .int .i64 a0_9, .int .i64 a0_10] 38 (h := ?_); intro gb147 hg w2 hbox hb; have BK147 := Aside0.mk (hbox); have GW147 := bz HB hg; have GE147 := bz HB hg; replace HB := bs HB hb; clear hb hbox hg; obtain ⟨hcz3_0, hcz3_1, hcz3_2, hcz3_3, hcz3_4, hcz3_5, hcz3_6, hcz3_7, hcz3_8, hcz3_9, hcz3_10, hfz3_0, hfz3_1, hfz3_2, hfz3_3, hfz3_4, hfz3_5, hfz3_6, hfz3_7, hfz3_8, hfz3_9, hfz3_10⟩ := kc11 BK147))
 go_ret
 exact ⟨re, bw HB⟩
def lectionarylaw0_OpsWeight.l0 : Nat → List (SOp) → Int → Int → Option (Int)
 | 0, _, _, _ => none
 | k + 1, x0, x3, x4 => if x4 < (x0.length : Int) then (if x3 < 1048576 then (if 0 ≤ x4 then ((lectionarylaw0_OpWeight.f ((rd_Op x0 x4).f0) ((rd_Op x0 x4).f1) ((rd_Op x0 x4).f2) ((rd_Op x0 x4).f3.f0) ((rd_Op x0 x4).f3.f1) ((rd_Op x0 x4).f3.f2) ((rd_Op x0 x4).f4) ((rd_Op x0 x4).f5) ((rd_Op x0 x4).f6) ((rd_Op x0 x4).f7) ((rd_Op x0 x4).f8)).bind fun t149 => (lectionarylaw0_OpsWeight.l0 k x0 (wrap64 (x3 + t149)) (wrap64 (x4 + 1)))) else (none)) else (some x3)) else (some x3)
def lectionarylaw0_OpsWeight.f (k : Nat) (l0 : List (SOp)) : Option (Int) := lectionarylaw0_OpsWeight.l0 k l0 (l0.length : Int) 0
set_option maxHeartbeats 8000000 in
set_option maxRecDepth 100000 in
theorem lectionarylaw0_OpsWeight.calls (k : Nat) (A0 : Option Addr) (c0 : Nat) (l0 : List (SOp)) (r : Int) (w : World) (hr0 : Kd.C kOp w A0 l0.length l0) (hc0 : l0.length ≤ c0) (h : lectionarylaw0_OpsWeight.f k l0 = some r) :
  Calls Try.prog 26 #[.slice A0 l0.length c0] w fun e w' => e = .returned (.int .i64 r) ∧ Below w.heap.size w w' := by
 have hu38 := Try.underlying38
 have HR0 := Aside0.mk hr0
 have HC0 := Aside0.mk hc0
 clear hr0 hc0
 have HB := Aside0.mk (Below.refl w.heap.size w)
 have H : (lectionarylaw0_OpsWeight.l0 k l0 (l0.length : Int) 0) = some r := h
 clear h
 have H' := Aside0.mk H
 clear H
 go_enter Try.func26, Try.ntmps26
 go_wp2
 go_loopg [3, 4] k (fun kq v3 v4 w' => ∃ (x3_1 : Int) (x4_1 : Int), v3 = .int .i64 x3_1 ∧ v4 = .int .i64 x4_1 ∧ Aside0 (lectionarylaw0_OpsWeight.l0 kq l0 x3_1 x4_1 = some r) ∧ Aside0 (kq ≤ k) ∧ Aside0 (Below w.heap.size w w'))
 case atStart => exact ⟨((l0.length : Int)), (0), rf, rf, H', ⟨Nat.le_refl _⟩, ⟨bw HB⟩⟩
 case round =>
  clear H'
  obtain ⟨x3_1, x4_1, rfl, rfl, HA, HK1, HB⟩ := hrel
  cases gk with
  | zero => exact absurd HA.out (by simp [lectionarylaw0_OpsWeight.l0])
  | succ k1 =>
   have H := HA.out
   clear HA
   simp only [lectionarylaw0_OpsWeight.l0] at H
   by_cases c2 : x4_1 < (l0.length : Int)
   ·rw [if_pos c2] at H
    have c2b0 : decide (x4_1 < (l0.length : Int)) = true := decide_eq_true c2
    clear c2
    by_cases c3 : x3_1 < 1048576
    ·rw [if_pos c3] at H
     have c3b0 : decide (x3_1 < 1048576) = true := decide_eq_true c3
     clear c3
     by_cases c4 : 0 ≤ x4_1
     ·rw [if_pos c4] at H
      have c4b0 : decide (0 ≤ x4_1) = true := decide_eq_true c4
      clear c4
      replace H := Option.bind_eq_some_iff.mp H
      obtain ⟨t149, A50, H⟩ := H
      replace H : (lectionarylaw0_OpsWeight.l0 k1 l0 (wrap64 (x3_1 + t149)) (wrap64 (x4_1 + 1))) = some r := H
      have A5 := Aside0.mk A50
      clear A50
      have H' := Aside0.mk H
      clear H
      have p148 : 0 ≤ (x4_1 : Int) := of_decide_eq_true (by first | (with_reducible assumption) | assumption)
      have q148 : x4_1 < (l0.length : Int) := of_decide_eq_true (by first | (with_reducible assumption) | assumption)
      obtain ⟨ad148, A148_7, c148_7, e148, hx148_0, hx148_1, hx148_2, hx148_3, hx148_4, hx148_5, hx148_6, hx148_7, hx148_8, hx148_9, hx148_10, hl148_7, hi148_7⟩ := at_Op HR0.out x4_1 p148 q148
      cases e148
      replace hx148_0 := cl HB hx148_0
      replace hx148_1 := cl HB hx148_1
      replace hx148_2 := cl HB hx148_2
      replace hx148_3 := cl HB hx148_3
      replace hx148_4 := cl HB hx148_4
      replace hx148_5 := cl HB hx148_5
      replace hx148_6 := cl HB hx148_6
      replace hx148_7 := cl HB hx148_7
      replace hx148_8 := cl HB hx148_8
      replace hx148_9 := cl HB hx148_9
      replace hx148_10 := cl HB hx148_10
      have HR148_7 := Aside0.mk hi148_7
      have HC148_7 := Aside0.mk hl148_7
      clear hi148_7 hl148_7
      replace p148 := eq_true p148
      replace q148 := eq_true q148
      go_wp2_with (first | ((with_reducible refine gate_callee (f := 47) rfl ?_); refine gl (some 22) Try.func47 #[.agg #[.int .i64 ((rd_Op l0 x4_1).f0), .int .i64 ((rd_Op l0 x4_1).f1), .int .i64 ((rd_Op l0 x4_1).f2), .int .i64 ((rd_Op l0 x4_1).f3.f0), .int .i64 ((rd_Op l0 x4_1).f3.f1), .int .i64 ((rd_Op l0 x4_1).f3.f2), .string ((rd_Op l0 x4_1).f4), .slice A148_7 ((rd_Op l0 x4_1).f5).length c148_7, .int .i64 ((rd_Op l0 x4_1).f6), .int .i64 ((rd_Op l0 x4_1).f7), .int .i64 ((rd_Op l0 x4_1).f8)]] (h := ?_); (with_reducible refine (lectionarylaw0_OpWeight.calls ((rd_Op l0 x4_1).f0) ((rd_Op l0 x4_1).f1) ((rd_Op l0 x4_1).f2) ((rd_Op l0 x4_1).f3.f0) ((rd_Op l0 x4_1).f3.f1) ((rd_Op l0 x4_1).f3.f2) ((rd_Op l0 x4_1).f4) _ _ ((rd_Op l0 x4_1).f5) ((rd_Op l0 x4_1).f6) ((rd_Op l0 x4_1).f7) ((rd_Op l0 x4_1).f8) t149 _ ?side1 ?side2 A5.out).mono ?_); (case side1 => repeat (first | exact (Kd.C_below HR148_7.out HB.out) | (with_reducible refine Kd.C_alloc ?_ _) | (with_reducible refine Kd.C_drewN ?_ _) | (with_reducible refine Kd.C_drew ?_))); (case side2 => exact HC148_7.out); rintro e w6 ⟨rfl, hb⟩; refine ⟨_, rfl, ?_⟩; replace HB := bs HB hb; (try clear hb); (try clear hb2); (try clear hk); (try clear hi)))
      go_roundg k1
      case measure => have := HK1.out; omega
      case rel => exact ⟨(wrap64 (x3_1 + t149)), (wrap64 (x4_1 + 1)), rf, rf, H', ⟨by have := HK1.out; omega⟩, ⟨bw HB⟩⟩
     rw [if_neg c4] at H
     exact absurd H (by simp)
    rw [if_neg c3] at H
    have c3b0 : decide (x3_1 < 1048576) = false := decide_eq_false c3
    clear c3
    obtain rfl := Option.some.inj H
    go_wp2
    go_ret
    exact ⟨re, bw HB⟩
   rw [if_neg c2] at H
   have c2b0 : decide (x4_1 < (l0.length : Int)) = false := decide_eq_false c2
   clear c2
   obtain rfl := Option.some.inj H
   go_wp2
   go_ret
   exact ⟨re, bw HB⟩
def lectionarylaw5_Heavy.l0 : Nat → Int → Int → List (List (SOp)) → List (SElem) → List (SOp) → List Int → Option (Bool)
 | 0, _, _, _, _, _, _ => none
 | k + 1, x3, x4, x151000, x151001, x151002, x151003 => if x4 < (x151000.length : Int) then (if x3 < 1048576 then (if 0 ≤ x4 then ((lectionarylaw0_OpsWeight.f k (rd_LOp x151000 x4)).bind fun t153 => (lectionarylaw5_Heavy.l0 k (wrap64 (x3 + t153)) (wrap64 (x4 + 1)) x151000 x151001 x151002 x151003)) else (none)) else (some (decide (x3 > 900)))) else (some (decide (x3 > 900)))
def lectionarylaw5_Heavy.f (k : Nat) (l0_0 : List (List (SOp))) (l0_1 : List (SElem)) (l0_2 : List (SOp)) (l0_3 : List Int) : Option (Bool) := (lectionarylaw0_OpsWeight.f k l0_2).bind fun t151 => (lectionarylaw5_Heavy.l0 k (wrap64 ((wrap64 ((l0_1.length : Int) + (l0_3.length : Int))) + t151)) 0 l0_0 l0_1 l0_2 l0_3)
def lectionarylaw5_Heavy.T1 : Bool × List (List Nat × List Nat) := (true, [([], []), ([0], [0]), ([1], [1]), ([], []), ([3], [3]), ([4], [4]), ([2, 5], [2, 5]), ([], []), ([7], [7]), ([8], [8]), ([6, 9], [6, 9]), ([10, 9, 0, 1, 2, 3, 4, 5, 6, 7, 8, 9, 10], [10])])
def lectionarylaw5_Heavy.B1 : List Nat := [0, 1, 3, 0, 8, 24, 63, 0, 128, 384, 1023, 2047]
theorem lectionarylaw5_Heavy.tab1 : rtab .any (opsOf Try.f6 1) = lectionarylaw5_Heavy.T1 := by kernel_rfl
theorem lectionarylaw5_Heavy.bits1 : waitsOk lectionarylaw5_Heavy.T1.2 lectionarylaw5_Heavy.B1 = true := by kernel_rfl
set_option maxHeartbeats 8000000 in
set_option maxRecDepth 100000 in
theorem lectionarylaw5_Heavy.calls (k : Nat) (A0_0 : Option Addr) (c0_0 : Nat) (l0_0 : List (List (SOp))) (A0_1 : Option Addr) (c0_1 : Nat) (l0_1 : List (SElem)) (A0_2 : Option Addr) (c0_2 : Nat) (l0_2 : List (SOp)) (A0_3 : Option Addr) (c0_3 : Nat) (l0_3 : List Int) (r : Bool) (w : World) (hr0_0 : Kd.C (Kd.slice 38 kOp) w A0_0 l0_0.length l0_0) (hc0_0 : l0_0.length ≤ c0_0) (hr0_1 : Kd.C kElem w A0_1 l0_1.length l0_1) (hc0_1 : l0_1.length ≤ c0_1) (hr0_2 : Kd.C kOp w A0_2 l0_2.length l0_2) (hc0_2 : l0_2.length ≤ c0_2) (hr0_3 : Kd.C (Kd.int .i64) w A0_3 l0_3.length l0_3) (hc0_3 : l0_3.length ≤ c0_3) (h : lectionarylaw5_Heavy.f k l0_0 l0_1 l0_2 l0_3 = some r) :
  Calls Try.prog 6 #[.agg #[.slice A0_0 l0_0.length c0_0, .slice A0_1 l0_1.length c0_1, .slice A0_2 l0_2.length c0_2, .slice A0_3 l0_3.length c0_3]] w fun e w' => e = .returned (.bool r) ∧ Below w.heap.size w w' := by
 have hu27 := Try.underlying27
 have HR0_0 := Aside0.mk hr0_0
 have HC0_0 := Aside0.mk hc0_0
 clear hr0_0 hc0_0
 have HR0_1 := Aside0.mk hr0_1
 have HC0_1 := Aside0.mk hc0_1
 clear hr0_1 hc0_1
 have HR0_2 := Aside0.mk hr0_2
 have HC0_2 := Aside0.mk hc0_2
 clear hr0_2 hc0_2
 have HR0_3 := Aside0.mk hr0_3
 have HC0_3 := Aside0.mk hc0_3
 clear hr0_3 hc0_3
 have HB := Aside0.mk (Below.refl w.heap.size w)
 have H : ((lectionarylaw0_OpsWeight.f k l0_2).bind fun t151 => (lectionarylaw5_Heavy.l0 k (wrap64 ((wrap64 ((l0_1.length : Int) + (l0_3.length : Int))) + t151)) 0 l0_0 l0_1 l0_2 l0_3)) = some r := h
 clear h
 replace H := Option.bind_eq_some_iff.mp H
 obtain ⟨t151, A20, H⟩ := H
 replace H : (lectionarylaw5_Heavy.l0 k (wrap64 ((wrap64 ((l0_1.length : Int) + (l0_3.length : Int))) + t151)) 0 l0_0 l0_1 l0_2 l0_3) = some r := H
 have A2 := Aside0.mk A20
 clear A20
 have H' := Aside0.mk H
 clear H
 go_enter Try.func6, Try.ntmps6
 try go_wp2_with (first | ((with_reducible refine gate_dst (N := 1) rfl ?_); refine bx 1 #[.slice A0_0 l0_0.length c0_0, .slice A0_1 l0_1.length c0_1, .slice A0_2 l0_2.length c0_2, .slice A0_3 l0_3.length c0_3] 27 (h := ?_); intro gb150 hg w3 hbox hb; have BK150 := Aside0.mk (hbox); have GW150 := bz HB hg; have GE150 := bz HB hg; replace HB := bs HB hb; clear hb hbox hg))
 have n0_ := Aside0.mk (blk_drew BK150.out)
 have n1_ := Aside0.mk (below_drew1 HB.out)
 clear BK150
 clear HB
 have BK150 := n0_
 have HB := n1_
 clear n0_ n1_
 refine stP (fun w' => E4 w' gb150 (.slice A0_0 l0_0.length c0_0) (.slice A0_1 l0_1.length c0_1) (.slice A0_2 l0_2.length c0_2) (.slice A0_3 l0_3.length c0_3)) 12 (e4 BK150) (h := fun hHeld => ?_); refine with_tabW lectionarylaw5_Heavy.tab1 lectionarylaw5_Heavy.bits1 (fun HT_ HW_ => ?_)
 generalize w3.drew = w4 at BK150 HB hHeld ⊢
 refine pu HT_ 0 5 1 (h := ?_)
 refine pu HT_ 3 8 9 (h := ?_)
 refine pu HT_ 7 12 137 (h := ?_)
 refine tk HT_ HW_ hHeld 1 6 139 (h := ?_)
 refine pu HT_ 2 7 143 (h := ?_)
 refine tk HT_ HW_ hHeld 4 9 159 (h := ?_)
 refine pu HT_ 5 10 191 (h := ?_)
 refine pu HT_ 6 11 255 (h := ?_)
 refine tk HT_ HW_ hHeld 8 13 511 (h := ?_)
 refine on HT_ 9 (some 14) 1023 (h := fun K hK => ?_)
 refine gS Try.func26 #[.slice A0_2 l0_2.length c0_2] (h := ?_)
 with_reducible refine (lectionarylaw0_OpsWeight.calls k _ _ l0_2 t151 _ ?side1 ?side2 A2.out).mono ?_
 (case side1 => repeat (first | exact (Kd.C_below HR0_2.out HB.out) | (with_reducible refine Kd.C_alloc ?_ _) | (with_reducible refine Kd.C_drewN ?_ _) | (with_reducible refine Kd.C_drew ?_)))
 (case side2 => exact HC0_2.out)
 rintro e w5 ⟨rfl, hb⟩
 refine ⟨_, rfl, ?_⟩
 have n0_ := bl BK150 hb
 have n1_ := bs HB hb
 clear BK150
 clear HB
 have BK150 := n0_
 have HB := n1_
 clear n0_ n1_
 (try clear hb)
 (try clear hb2)
 (try clear hk)
 (try clear hi)
 refine hK.out _ _ (e4 BK150) (fun hHeld => ?_)
 clear hK K
 refine nm (h := ?_)
 refine pu HT_ 10 15 2047 (h := ?_)
 refine pu HT_ 11 3 4095 (h := ?_)
 refine dn HT_ (h := ?_)
 try go_wp2
 go_loopg [3, 4] k (fun kq v3 v4 w' => ∃ (x3_1 : Int) (x4_1 : Int), v3 = .int .i64 x3_1 ∧ v4 = .int .i64 x4_1 ∧ Aside0 (lectionarylaw5_Heavy.l0 kq x3_1 x4_1 l0_0 l0_1 l0_2 l0_3 = some r) ∧ Aside0 (kq ≤ k) ∧ Aside0 (w'.heap[gb150]? = some (.cells #[(.slice A0_0 l0_0.length c0_0), (.slice A0_1 l0_1.length c0_1), (.slice A0_2 l0_2.length c0_2), (.slice A0_3 l0_3.length c0_3)] 27 (0, 0))) ∧ Aside0 (Below w.heap.size w w'))
 case atStart => exact ⟨(wrap64 ((wrap64 ((l0_1.length : Int) + (l0_3.length : Int))) + t151)), (0), rf, rf, H', ⟨Nat.le_refl _⟩, ⟨kk BK150⟩, ⟨bw HB⟩⟩
 case round =>
  clear H'
  obtain ⟨x3_1, x4_1, rfl, rfl, HA, HK1, BK150, HB⟩ := hrel
  cases gk with
  | zero => exact absurd HA.out (by simp [lectionarylaw5_Heavy.l0])
  | succ k1 =>
   have H := HA.out
   clear HA
   simp only [lectionarylaw5_Heavy.l0] at H
   by_cases c6 : x4_1 < (l0_0.length : Int)
   ·rw [if_pos c6] at H
    have c6b0 : decide (x4_1 < (l0_0.length : Int)) = true := decide_eq_true c6
    clear c6
    by_cases c7 : x3_1 < 1048576
    ·rw [if_pos c7] at H
     have c7b0 : decide (x3_1 < 1048576) = true := decide_eq_true c7
     clear c7
     by_cases c8 : 0 ≤ x4_1
     ·rw [if_pos c8] at H
      have c8b0 : decide (0 ≤ x4_1) = true := decide_eq_true c8
      clear c8
      replace H := Option.bind_eq_some_iff.mp H
      obtain ⟨t153, A90, H⟩ := H
      replace H : (lectionarylaw5_Heavy.l0 k1 (wrap64 (x3_1 + t153)) (wrap64 (x4_1 + 1)) l0_0 l0_1 l0_2 l0_3) = some r := H
      have A9 := Aside0.mk A90
      clear A90
      have H' := Aside0.mk H
      clear H
      obtain ⟨hcz10_0, hcz10_1, hcz10_2, hcz10_3, hfz10_0, hfz10_1, hfz10_2, hfz10_3⟩ := kc4 BK150
      have p152 : 0 ≤ (x4_1 : Int) := of_decide_eq_true (by first | (with_reducible assumption) | assumption)
      have q152 : x4_1 < (l0_0.length : Int) := of_decide_eq_true (by first | (with_reducible assumption) | assumption)
      obtain ⟨ad152, A152_0, c152_0, e152, hx152_0, hl152_0, hi152_0⟩ := at_LOp HR0_0.out x4_1 p152 q152
      cases e152
      replace hx152_0 := cl HB hx152_0
      have HR152_0 := Aside0.mk hi152_0
      have HC152_0 := Aside0.mk hl152_0
      clear hi152_0 hl152_0
      replace p152 := eq_true p152
      replace q152 := eq_true q152
      go_wp2_with (first | ((with_reducible refine gate_callee (f := 26) rfl ?_); refine gl (some 33) Try.func26 #[.slice A152_0 (rd_LOp l0_0 x4_1).length c152_0] (h := ?_); (with_reducible refine (lectionarylaw0_OpsWeight.calls k1 _ _ (rd_LOp l0_0 x4_1) t153 _ ?side1 ?side2 A9.out).mono ?_); (case side1 => repeat (first | exact (Kd.C_below HR152_0.out HB.out) | (with_reducible refine Kd.C_alloc ?_ _) | (with_reducible refine Kd.C_drewN ?_ _) | (with_reducible refine Kd.C_drew ?_))); (case side2 => exact HC152_0.out); rintro e w11 ⟨rfl, hb⟩; refine ⟨_, rfl, ?_⟩; replace BK150 := bl BK150 hb; replace HB := bs HB hb; (try clear hb); (try clear hb2); (try clear hk); (try clear hi)))
      go_roundg k1
      case measure => have := HK1.out; omega
      case rel => exact ⟨(wrap64 (x3_1 + t153)), (wrap64 (x4_1 + 1)), rf, rf, H', ⟨by have := HK1.out; omega⟩, ⟨kk BK150⟩, ⟨bw HB⟩⟩
     rw [if_neg c8] at H
     exact absurd H (by simp)
    rw [if_neg c7] at H
    have c7b0 : decide (x3_1 < 1048576) = false := decide_eq_false c7
    clear c7
    obtain rfl := Option.some.inj H
    obtain ⟨hcz12_0, hcz12_1, hcz12_2, hcz12_3, hfz12_0, hfz12_1, hfz12_2, hfz12_3⟩ := kc4 BK150
    go_wp2
    go_ret
    exact ⟨re, bw HB⟩
   rw [if_neg c6] at H
   have c6b0 : decide (x4_1 < (l0_0.length : Int)) = false := decide_eq_false c6
   clear c6
   obtain rfl := Option.some.inj H
   obtain ⟨hcz13_0, hcz13_1, hcz13_2, hcz13_3, hfz13_0, hfz13_1, hfz13_2, hfz13_3⟩ := kc4 BK150
   go_wp2
   go_ret
   exact ⟨re, bw HB⟩
end Go.Proofs.Ytonoaflfobajcaa.L
end
