/- Part 8 of the proof that for every argument the laws TreeBegins, TreeChains, TreeForks and TreeMixed answer true: where all is written behind the begin, each into the last one, some behind the same elements, or here and there, the order is the page's, by rows made here; the cards tie the two tables of unicode/utf8 that are laid -/
import Derived.Test.YtdahgnalojekdaaDoorZTO7
section
namespace Go.Proofs.YtdahgnalojekdaaDoor.L
open Go.RowKit Go.Proofs.YtdahgnalojekdaaDoorW.PrintWords Go.Proofs.YtdahgnalojekdaaDoorW.PrintLast Go.Proofs.YtdahgnalojekdaaDoorW.PrintMore
attribute [local go_sem] max2_int min2_int max_two min_two max_three min_three max_four min_four
set_option linter.unusedVariables false
set_option linter.unusedSimpArgs false
mutual
def lectionaryref4_Goes.j0 : Nat → List (SOp) → Bool → Int → Int → Int → Int → Int → Int → ByteArray → List (SElem) → Int → Int → Int → Option (Bool)
 | 0, _, _, _, _, _, _, _, _, _, _, _, _, _ => none
 | k + 1, x0, x25, x205000, x205001, x205002, x205003, x205004, x205005, x205006, x205007, x205008, x205009, x205010 => if x25 = true then (some false) else (lectionaryref4_Goes.l0 k x0 0 x205000 x205001 x205002 x205003 x205004 x205005 x205006 x205007 x205008 x205009 x205010)
def lectionaryref4_Goes.l0 : Nat → List (SOp) → Int → Int → Int → Int → Int → Int → Int → ByteArray → List (SElem) → Int → Int → Int → Option (Bool)
 | 0, _, _, _, _, _, _, _, _, _, _, _, _, _ => none
 | k + 1, x0, x5, x205000, x205001, x205002, x205003, x205004, x205005, x205006, x205007, x205008, x205009, x205010 => if x5 < (x205007.length : Int) then (if 0 ≤ x5 then ((lectionaryref4_written.f k x0 ((rd_Elem x205007 x5).f0) ((rd_Elem x205007 x5).f1) ((rd_Elem x205007 x5).f2)).bind fun t209 => (if t209 = true then (lectionaryref4_Goes.l0 k x0 (wrap64 (x5 + 1)) x205000 x205001 x205002 x205003 x205004 x205005 x205006 x205007 x205008 x205009 x205010) else (some false))) else (none)) else (if x205002 = 1 then (some true) else ((lectionaryref4_Edit.f k x0 x205008 x205009).bind fun t210 => (some t210)))
end
def lectionaryref4_Goes.f (k : Nat) (l0 : List (SOp)) (a1_0 : Int) (a1_1 : Int) (a1_2 : Int) (a1_3 : Int) (a1_4 : Int) (a1_5 : Int) (a1_6 : ByteArray) (l1_7 : List (SElem)) (a1_8 : Int) (a1_9 : Int) (a1_10 : Int) : Option (Bool) := (lectionaryref4_Op.f k a1_0 a1_1 a1_2 a1_3 a1_4 a1_5 a1_6 l1_7 a1_8 a1_9 a1_10).bind fun t205 => (if t205 = true then ((lectionaryref4_Many.f k l0 a1_0).bind fun t206 => (if a1_1 = (wrap64 (t206 + 1)) then ((lectionaryref4_written.f k l0 a1_3 a1_4 a1_5).bind fun t207 => (lectionaryref4_Goes.j0 k l0 (!t207) a1_0 a1_1 a1_2 a1_3 a1_4 a1_5 a1_6 l1_7 a1_8 a1_9 a1_10)) else (lectionaryref4_Goes.j0 k l0 true a1_0 a1_1 a1_2 a1_3 a1_4 a1_5 a1_6 l1_7 a1_8 a1_9 a1_10))) else (lectionaryref4_Goes.j0 k l0 true a1_0 a1_1 a1_2 a1_3 a1_4 a1_5 a1_6 l1_7 a1_8 a1_9 a1_10))
def lectionaryref4_Goes.T1 : Bool × List (List Nat × List Nat) := (true, [([], []), ([0], [0]), ([1], [1]), ([2, 1], [2]), ([3], [3]), ([4, 3], [3, 4]), ([3], [3]), ([3], [3]), ([7, 3], [3, 7]), ([6, 8, 3, 3], [3, 6, 8]), ([9, 3], [3, 9]), ([5, 10, 3], [3, 5, 10]), ([3, 11], [3, 11]), ([12, 9], [12]), ([13], [13]), ([13], [13]), ([15, 13], [13, 15]), ([14, 16, 13, 13], [13, 14, 16]), ([17, 13], [13, 17]), ([13, 18], [13, 18])])
def lectionaryref4_Goes.B1 : List Nat := [0, 1, 3, 7, 15, 31, 15, 15, 143, 463, 975, 2047, 4095, 8191, 16383, 16383, 49151, 131071, 262143, 524287]
theorem lectionaryref4_Goes.tab1 : rtab .any (opsOf Tryd.f72 1) = lectionaryref4_Goes.T1 := by kernel_rfl
theorem lectionaryref4_Goes.bits1 : waitsOk lectionaryref4_Goes.T1.2 lectionaryref4_Goes.B1 = true := by kernel_rfl
set_option maxHeartbeats 8000000 in
set_option maxRecDepth 100000 in
theorem lectionaryref4_Goes.calls (k : Nat) (A0 : Option Addr) (c0 : Nat) (l0 : List (SOp)) (a1_0 : Int) (a1_1 : Int) (a1_2 : Int) (a1_3 : Int) (a1_4 : Int) (a1_5 : Int) (a1_6 : ByteArray) (A1_7 : Option Addr) (c1_7 : Nat) (l1_7 : List (SElem)) (a1_8 : Int) (a1_9 : Int) (a1_10 : Int) (r : Bool) (w : World) (hr0 : Kd.C kOp w A0 l0.length l0) (hc0 : l0.length ≤ c0) (hr1_7 : Kd.C kElem w A1_7 l1_7.length l1_7) (hc1_7 : l1_7.length ≤ c1_7) (hT : GT w) (h : lectionaryref4_Goes.f k l0 a1_0 a1_1 a1_2 a1_3 a1_4 a1_5 a1_6 l1_7 a1_8 a1_9 a1_10 = some r) :
  Calls Tryd.prog 72 #[.slice A0 l0.length c0, .agg #[.int .i64 a1_0, .int .i64 a1_1, .int .i64 a1_2, .int .i64 a1_3, .int .i64 a1_4, .int .i64 a1_5, .string a1_6, .slice A1_7 l1_7.length c1_7, .int .i64 a1_8, .int .i64 a1_9, .int .i64 a1_10]] w fun e w' => e = .returned (.bool r) ∧ Below w.heap.size w w' := by
 have hu31 := Tryd.underlying31
 have hu29 := Tryd.underlying29
 have HR0 := Aside0.mk hr0
 have HC0 := Aside0.mk hc0
 clear hr0 hc0
 have HR1_7 := Aside0.mk hr1_7
 have HC1_7 := Aside0.mk hc1_7
 clear hr1_7 hc1_7
 have HB := Aside0.mk (Below.refl w.heap.size w)
 have H : ((lectionaryref4_Op.f k a1_0 a1_1 a1_2 a1_3 a1_4 a1_5 a1_6 l1_7 a1_8 a1_9 a1_10).bind fun t205 => (if t205 = true then ((lectionaryref4_Many.f k l0 a1_0).bind fun t206 => (if a1_1 = (wrap64 (t206 + 1)) then ((lectionaryref4_written.f k l0 a1_3 a1_4 a1_5).bind fun t207 => (lectionaryref4_Goes.j0 k l0 (!t207) a1_0 a1_1 a1_2 a1_3 a1_4 a1_5 a1_6 l1_7 a1_8 a1_9 a1_10)) else (lectionaryref4_Goes.j0 k l0 true a1_0 a1_1 a1_2 a1_3 a1_4 a1_5 a1_6 l1_7 a1_8 a1_9 a1_10))) else (lectionaryref4_Goes.j0 k l0 true a1_0 a1_1 a1_2 a1_3 a1_4 a1_5 a1_6 l1_7 a1_8 a1_9 a1_10))) = some r := h
 clear h
 have HC3 := Aside0.mk H
 clear H
 go_enter Tryd.func72, Tryd.ntmps72
 go_upto_region 1 with (first | ((with_reducible refine gate_dst (N := 3) rfl ?_); refine bx 3 #[.int .i64 a1_0, .int .i64 a1_1, .int .i64 a1_2, .int .i64 a1_3, .int .i64 a1_4, .int .i64 a1_5, .string a1_6, .slice A1_7 l1_7.length c1_7, .int .i64 a1_8, .int .i64 a1_9, .int .i64 a1_10] 31 (h := ?_); intro gb204 hg w4 hbox hb; have BK204 := Aside0.mk (hbox); have GW204 := bz HB hg; have GE204 := bz HB hg; replace HB := bs HB hb; clear hb hbox hg))
 (try simp only [Act.put, List.setIfInBounds_toArray, List.set_cons_zero, List.set_cons_succ])
 go_cut [25] (fun v25 wc => ∃ (kq : Nat) (x25_2 : Bool), v25 = .bool x25_2 ∧ Aside0 (lectionaryref4_Goes.j0 kq l0 x25_2 a1_0 a1_1 a1_2 a1_3 a1_4 a1_5 a1_6 l1_7 a1_8 a1_9 a1_10 = some r) ∧ Aside0 (kq ≤ k) ∧ Aside0 (wc.heap[gb204]? = some (.cells #[.int .i64 a1_0, .int .i64 a1_1, .int .i64 a1_2, .int .i64 a1_3, .int .i64 a1_4, .int .i64 a1_5, .string a1_6, (.slice A1_7 l1_7.length c1_7), .int .i64 a1_8, .int .i64 a1_9, .int .i64 a1_10] 31 (0, 0))) ∧ Aside0 (Below w.heap.size w wc))
 case first =>
  have H := HC3.out
  clear HC3
  replace H := Option.bind_eq_some_iff.mp H
  obtain ⟨t205, A50, H⟩ := H
  replace H : (if t205 = true then ((lectionaryref4_Many.f k l0 a1_0).bind fun t206 => (if a1_1 = (wrap64 (t206 + 1)) then ((lectionaryref4_written.f k l0 a1_3 a1_4 a1_5).bind fun t207 => (lectionaryref4_Goes.j0 k l0 (!t207) a1_0 a1_1 a1_2 a1_3 a1_4 a1_5 a1_6 l1_7 a1_8 a1_9 a1_10)) else (lectionaryref4_Goes.j0 k l0 true a1_0 a1_1 a1_2 a1_3 a1_4 a1_5 a1_6 l1_7 a1_8 a1_9 a1_10))) else (lectionaryref4_Goes.j0 k l0 true a1_0 a1_1 a1_2 a1_3 a1_4 a1_5 a1_6 l1_7 a1_8 a1_9 a1_10)) = some r := H
  have A5 := Aside0.mk A50
  clear A50
  by_cases c6 : t205 = true
  ·subst c6
   have H1 : ((lectionaryref4_Many.f k l0 a1_0).bind fun t206 => (if a1_1 = (wrap64 (t206 + 1)) then ((lectionaryref4_written.f k l0 a1_3 a1_4 a1_5).bind fun t207 => (lectionaryref4_Goes.j0 k l0 (!t207) a1_0 a1_1 a1_2 a1_3 a1_4 a1_5 a1_6 l1_7 a1_8 a1_9 a1_10)) else (lectionaryref4_Goes.j0 k l0 true a1_0 a1_1 a1_2 a1_3 a1_4 a1_5 a1_6 l1_7 a1_8 a1_9 a1_10))) = some r := by rw [if_pos rfl] at H; exact H
   clear H
   have H := H1
   clear H1
   replace H := Option.bind_eq_some_iff.mp H
   obtain ⟨t206, A70, H⟩ := H
   replace H : (if a1_1 = (wrap64 (t206 + 1)) then ((lectionaryref4_written.f k l0 a1_3 a1_4 a1_5).bind fun t207 => (lectionaryref4_Goes.j0 k l0 (!t207) a1_0 a1_1 a1_2 a1_3 a1_4 a1_5 a1_6 l1_7 a1_8 a1_9 a1_10)) else (lectionaryref4_Goes.j0 k l0 true a1_0 a1_1 a1_2 a1_3 a1_4 a1_5 a1_6 l1_7 a1_8 a1_9 a1_10)) = some r := H
   have A7 := Aside0.mk A70
   clear A70
   by_cases c8 : a1_1 = (wrap64 (t206 + 1))
   ·rw [if_pos c8] at H
    have c8b0 : (a1_1 == (wrap64 (t206 + 1))) = true := beq_iff_eq.mpr c8
    have c8b1 : (a1_1 != (wrap64 (t206 + 1))) = false := bne_eq_false_iff_eq.mpr c8
    clear c8
    (first | rw [c8b0] | (simp only [i64_w, i32_w]; rw [c8b0]) | skip)
    replace H := Option.bind_eq_some_iff.mp H
    obtain ⟨t207, A90, H⟩ := H
    replace H : (lectionaryref4_Goes.j0 k l0 (!t207) a1_0 a1_1 a1_2 a1_3 a1_4 a1_5 a1_6 l1_7 a1_8 a1_9 a1_10) = some r := H
    have A9 := Aside0.mk A90
    clear A90
    have H' := Aside0.mk H
    clear H
    try go_wp2
    have n0_ := Aside0.mk (blk_drew BK204.out)
    have n1_ := Aside0.mk (below_drew1 HB.out)
    clear BK204
    clear HB
    have BK204 := n0_
    have HB := n1_
    clear n0_ n1_
    refine stP (fun w' => E11 w' gb204 (.int .i64 a1_0) (.int .i64 a1_1) (.int .i64 a1_2) (.int .i64 a1_3) (.int .i64 a1_4) (.int .i64 a1_5) (.string a1_6) (.slice A1_7 l1_7.length c1_7) (.int .i64 a1_8) (.int .i64 a1_9) (.int .i64 a1_10)) 20 (e11 BK204) (h := fun hHeld => ?_); refine with_tabW lectionaryref4_Goes.tab1 lectionaryref4_Goes.bits1 (fun HT_ HW_ => ?_)
    generalize w4.drew = w10 at BK204 HB hHeld ⊢
    refine tk HT_ HW_ hHeld 0 6 1 (h := ?_)
    refine on HT_ 1 (some 7) 3 (h := fun K hK => ?_)
    refine gS Tryd.func57 #[.agg #[.int .i64 a1_0, .int .i64 a1_1, .int .i64 a1_2, .int .i64 a1_3, .int .i64 a1_4, .int .i64 a1_5, .string a1_6, .slice A1_7 l1_7.length c1_7, .int .i64 a1_8, .int .i64 a1_9, .int .i64 a1_10]] (h := ?_)
    with_reducible refine (lectionaryref4_Op.calls k a1_0 a1_1 a1_2 a1_3 a1_4 a1_5 a1_6 _ _ l1_7 a1_8 a1_9 a1_10 true _ ?side1 ?side2 ?side3 A5.out).mono ?_
    (case side1 => repeat (first | exact (Kd.C_below HR1_7.out HB.out) | (with_reducible refine Kd.C_alloc ?_ _) | (with_reducible refine Kd.C_drewN ?_ _) | (with_reducible refine Kd.C_drew ?_)))
    (case side2 => exact HC1_7.out)
    (case side3 => exact (hT.below (bw HB)))
    rintro e w11 ⟨rfl, hb⟩
    refine ⟨_, rfl, ?_⟩
    have n0_ := bl BK204 hb
    have n1_ := bs HB hb
    clear BK204
    clear HB
    have BK204 := n0_
    have HB := n1_
    clear n0_ n1_
    (try clear hb)
    (try clear hb2)
    (try clear hk)
    (try clear hi)
    refine hK.out _ _ (e11 BK204) (fun hHeld => ?_)
    clear hK K
    refine nm (h := ?_)
    refine pu HT_ 2 8 7 (h := ?_)
    refine pu HT_ 3 9 15 (h := ?_)
    refine pu HT_ 4 10 31 (h := ?_)
    refine pu HT_ 6 12 95 (h := ?_)
    refine pu HT_ 7 13 223 (h := ?_)
    refine tk HT_ HW_ hHeld 5 11 255 (h := ?_)
    refine tk HT_ HW_ hHeld 8 14 511 (h := ?_)
    refine on HT_ 9 (some 15) 1023 (h := fun K hK => ?_)
    refine gS Tryd.func84 #[.slice A0 l0.length c0, .int .i64 a1_0] (h := ?_)
    with_reducible refine (lectionaryref4_Many.calls k _ _ l0 a1_0 t206 _ ?side1 ?side2 A7.out).mono ?_
    (case side1 => repeat (first | exact (Kd.C_below HR0.out HB.out) | (with_reducible refine Kd.C_alloc ?_ _) | (with_reducible refine Kd.C_drewN ?_ _) | (with_reducible refine Kd.C_drew ?_)))
    (case side2 => exact HC0.out)
    rintro e w' ⟨rfl, ⟨nd, rfl⟩⟩
    refine ⟨_, rfl, ?_⟩
    refine hK.out _ _ (e11 BK204) (fun hHeld => ?_)
    clear hK K
    refine nm (h := ?_)
    refine pu HT_ 10 16 2047 (h := ?_)
    refine pu HT_ 11 17 4095 (h := ?_)
    refine pu HT_ 12 18 8191 (h := ?_)
    refine pu HT_ 13 19 16383 (h := ?_)
    refine pu HT_ 14 20 32767 (h := ?_)
    refine pu HT_ 15 21 65535 (h := ?_)
    refine tk HT_ HW_ hHeld 16 22 131071 (h := ?_)
    refine on HT_ 17 (some 23) 262143 (h := fun K hK => ?_)
    refine gS Tryd.func82 #[.slice A0 l0.length c0, .agg #[.int .i64 a1_3, .int .i64 a1_4, .int .i64 a1_5]] (h := ?_)
    with_reducible refine (lectionaryref4_written.calls k _ _ l0 a1_3 a1_4 a1_5 t207 _ ?side1 ?side2 ?side3 A9.out).mono ?_
    (case side1 => repeat (first | exact (Kd.C_below HR0.out (bw HB)) | (with_reducible refine Kd.C_alloc ?_ _) | (with_reducible refine Kd.C_drewN ?_ _) | (with_reducible refine Kd.C_drew ?_)))
    (case side2 => exact HC0.out)
    (case side3 => exact (hT.below (bw HB)))
    rintro e w12 ⟨rfl, hb⟩
    refine ⟨_, rfl, ?_⟩
    have n0_ := bl BK204 hb
    have n1_ := bs HB hb
    clear BK204
    clear HB
    have BK204 := n0_
    have HB := n1_
    clear n0_ n1_
    (try clear hb)
    (try clear hb2)
    (try clear hk)
    (try clear hi)
    refine hK.out _ _ (e11 BK204) (fun hHeld => ?_)
    clear hK K
    refine nm (h := ?_)
    refine pu HT_ 18 24 524287 (h := ?_)
    refine pu HT_ 19 25 1048575 (h := ?_)
    refine dn HT_ (h := ?_)
    try go_wp2
    go_meet
    case rel => exact ⟨_, (!t207), rf, H', ⟨by first | omega | exact Nat.le_refl _⟩, ⟨kk BK204⟩, ⟨bw HB⟩⟩
   rw [if_neg c8] at H
   have c8b0 : (a1_1 == (wrap64 (t206 + 1))) = false := beq_eq_false_iff_ne.mpr c8
   have c8b1 : (a1_1 != (wrap64 (t206 + 1))) = true := bne_iff_ne.mpr c8
   (first | rw [c8b0] | (simp only [i64_w, i32_w]; rw [c8b0]) | skip)
   have H' := Aside0.mk H
   clear H
   try go_wp2
   have n0_ := Aside0.mk (blk_drew BK204.out)
   have n1_ := Aside0.mk (below_drew1 HB.out)
   clear BK204
   clear HB
   have BK204 := n0_
   have HB := n1_
   clear n0_ n1_
   refine stP (fun w' => E11 w' gb204 (.int .i64 a1_0) (.int .i64 a1_1) (.int .i64 a1_2) (.int .i64 a1_3) (.int .i64 a1_4) (.int .i64 a1_5) (.string a1_6) (.slice A1_7 l1_7.length c1_7) (.int .i64 a1_8) (.int .i64 a1_9) (.int .i64 a1_10)) 20 (e11 BK204) (h := fun hHeld => ?_); refine with_tabW lectionaryref4_Goes.tab1 lectionaryref4_Goes.bits1 (fun HT_ HW_ => ?_)
   generalize w4.drew = w13 at BK204 HB hHeld ⊢
   refine tk HT_ HW_ hHeld 0 6 1 (h := ?_)
   refine on HT_ 1 (some 7) 3 (h := fun K hK => ?_)
   refine gS Tryd.func57 #[.agg #[.int .i64 a1_0, .int .i64 a1_1, .int .i64 a1_2, .int .i64 a1_3, .int .i64 a1_4, .int .i64 a1_5, .string a1_6, .slice A1_7 l1_7.length c1_7, .int .i64 a1_8, .int .i64 a1_9, .int .i64 a1_10]] (h := ?_)
   with_reducible refine (lectionaryref4_Op.calls k a1_0 a1_1 a1_2 a1_3 a1_4 a1_5 a1_6 _ _ l1_7 a1_8 a1_9 a1_10 true _ ?side1 ?side2 ?side3 A5.out).mono ?_
   (case side1 => repeat (first | exact (Kd.C_below HR1_7.out HB.out) | (with_reducible refine Kd.C_alloc ?_ _) | (with_reducible refine Kd.C_drewN ?_ _) | (with_reducible refine Kd.C_drew ?_)))
   (case side2 => exact HC1_7.out)
   (case side3 => exact (hT.below (bw HB)))
   rintro e w14 ⟨rfl, hb⟩
   refine ⟨_, rfl, ?_⟩
   have n0_ := bl BK204 hb
   have n1_ := bs HB hb
   clear BK204
   clear HB
   have BK204 := n0_
   have HB := n1_
   clear n0_ n1_
   (try clear hb)
   (try clear hb2)
   (try clear hk)
   (try clear hi)
   refine hK.out _ _ (e11 BK204) (fun hHeld => ?_)
   clear hK K
   refine nm (h := ?_)
   refine pu HT_ 2 8 7 (h := ?_)
   refine pu HT_ 3 9 15 (h := ?_)
   refine pu HT_ 4 10 31 (h := ?_)
   refine pu HT_ 6 12 95 (h := ?_)
   refine pu HT_ 7 13 223 (h := ?_)
   refine tk HT_ HW_ hHeld 5 11 255 (h := ?_)
   refine tk HT_ HW_ hHeld 8 14 511 (h := ?_)
   refine on HT_ 9 (some 15) 1023 (h := fun K hK => ?_)
   refine gS Tryd.func84 #[.slice A0 l0.length c0, .int .i64 a1_0] (h := ?_)
   with_reducible refine (lectionaryref4_Many.calls k _ _ l0 a1_0 t206 _ ?side1 ?side2 A7.out).mono ?_
   (case side1 => repeat (first | exact (Kd.C_below HR0.out HB.out) | (with_reducible refine Kd.C_alloc ?_ _) | (with_reducible refine Kd.C_drewN ?_ _) | (with_reducible refine Kd.C_drew ?_)))
   (case side2 => exact HC0.out)
   rintro e w' ⟨rfl, ⟨nd, rfl⟩⟩
   refine ⟨_, rfl, ?_⟩
   refine hK.out _ _ (e11 BK204) (fun hHeld => ?_)
   clear hK K
   refine nm (h := ?_)
   refine pu HT_ 10 16 2047 (h := ?_)
   refine pu HT_ 11 17 4095 (h := ?_)
   refine pu HT_ 12 18 8191 (h := ?_)
   refine pu HT_ 13 19 16383 (h := ?_)
   refine off HT_ 14 20 32767 (h := ?_)
   refine off HT_ 15 21 65535 (h := ?_)
   refine off HT_ 16 22 131071 (h := ?_)
   refine off HT_ 17 23 262143 (h := ?_)
   refine off HT_ 18 24 524287 (h := ?_)
   refine pu HT_ 19 25 1048575 (h := ?_)
   refine dn HT_ (h := ?_)
   try go_wp2
   go_meet
   case rel => exact ⟨_, (true), rf, H', ⟨by first | omega | exact Nat.le_refl _⟩, ⟨kk BK204⟩, ⟨bw HB⟩⟩
  replace c6 := Bool.eq_false_iff.mpr c6
  subst c6
  have H1 : (lectionaryref4_Goes.j0 k l0 true a1_0 a1_1 a1_2 a1_3 a1_4 a1_5 a1_6 l1_7 a1_8 a1_9 a1_10) = some r := by rw [if_neg (show ¬ (false = true) by decide)] at H; exact H
  clear H
  have H := H1
  clear H1
  have H' := Aside0.mk H
  clear H
  try go_wp2
  have n0_ := Aside0.mk (blk_drew BK204.out)
  have n1_ := Aside0.mk (below_drew1 HB.out)
  clear BK204
  clear HB
  have BK204 := n0_
  have HB := n1_
  clear n0_ n1_
  refine stP (fun w' => E11 w' gb204 (.int .i64 a1_0) (.int .i64 a1_1) (.int .i64 a1_2) (.int .i64 a1_3) (.int .i64 a1_4) (.int .i64 a1_5) (.string a1_6) (.slice A1_7 l1_7.length c1_7) (.int .i64 a1_8) (.int .i64 a1_9) (.int .i64 a1_10)) 20 (e11 BK204) (h := fun hHeld => ?_); refine with_tabW lectionaryref4_Goes.tab1 lectionaryref4_Goes.bits1 (fun HT_ HW_ => ?_)
  generalize w4.drew = w15 at BK204 HB hHeld ⊢
  refine tk HT_ HW_ hHeld 0 6 1 (h := ?_)
  refine on HT_ 1 (some 7) 3 (h := fun K hK => ?_)
  refine gS Tryd.func57 #[.agg #[.int .i64 a1_0, .int .i64 a1_1, .int .i64 a1_2, .int .i64 a1_3, .int .i64 a1_4, .int .i64 a1_5, .string a1_6, .slice A1_7 l1_7.length c1_7, .int .i64 a1_8, .int .i64 a1_9, .int .i64 a1_10]] (h := ?_)
  with_reducible refine (lectionaryref4_Op.calls k a1_0 a1_1 a1_2 a1_3 a1_4 a1_5 a1_6 _ _ l1_7 a1_8 a1_9 a1_10 false _ ?side1 ?side2 ?side3 A5.out).mono ?_
  (case side1 => repeat (first | exact (Kd.C_below HR1_7.out HB.out) | (with_reducible refine Kd.C_alloc ?_ _) | (with_reducible refine Kd.C_drewN ?_ _) | (with_reducible refine Kd.C_drew ?_)))
  (case side2 => exact HC1_7.out)
  (case side3 => exact (hT.below (bw HB)))
  rintro e w16 ⟨rfl, hb⟩
  refine ⟨_, rfl, ?_⟩
  have n0_ := bl BK204 hb
  have n1_ := bs HB hb
  clear BK204
  clear HB
  have BK204 := n0_
  have HB := n1_
  clear n0_ n1_
  (try clear hb)
  (try clear hb2)
  (try clear hk)
  (try clear hi)
  refine hK.out _ _ (e11 BK204) (fun hHeld => ?_)
  clear hK K
  refine nm (h := ?_)
  refine pu HT_ 2 8 7 (h := ?_)
  refine pu HT_ 3 9 15 (h := ?_)
  refine off HT_ 4 10 31 (h := ?_)
  refine off HT_ 5 11 63 (h := ?_)
  refine off HT_ 6 12 127 (h := ?_)
  refine off HT_ 7 13 255 (h := ?_)
  refine off HT_ 8 14 511 (h := ?_)
  refine off HT_ 9 15 1023 (h := ?_)
  refine off HT_ 10 16 2047 (h := ?_)
  refine off HT_ 11 17 4095 (h := ?_)
  refine pu HT_ 12 18 8191 (h := ?_)
  refine pu HT_ 13 19 16383 (h := ?_)
  refine off HT_ 14 20 32767 (h := ?_)
  refine off HT_ 15 21 65535 (h := ?_)
  refine off HT_ 16 22 131071 (h := ?_)
  refine off HT_ 17 23 262143 (h := ?_)
  refine off HT_ 18 24 524287 (h := ?_)
  refine pu HT_ 19 25 1048575 (h := ?_)
  refine dn HT_ (h := ?_)
  try go_wp2
  go_meet
  case rel => exact ⟨_, (true), rf, H', ⟨by first | omega | exact Nat.le_refl _⟩, ⟨kk BK204⟩, ⟨bw HB⟩⟩
 case rest =>
  clear HC3
  obtain ⟨kq, x25_2, rfl, HA, HJ2, BK204, HB⟩ := hcut
  cases kq with
  | zero => exact absurd HA.out (by simp [lectionaryref4_Goes.j0])
  | succ kj2 =>
   have H := HA.out
   clear HA
   simp only [lectionaryref4_Goes.j0] at H
   by_cases c17 : x25_2 = true
   ·subst c17
    have H1 : (some false) = some r := by rw [if_pos rfl] at H; exact H
    clear H
    have H := H1
    clear H1
    obtain rfl := Option.some.inj H
    go_wp2
    go_ret
    exact ⟨re, bw HB⟩
   replace c17 := Bool.eq_false_iff.mpr c17
   subst c17
   have H1 : (lectionaryref4_Goes.l0 kj2 l0 0 a1_0 a1_1 a1_2 a1_3 a1_4 a1_5 a1_6 l1_7 a1_8 a1_9 a1_10) = some r := by rw [if_neg (show ¬ (false = true) by decide)] at H; exact H
   clear H
   have H := H1
   clear H1
   have H' := Aside0.mk H
   clear H
   go_wp2
   go_loopg [5] kj2 (fun kq v5 w' => ∃ (x5_2 : Int), v5 = .int .i64 x5_2 ∧ Aside0 (lectionaryref4_Goes.l0 kq l0 x5_2 a1_0 a1_1 a1_2 a1_3 a1_4 a1_5 a1_6 l1_7 a1_8 a1_9 a1_10 = some r) ∧ Aside0 (kq ≤ kj2) ∧ Aside0 (w'.heap[gb204]? = some (.cells #[.int .i64 a1_0, .int .i64 a1_1, .int .i64 a1_2, .int .i64 a1_3, .int .i64 a1_4, .int .i64 a1_5, .string a1_6, (.slice A1_7 l1_7.length c1_7), .int .i64 a1_8, .int .i64 a1_9, .int .i64 a1_10] 31 (0, 0))) ∧ Aside0 (Below w.heap.size w w'))
   case atStart => exact ⟨(0), rf, H', ⟨Nat.le_refl _⟩, ⟨kk BK204⟩, ⟨bw HB⟩⟩
   case round =>
    clear H'
    try clear c17
    obtain ⟨x5_2, rfl, HA, HK2, BK204, HB⟩ := hrel
    cases gk with
    | zero => exact absurd HA.out (by simp [lectionaryref4_Goes.l0])
    | succ k2 =>
     have H := HA.out
     clear HA
     simp only [lectionaryref4_Goes.l0] at H
     by_cases c18 : x5_2 < (l1_7.length : Int)
     ·rw [if_pos c18] at H
      have c18b0 : decide (x5_2 < (l1_7.length : Int)) = true := decide_eq_true c18
      clear c18
      by_cases c19 : 0 ≤ x5_2
      ·rw [if_pos c19] at H
       have c19b0 : decide (0 ≤ x5_2) = true := decide_eq_true c19
       clear c19
       replace H := Option.bind_eq_some_iff.mp H
       obtain ⟨t209, A200, H⟩ := H
       replace H : (if t209 = true then (lectionaryref4_Goes.l0 k2 l0 (wrap64 (x5_2 + 1)) a1_0 a1_1 a1_2 a1_3 a1_4 a1_5 a1_6 l1_7 a1_8 a1_9 a1_10) else (some false)) = some r := H
       have A20 := Aside0.mk A200
       clear A200
       by_cases c21 : t209 = true
       ·subst c21
        have H1 : (lectionaryref4_Goes.l0 k2 l0 (wrap64 (x5_2 + 1)) a1_0 a1_1 a1_2 a1_3 a1_4 a1_5 a1_6 l1_7 a1_8 a1_9 a1_10) = some r := by rw [if_pos rfl] at H; exact H
        clear H
        have H := H1
        clear H1
        have H' := Aside0.mk H
        clear H
        obtain ⟨hcz22_0, hcz22_1, hcz22_2, hcz22_3, hcz22_4, hcz22_5, hcz22_6, hcz22_7, hcz22_8, hcz22_9, hcz22_10, hfz22_0, hfz22_1, hfz22_2, hfz22_3, hfz22_4, hfz22_5, hfz22_6, hfz22_7, hfz22_8, hfz22_9, hfz22_10⟩ := kc11 BK204
        have p208 : 0 ≤ (x5_2 : Int) := of_decide_eq_true (by first | (with_reducible assumption) | assumption)
        have q208 : x5_2 < (l1_7.length : Int) := of_decide_eq_true (by first | (with_reducible assumption) | assumption)
        obtain ⟨ad208, e208, hx208_0, hx208_1, hx208_2⟩ := at_Elem HR1_7.out x5_2 p208 q208
        cases e208
        replace hx208_0 := cl HB hx208_0
        replace hx208_1 := cl HB hx208_1
        replace hx208_2 := cl HB hx208_2
        replace p208 := eq_true p208
        replace q208 := eq_true q208
        go_wp2_with (first | ((with_reducible refine gate_callee (f := 82) rfl ?_); refine gl (some 39) Tryd.func82 #[.slice A0 l0.length c0, .agg #[.int .i64 ((rd_Elem l1_7 x5_2).f0), .int .i64 ((rd_Elem l1_7 x5_2).f1), .int .i64 ((rd_Elem l1_7 x5_2).f2)]] (h := ?_); (with_reducible refine (lectionaryref4_written.calls k2 _ _ l0 ((rd_Elem l1_7 x5_2).f0) ((rd_Elem l1_7 x5_2).f1) ((rd_Elem l1_7 x5_2).f2) true _ ?side1 ?side2 ?side3 A20.out).mono ?_); (case side1 => repeat (first | exact (Kd.C_below HR0.out HB.out) | (with_reducible refine Kd.C_alloc ?_ _) | (with_reducible refine Kd.C_drewN ?_ _) | (with_reducible refine Kd.C_drew ?_))); (case side2 => exact HC0.out); (case side3 => exact (hT.below (bw HB))); rintro e w23 ⟨rfl, hb⟩; refine ⟨_, rfl, ?_⟩; replace BK204 := bl BK204 hb; replace HB := bs HB hb; (try clear hb); (try clear hb2); (try clear hk); (try clear hi)))
        go_roundg k2
        case measure => have := HJ2.out; have := HK2.out; omega
        case rel => exact ⟨(wrap64 (x5_2 + 1)), rf, H', ⟨by have := HJ2.out; have := HK2.out; omega⟩, ⟨kk BK204⟩, ⟨bw HB⟩⟩
       replace c21 := Bool.eq_false_iff.mpr c21
       subst c21
       have H1 : (some false) = some r := by rw [if_neg (show ¬ (false = true) by decide)] at H; exact H
       clear H
       have H := H1
       clear H1
       obtain rfl := Option.some.inj H
       obtain ⟨hcz24_0, hcz24_1, hcz24_2, hcz24_3, hcz24_4, hcz24_5, hcz24_6, hcz24_7, hcz24_8, hcz24_9, hcz24_10, hfz24_0, hfz24_1, hfz24_2, hfz24_3, hfz24_4, hfz24_5, hfz24_6, hfz24_7, hfz24_8, hfz24_9, hfz24_10⟩ := kc11 BK204
       have p208 : 0 ≤ (x5_2 : Int) := of_decide_eq_true (by first | (with_reducible assumption) | assumption)
       have q208 : x5_2 < (l1_7.length : Int) := of_decide_eq_true (by first | (with_reducible assumption) | assumption)
       obtain ⟨ad208, e208, hx208_0, hx208_1, hx208_2⟩ := at_Elem HR1_7.out x5_2 p208 q208
       cases e208
       replace hx208_0 := cl HB hx208_0
       replace hx208_1 := cl HB hx208_1
       replace hx208_2 := cl HB hx208_2
       replace p208 := eq_true p208
       replace q208 := eq_true q208
       go_wp2_with (first | ((with_reducible refine gate_callee (f := 82) rfl ?_); refine gl (some 39) Tryd.func82 #[.slice A0 l0.length c0, .agg #[.int .i64 ((rd_Elem l1_7 x5_2).f0), .int .i64 ((rd_Elem l1_7 x5_2).f1), .int .i64 ((rd_Elem l1_7 x5_2).f2)]] (h := ?_); (with_reducible refine (lectionaryref4_written.calls k2 _ _ l0 ((rd_Elem l1_7 x5_2).f0) ((rd_Elem l1_7 x5_2).f1) ((rd_Elem l1_7 x5_2).f2) false _ ?side1 ?side2 ?side3 A20.out).mono ?_); (case side1 => repeat (first | exact (Kd.C_below HR0.out HB.out) | (with_reducible refine Kd.C_alloc ?_ _) | (with_reducible refine Kd.C_drewN ?_ _) | (with_reducible refine Kd.C_drew ?_))); (case side2 => exact HC0.out); (case side3 => exact (hT.below (bw HB))); rintro e w25 ⟨rfl, hb⟩; refine ⟨_, rfl, ?_⟩; replace BK204 := bl BK204 hb; replace HB := bs HB hb; (try clear hb); (try clear hb2); (try clear hk); (try clear hi)))
       go_ret
       exact ⟨re, bw HB⟩
      rw [if_neg c19] at H
      exact absurd H (by simp)
     rw [if_neg c18] at H
     have c18b0 : decide (x5_2 < (l1_7.length : Int)) = false := decide_eq_false c18
     clear c18
     by_cases c26 : a1_2 = 1
     ·rw [if_pos c26] at H
      have c26b0 : (a1_2 == 1) = true := beq_iff_eq.mpr c26
      have c26b1 : (a1_2 != 1) = false := bne_eq_false_iff_eq.mpr c26
      clear c26
      obtain rfl := Option.some.inj H
      obtain ⟨hcz27_0, hcz27_1, hcz27_2, hcz27_3, hcz27_4, hcz27_5, hcz27_6, hcz27_7, hcz27_8, hcz27_9, hcz27_10, hfz27_0, hfz27_1, hfz27_2, hfz27_3, hfz27_4, hfz27_5, hfz27_6, hfz27_7, hfz27_8, hfz27_9, hfz27_10⟩ := kc11 BK204
      go_wp2
      go_ret
      exact ⟨re, bw HB⟩
     rw [if_neg c26] at H
     have c26b0 : (a1_2 == 1) = false := beq_eq_false_iff_ne.mpr c26
     have c26b1 : (a1_2 != 1) = true := bne_iff_ne.mpr c26
     replace H := Option.bind_eq_some_iff.mp H
     obtain ⟨t210, A280, H⟩ := H
     replace H : (some t210) = some r := H
     have A28 := Aside0.mk A280
     clear A280
     obtain rfl := Option.some.inj H
     obtain ⟨hcz29_0, hcz29_1, hcz29_2, hcz29_3, hcz29_4, hcz29_5, hcz29_6, hcz29_7, hcz29_8, hcz29_9, hcz29_10, hfz29_0, hfz29_1, hfz29_2, hfz29_3, hfz29_4, hfz29_5, hfz29_6, hfz29_7, hfz29_8, hfz29_9, hfz29_10⟩ := kc11 BK204
     go_wp2_with (first | (go_at_call 96; (with_reducible refine (lectionaryref4_Edit.calls k2 _ _ l0 a1_8 a1_9 t210 _ ?side1 ?side2 A28.out).mono ?_); (case side1 => repeat (first | exact (Kd.C_below HR0.out HB.out) | (with_reducible refine Kd.C_alloc ?_ _) | (with_reducible refine Kd.C_drewN ?_ _) | (with_reducible refine Kd.C_drew ?_))); (case side2 => exact HC0.out); rintro e w' ⟨rfl, ⟨nd, rfl⟩⟩))
     go_ret
     exact ⟨re, bw HB⟩
end Go.Proofs.YtdahgnalojekdaaDoor.L
end

section
namespace Go.Proofs.YtdahgnalojekdaaDoor.L
open Go.RowKit Go.Proofs.YtdahgnalojekdaaDoorW.PrintWords Go.Proofs.YtdahgnalojekdaaDoorW.PrintLast Go.Proofs.YtdahgnalojekdaaDoorW.PrintMore
attribute [local go_sem] max2_int min2_int max_two min_two max_three min_three max_four min_four
set_option linter.unusedVariables false
set_option linter.unusedSimpArgs false
def lectionaryref4_Fits.l0 : Nat → List (SOp) → Int → Int → Option (Bool)
 | 0, _, _, _ => none
 | k + 1, x0, x3, x4 => if x4 < (x0.length : Int) then (if x4 ≤ 40 then (if 0 ≤ x4 then ((lectionaryref4_Runes.f k ((rd_Op x0 x4).f0) ((rd_Op x0 x4).f1) ((rd_Op x0 x4).f2) ((rd_Op x0 x4).f3.f0) ((rd_Op x0 x4).f3.f1) ((rd_Op x0 x4).f3.f2) ((rd_Op x0 x4).f4) ((rd_Op x0 x4).f5) ((rd_Op x0 x4).f6) ((rd_Op x0 x4).f7) ((rd_Op x0 x4).f8)).bind fun t212 => (lectionaryref4_Fits.l0 k x0 (wrap64 (x3 + t212)) (wrap64 (x4 + 1)))) else (none)) else (if (x0.length : Int) ≤ 40 then (some (decide (x3 ≤ 200))) else (some false))) else (if (x0.length : Int) ≤ 40 then (some (decide (x3 ≤ 200))) else (some false))
def lectionaryref4_Fits.f (k : Nat) (l0 : List (SOp)) : Option (Bool) := lectionaryref4_Fits.l0 k l0 0 0
set_option maxHeartbeats 8000000 in
set_option maxRecDepth 100000 in
theorem lectionaryref4_Fits.calls (k : Nat) (A0 : Option Addr) (c0 : Nat) (l0 : List (SOp)) (r : Bool) (w : World) (hr0 : Kd.C kOp w A0 l0.length l0) (hc0 : l0.length ≤ c0) (hT : GT w) (h : lectionaryref4_Fits.f k l0 = some r) :
  Calls Tryd.prog 73 #[.slice A0 l0.length c0] w fun e w' => e = .returned (.bool r) ∧ Below w.heap.size w w' := by
 have hu31 := Tryd.underlying31
 have HR0 := Aside0.mk hr0
 have HC0 := Aside0.mk hc0
 clear hr0 hc0
 have HB := Aside0.mk (Below.refl w.heap.size w)
 have H : (lectionaryref4_Fits.l0 k l0 0 0) = some r := h
 clear h
 have H' := Aside0.mk H
 clear H
 go_enter Tryd.func73, Tryd.ntmps73
 go_wp2
 go_loopg [3, 4] k (fun kq v3 v4 w' => ∃ (x3_1 : Int) (x4_1 : Int), v3 = .int .i64 x3_1 ∧ v4 = .int .i64 x4_1 ∧ Aside0 (lectionaryref4_Fits.l0 kq l0 x3_1 x4_1 = some r) ∧ Aside0 (kq ≤ k) ∧ Aside0 (Below w.heap.size w w'))
 case atStart => exact ⟨(0), (0), rf, rf, H', ⟨Nat.le_refl _⟩, ⟨bw HB⟩⟩
 case round =>
  clear H'
  obtain ⟨x3_1, x4_1, rfl, rfl, HA, HK1, HB⟩ := hrel
  cases gk with
  | zero => exact absurd HA.out (by simp [lectionaryref4_Fits.l0])
  | succ k1 =>
   have H := HA.out
   clear HA
   simp only [lectionaryref4_Fits.l0] at H
   by_cases c2 : x4_1 < (l0.length : Int)
   ·rw [if_pos c2] at H
    have c2b0 : decide (x4_1 < (l0.length : Int)) = true := decide_eq_true c2
    clear c2
    by_cases c3 : x4_1 ≤ 40
    ·rw [if_pos c3] at H
     have c3b0 : decide (x4_1 ≤ 40) = true := decide_eq_true c3
     clear c3
     by_cases c4 : 0 ≤ x4_1
     ·rw [if_pos c4] at H
      have c4b0 : decide (0 ≤ x4_1) = true := decide_eq_true c4
      clear c4
      replace H := Option.bind_eq_some_iff.mp H
      obtain ⟨t212, A50, H⟩ := H
      replace H : (lectionaryref4_Fits.l0 k1 l0 (wrap64 (x3_1 + t212)) (wrap64 (x4_1 + 1))) = some r := H
      have A5 := Aside0.mk A50
      clear A50
      have H' := Aside0.mk H
      clear H
      have p211 : 0 ≤ (x4_1 : Int) := of_decide_eq_true (by first | (with_reducible assumption) | assumption)
      have q211 : x4_1 < (l0.length : Int) := of_decide_eq_true (by first | (with_reducible assumption) | assumption)
      obtain ⟨ad211, A211_7, c211_7, e211, hx211_0, hx211_1, hx211_2, hx211_3, hx211_4, hx211_5, hx211_6, hx211_7, hx211_8, hx211_9, hx211_10, hl211_7, hi211_7⟩ := at_Op HR0.out x4_1 p211 q211
      cases e211
      replace hx211_0 := cl HB hx211_0
      replace hx211_1 := cl HB hx211_1
      replace hx211_2 := cl HB hx211_2
      replace hx211_3 := cl HB hx211_3
      replace hx211_4 := cl HB hx211_4
      replace hx211_5 := cl HB hx211_5
      replace hx211_6 := cl HB hx211_6
      replace hx211_7 := cl HB hx211_7
      replace hx211_8 := cl HB hx211_8
      replace hx211_9 := cl HB hx211_9
      replace hx211_10 := cl HB hx211_10
      have HR211_7 := Aside0.mk hi211_7
      have HC211_7 := Aside0.mk hl211_7
      clear hi211_7 hl211_7
      replace p211 := eq_true p211
      replace q211 := eq_true q211
      go_wp2_with (first | ((with_reducible refine gate_callee (f := 116) rfl ?_); refine gl (some 20) Tryd.func116 #[.agg #[.int .i64 ((rd_Op l0 x4_1).f0), .int .i64 ((rd_Op l0 x4_1).f1), .int .i64 ((rd_Op l0 x4_1).f2), .int .i64 ((rd_Op l0 x4_1).f3.f0), .int .i64 ((rd_Op l0 x4_1).f3.f1), .int .i64 ((rd_Op l0 x4_1).f3.f2), .string ((rd_Op l0 x4_1).f4), .slice A211_7 ((rd_Op l0 x4_1).f5).length c211_7, .int .i64 ((rd_Op l0 x4_1).f6), .int .i64 ((rd_Op l0 x4_1).f7), .int .i64 ((rd_Op l0 x4_1).f8)]] (h := ?_); (with_reducible refine (lectionaryref4_Runes.calls k1 ((rd_Op l0 x4_1).f0) ((rd_Op l0 x4_1).f1) ((rd_Op l0 x4_1).f2) ((rd_Op l0 x4_1).f3.f0) ((rd_Op l0 x4_1).f3.f1) ((rd_Op l0 x4_1).f3.f2) ((rd_Op l0 x4_1).f4) _ _ ((rd_Op l0 x4_1).f5) ((rd_Op l0 x4_1).f6) ((rd_Op l0 x4_1).f7) ((rd_Op l0 x4_1).f8) t212 _ ?side1 ?side2 ?side3 A5.out).mono ?_); (case side1 => repeat (first | exact (Kd.C_below HR211_7.out HB.out) | (with_reducible refine Kd.C_alloc ?_ _) | (with_reducible refine Kd.C_drewN ?_ _) | (with_reducible refine Kd.C_drew ?_))); (case side2 => exact HC211_7.out); (case side3 => exact (hT.below (bw HB))); rintro e w6 ⟨rfl, hb⟩; refine ⟨_, rfl, ?_⟩; replace HB := bs HB hb; (try clear hb); (try clear hb2); (try clear hk); (try clear hi)))
      go_roundg k1
      case measure => have := HK1.out; omega
      case rel => exact ⟨(wrap64 (x3_1 + t212)), (wrap64 (x4_1 + 1)), rf, rf, H', ⟨by have := HK1.out; omega⟩, ⟨bw HB⟩⟩
     rw [if_neg c4] at H
     exact absurd H (by simp)
    rw [if_neg c3] at H
    have c3b0 : decide (x4_1 ≤ 40) = false := decide_eq_false c3
    clear c3
    by_cases c7 : (l0.length : Int) ≤ 40
    ·rw [if_pos c7] at H
     have c7b0 : decide ((l0.length : Int) ≤ 40) = true := decide_eq_true c7
     have c7b1 : decide (l0.length ≤ 40) = true := decide_eq_true (by omega)
     clear c7
     obtain rfl := Option.some.inj H
     go_wp2
     go_ret
     exact ⟨re, bw HB⟩
    rw [if_neg c7] at H
    have c7b0 : decide ((l0.length : Int) ≤ 40) = false := decide_eq_false c7
    have c7b1 : decide (l0.length ≤ 40) = false := decide_eq_false (by omega)
    clear c7
    obtain rfl := Option.some.inj H
    go_wp2
    go_ret
    exact ⟨re, bw HB⟩
   rw [if_neg c2] at H
   have c2b0 : decide (x4_1 < (l0.length : Int)) = false := decide_eq_false c2
   clear c2
   by_cases c8 : (l0.length : Int) ≤ 40
   ·rw [if_pos c8] at H
    have c8b0 : decide ((l0.length : Int) ≤ 40) = true := decide_eq_true c8
    have c8b1 : decide (l0.length ≤ 40) = true := decide_eq_true (by omega)
    clear c8
    obtain rfl := Option.some.inj H
    go_wp2
    go_ret
    exact ⟨re, bw HB⟩
   rw [if_neg c8] at H
   have c8b0 : decide ((l0.length : Int) ≤ 40) = false := decide_eq_false c8
   have c8b1 : decide (l0.length ≤ 40) = false := decide_eq_false (by omega)
   clear c8
   obtain rfl := Option.some.inj H
   go_wp2
   go_ret
   exact ⟨re, bw HB⟩
def lectionaryref4_Row.l0 : Nat → List (SOp) → Int → Option (Bool)
 | 0, _, _ => none
 | k + 1, x0, x3 => if x3 < (x0.length : Int) then (if 0 ≤ x3 then (if x3 ≤ (x0.length : Int) then ((lectionaryref4_Goes.f k (x0.take (x3 : Int).toNat) ((rd_Op x0 x3).f0) ((rd_Op x0 x3).f1) ((rd_Op x0 x3).f2) ((rd_Op x0 x3).f3.f0) ((rd_Op x0 x3).f3.f1) ((rd_Op x0 x3).f3.f2) ((rd_Op x0 x3).f4) ((rd_Op x0 x3).f5) ((rd_Op x0 x3).f6) ((rd_Op x0 x3).f7) ((rd_Op x0 x3).f8)).bind fun t218 => (if t218 = true then (lectionaryref4_Row.l0 k x0 (wrap64 (x3 + 1))) else (some false))) else (none)) else (none)) else ((lectionaryref4_Fits.f k x0).bind fun t219 => (some t219))
def lectionaryref4_Row.f (k : Nat) (l0 : List (SOp)) : Option (Bool) := if (l0.length : Int) > 40 then (some false) else (lectionaryref4_Row.l0 k l0 0)
def lectionaryref4_Row.T6 : Bool × List (List Nat × List Nat) := (true, [([], []), ([], []), ([0, 1], [0, 1]), ([], []), ([], []), ([3, 4], [3, 4]), ([5], [5]), ([2, 6], [2, 6]), ([7], [7])])
def lectionaryref4_Row.B6 : List Nat := [0, 0, 3, 0, 0, 24, 56, 127, 255]
theorem lectionaryref4_Row.tab6 : rtab .any (opsOf Tryd.f20 6) = lectionaryref4_Row.T6 := by kernel_rfl
theorem lectionaryref4_Row.bits6 : waitsOk lectionaryref4_Row.T6.2 lectionaryref4_Row.B6 = true := by kernel_rfl
set_option maxHeartbeats 8000000 in
set_option maxRecDepth 100000 in
theorem lectionaryref4_Row.calls (k : Nat) (A0 : Option Addr) (c0 : Nat) (l0 : List (SOp)) (r : Bool) (w : World) (hr0 : Kd.C kOp w A0 l0.length l0) (hc0 : l0.length ≤ c0) (hT : GT w) (h : lectionaryref4_Row.f k l0 = some r) :
  Calls Tryd.prog 20 #[.slice A0 l0.length c0] w fun e w' => e = .returned (.bool r) ∧ Below w.heap.size w w' := by
 have hu31 := Tryd.underlying31
 have HR0 := Aside0.mk hr0
 have HC0 := Aside0.mk hc0
 clear hr0 hc0
 have HB := Aside0.mk (Below.refl w.heap.size w)
 have H : (if (l0.length : Int) > 40 then (some false) else (lectionaryref4_Row.l0 k l0 0)) = some r := h
 clear h
 by_cases c2 : (l0.length : Int) > 40
 ·rw [if_pos c2] at H
  have c2b0 : decide (40 < (l0.length : Int)) = true := decide_eq_true c2
  have c2b1 : decide (40 < l0.length) = true := decide_eq_true (by omega)
  clear c2
  obtain rfl := Option.some.inj H
  go_enter Tryd.func20, Tryd.ntmps20
  go_wp2
  go_ret
  exact ⟨re, bw HB⟩
 rw [if_neg c2] at H
 have c2b0 : decide (40 < (l0.length : Int)) = false := decide_eq_false c2
 have c2b1 : decide (40 < l0.length) = false := decide_eq_false (by omega)
 clear c2
 have H' := Aside0.mk H
 clear H
 go_enter Tryd.func20, Tryd.ntmps20
 go_wp2
 go_loopg [3] k (fun kq v3 w' => ∃ (x3_1 : Int), v3 = .int .i64 x3_1 ∧ Aside0 (lectionaryref4_Row.l0 kq l0 x3_1 = some r) ∧ Aside0 (kq ≤ k) ∧ Aside0 (Below w.heap.size w w'))
 case atStart => exact ⟨(0), rf, H', ⟨Nat.le_refl _⟩, ⟨bw HB⟩⟩
 case round =>
  clear H'
  try clear c2b0; try clear c2b1
  obtain ⟨x3_1, rfl, HA, HK1, HB⟩ := hrel
  cases gk with
  | zero => exact absurd HA.out (by simp [lectionaryref4_Row.l0])
  | succ k1 =>
   have H := HA.out
   clear HA
   simp only [lectionaryref4_Row.l0] at H
   by_cases c3 : x3_1 < (l0.length : Int)
   ·rw [if_pos c3] at H
    have c3b0 : decide (x3_1 < (l0.length : Int)) = true := decide_eq_true c3
    clear c3
    by_cases c4 : 0 ≤ x3_1
    ·rw [if_pos c4] at H
     have c4b0 := eq_true c4
     have c4b1 : decide (0 ≤ x3_1) = true := decide_eq_true c4
     clear c4
     by_cases c5 : x3_1 ≤ (l0.length : Int)
     ·rw [if_pos c5] at H
      have c5b0 := eq_true c5
      have c5b1 : decide (x3_1 ≤ (l0.length : Int)) = true := decide_eq_true c5
      clear c5
      obtain ⟨y213, hy213⟩ : ∃ y_ : List (SOp), y_ = (l0.take (x3_1 : Int).toNat) := ⟨_, rfl⟩
      replace H : ((lectionaryref4_Goes.f k1 y213 ((rd_Op l0 x3_1).f0) ((rd_Op l0 x3_1).f1) ((rd_Op l0 x3_1).f2) ((rd_Op l0 x3_1).f3.f0) ((rd_Op l0 x3_1).f3.f1) ((rd_Op l0 x3_1).f3.f2) ((rd_Op l0 x3_1).f4) ((rd_Op l0 x3_1).f5) ((rd_Op l0 x3_1).f6) ((rd_Op l0 x3_1).f7) ((rd_Op l0 x3_1).f8)).bind fun t218 => (if t218 = true then (lectionaryref4_Row.l0 k1 l0 (wrap64 (x3_1 + 1))) else (some false))) = some r := by first | (rw [hy213]; with_reducible exact H) | (have H2_ := (Option.bind_some _ _).symm.trans H; rw [hy213]; with_reducible exact H2_) | (have H2_ := (Option.bind_some _ _).symm.trans H; with_reducible exact H2_) | with_reducible exact H | (rw [hy213]; exact H) | exact H
      have Ny213 := Aside0.mk hy213
      clear hy213
      replace H := Option.bind_eq_some_iff.mp H
      obtain ⟨t218, A60, H⟩ := H
      replace H : (if t218 = true then (lectionaryref4_Row.l0 k1 l0 (wrap64 (x3_1 + 1))) else (some false)) = some r := H
      have A6 := Aside0.mk A60
      clear A60
      by_cases c7 : t218 = true
      ·subst c7
       have H1 : (lectionaryref4_Row.l0 k1 l0 (wrap64 (x3_1 + 1))) = some r := by rw [if_pos rfl] at H; exact H
       clear H
       have H := H1
       clear H1
       have H' := Aside0.mk H
       clear H
       try go_wp2
       have n0_ := Aside0.mk (below_drew1 HB.out)
       clear HB
       have HB := n0_
       clear n0_
       have q9 : (x3_1 : Int) ≤ ((l0.length : Int) : Int) := of_decide_eq_true (by first | (with_reducible assumption) | assumption)
       obtain ⟨i09, hi09, _, hsz9, _⟩ := info_parts info31
       have hroom9 : l0.length ≤ c0 := HC0.out
       have hC9 : Kd.C kOp _ A0 l0.length l0 := HR0.out
       have hcut9 := cut_to (P := Tryd.prog) 24 31 .i64 Tryd.underlying24 hi09 A0 l0.length c0 x3_1 (of_decide_eq_true (by first | (with_reducible assumption) | assumption)) q9 hroom9
       have hr9 := Kd.C_take (m := (x3_1 : Int).toNat) hC9 (by omega)
       have hy9 : y213.length = (x3_1 : Int).toNat := (by rw [Ny213.out, List.length_take]; omega)
       rw [← Ny213.out] at hr9
       rw [← hy9] at hcut9
       have HR216 := Aside0.mk hr9
       have HC216 := Aside0.mk (show y213.length ≤ c0 from by omega)
       clear hr9 hC9 hroom9 hi09 hsz9
       have KY9 := Aside0.mk hy9
       clear hy9
       replace q9 := eq_true q9
       have p217 : 0 ≤ (x3_1 : Int) := of_decide_eq_true (by first | (with_reducible assumption) | assumption)
       have q217 : x3_1 < (l0.length : Int) := of_decide_eq_true (by first | (with_reducible assumption) | assumption)
       obtain ⟨ad217, A217_7, c217_7, e217, hx217_0, hx217_1, hx217_2, hx217_3, hx217_4, hx217_5, hx217_6, hx217_7, hx217_8, hx217_9, hx217_10, hl217_7, hi217_7⟩ := at_Op HR0.out x3_1 p217 q217
       have hw217_10 := hx217_10
       have hw217_9 := hx217_9
       have hw217_8 := hx217_8
       have hw217_7 := hx217_7
       have hw217_6 := hx217_6
       have hw217_5 := hx217_5
       have hw217_4 := hx217_4
       have hw217_3 := hx217_3
       have hw217_2 := hx217_2
       have hw217_1 := hx217_1
       have hw217_0 := hx217_0
       cases e217
       replace hx217_0 := cl HB hx217_0
       replace hx217_1 := cl HB hx217_1
       replace hx217_2 := cl HB hx217_2
       replace hx217_3 := cl HB hx217_3
       replace hx217_4 := cl HB hx217_4
       replace hx217_5 := cl HB hx217_5
       replace hx217_6 := cl HB hx217_6
       replace hx217_7 := cl HB hx217_7
       replace hx217_8 := cl HB hx217_8
       replace hx217_9 := cl HB hx217_9
       replace hx217_10 := cl HB hx217_10
       have HR217_7 := Aside0.mk hi217_7
       have HC217_7 := Aside0.mk hl217_7
       clear hi217_7 hl217_7
       replace p217 := eq_true p217
       replace q217 := eq_true q217
       refine stP (fun w' => w'.cell? (ad217.add ((x3_1).toNat * 11)) = some (.int .i64 ((rd_Op l0 x3_1).f0)) ∧ w'.cell? ⟨(ad217.add ((x3_1).toNat * 11)).block, (ad217.add ((x3_1).toNat * 11)).off + 1, none⟩ = some (.int .i64 ((rd_Op l0 x3_1).f1)) ∧ w'.cell? ⟨(ad217.add ((x3_1).toNat * 11)).block, (ad217.add ((x3_1).toNat * 11)).off + 2, none⟩ = some (.int .i64 ((rd_Op l0 x3_1).f2)) ∧ w'.cell? ⟨(ad217.add ((x3_1).toNat * 11)).block, (ad217.add ((x3_1).toNat * 11)).off + 3, none⟩ = some (.int .i64 ((rd_Op l0 x3_1).f3.f0)) ∧ w'.cell? ⟨(ad217.add ((x3_1).toNat * 11)).block, (ad217.add ((x3_1).toNat * 11)).off + 4, none⟩ = some (.int .i64 ((rd_Op l0 x3_1).f3.f1)) ∧ w'.cell? ⟨(ad217.add ((x3_1).toNat * 11)).block, (ad217.add ((x3_1).toNat * 11)).off + 5, none⟩ = some (.int .i64 ((rd_Op l0 x3_1).f3.f2)) ∧ w'.cell? ⟨(ad217.add ((x3_1).toNat * 11)).block, (ad217.add ((x3_1).toNat * 11)).off + 6, none⟩ = some (.string ((rd_Op l0 x3_1).f4)) ∧ w'.cell? ⟨(ad217.add ((x3_1).toNat * 11)).block, (ad217.add ((x3_1).toNat * 11)).off + 7, none⟩ = some (.slice A217_7 ((rd_Op l0 x3_1).f5).length c217_7) ∧ w'.cell? ⟨(ad217.add ((x3_1).toNat * 11)).block, (ad217.add ((x3_1).toNat * 11)).off + 8, none⟩ = some (.int .i64 ((rd_Op l0 x3_1).f6)) ∧ w'.cell? ⟨(ad217.add ((x3_1).toNat * 11)).block, (ad217.add ((x3_1).toNat * 11)).off + 9, none⟩ = some (.int .i64 ((rd_Op l0 x3_1).f7)) ∧ w'.cell? ⟨(ad217.add ((x3_1).toNat * 11)).block, (ad217.add ((x3_1).toNat * 11)).off + 10, none⟩ = some (.int .i64 ((rd_Op l0 x3_1).f8))) 9 ⟨(cl HB hw217_0), (cl HB hw217_1), (cl HB hw217_2), (cl HB hw217_3), (cl HB hw217_4), (cl HB hw217_5), (cl HB hw217_6), (cl HB hw217_7), (cl HB hw217_8), (cl HB hw217_9), (cl HB hw217_10)⟩ (h := fun hHeld => ?_); refine with_tabW lectionaryref4_Row.tab6 lectionaryref4_Row.bits6 (fun HT_ HW_ => ?_)
       generalize wr.drew = w8 at HB HR216 HR217_7 hx217_0 hx217_1 hx217_10 hx217_2 hx217_3 hx217_4 hx217_5 hx217_6 hx217_7 hx217_8 hx217_9 hHeld ⊢
       refine pu HT_ 0 13 1 (h := ?_)
       refine pu HT_ 1 14 3 (h := ?_)
       refine pu HT_ 2 15 7 (h := ?_)
       refine pu HT_ 3 16 15 (h := ?_)
       refine pu HT_ 4 17 31 (h := ?_)
       refine pu HT_ 5 18 63 (h := ?_)
       refine tk HT_ HW_ hHeld 6 19 127 (h := ?_)
       refine on HT_ 7 (some 20) 255 (h := fun K hK => ?_)
       refine gS Tryd.func72 #[.slice (some ad217) y213.length c0, .agg #[.int .i64 ((rd_Op l0 x3_1).f0), .int .i64 ((rd_Op l0 x3_1).f1), .int .i64 ((rd_Op l0 x3_1).f2), .int .i64 ((rd_Op l0 x3_1).f3.f0), .int .i64 ((rd_Op l0 x3_1).f3.f1), .int .i64 ((rd_Op l0 x3_1).f3.f2), .string ((rd_Op l0 x3_1).f4), .slice A217_7 ((rd_Op l0 x3_1).f5).length c217_7, .int .i64 ((rd_Op l0 x3_1).f6), .int .i64 ((rd_Op l0 x3_1).f7), .int .i64 ((rd_Op l0 x3_1).f8)]] (h := ?_)
       with_reducible refine (lectionaryref4_Goes.calls k1 _ _ y213 ((rd_Op l0 x3_1).f0) ((rd_Op l0 x3_1).f1) ((rd_Op l0 x3_1).f2) ((rd_Op l0 x3_1).f3.f0) ((rd_Op l0 x3_1).f3.f1) ((rd_Op l0 x3_1).f3.f2) ((rd_Op l0 x3_1).f4) _ _ ((rd_Op l0 x3_1).f5) ((rd_Op l0 x3_1).f6) ((rd_Op l0 x3_1).f7) ((rd_Op l0 x3_1).f8) true _ ?side1 ?side2 ?side3 ?side4 ?side5 A6.out).mono ?_
       (case side1 => repeat (first | exact (Kd.C_below HR216.out HB.out) | (with_reducible refine Kd.C_alloc ?_ _) | (with_reducible refine Kd.C_drewN ?_ _) | (with_reducible refine Kd.C_drew ?_)))
       (case side2 => exact HC216.out)
       (case side3 => repeat (first | exact (Kd.C_below HR217_7.out HB.out) | (with_reducible refine Kd.C_alloc ?_ _) | (with_reducible refine Kd.C_drewN ?_ _) | (with_reducible refine Kd.C_drew ?_)))
       (case side4 => exact HC217_7.out)
       (case side5 => exact (hT.below (bw HB)))
       rintro e w10 ⟨rfl, hb⟩
       refine ⟨_, rfl, ?_⟩
       have n0_ := bs HB hb
       clear HB
       have HB := n0_
       clear n0_
       (try clear hb)
       (try clear hb2)
       (try clear hk)
       (try clear hi)
       refine hK.out _ _ ⟨(cl HB hw217_0), (cl HB hw217_1), (cl HB hw217_2), (cl HB hw217_3), (cl HB hw217_4), (cl HB hw217_5), (cl HB hw217_6), (cl HB hw217_7), (cl HB hw217_8), (cl HB hw217_9), (cl HB hw217_10)⟩ (fun hHeld => ?_)
       clear hK K
       refine nm (h := ?_)
       refine pu HT_ 8 21 511 (h := ?_)
       refine dn HT_ (h := ?_)
       try go_wp2
       go_roundg k1
       case measure => have := HK1.out; omega
       case rel => exact ⟨(wrap64 (x3_1 + 1)), rf, H', ⟨by have := HK1.out; omega⟩, ⟨bw HB⟩⟩
      replace c7 := Bool.eq_false_iff.mpr c7
      subst c7
      have H1 : (some false) = some r := by rw [if_neg (show ¬ (false = true) by decide)] at H; exact H
      clear H
      have H := H1
      clear H1
      obtain rfl := Option.some.inj H
      try go_wp2
      have n0_ := Aside0.mk (below_drew1 HB.out)
      clear HB
      have HB := n0_
      clear n0_
      have q12 : (x3_1 : Int) ≤ ((l0.length : Int) : Int) := of_decide_eq_true (by first | (with_reducible assumption) | assumption)
      obtain ⟨i012, hi012, _, hsz12, _⟩ := info_parts info31
      have hroom12 : l0.length ≤ c0 := HC0.out
      have hC12 : Kd.C kOp _ A0 l0.length l0 := HR0.out
      have hcut12 := cut_to (P := Tryd.prog) 24 31 .i64 Tryd.underlying24 hi012 A0 l0.length c0 x3_1 (of_decide_eq_true (by first | (with_reducible assumption) | assumption)) q12 hroom12
      have hr12 := Kd.C_take (m := (x3_1 : Int).toNat) hC12 (by omega)
      have hy12 : y213.length = (x3_1 : Int).toNat := (by rw [Ny213.out, List.length_take]; omega)
      rw [← Ny213.out] at hr12
      rw [← hy12] at hcut12
      have HR216 := Aside0.mk hr12
      have HC216 := Aside0.mk (show y213.length ≤ c0 from by omega)
      clear hr12 hC12 hroom12 hi012 hsz12
      have KY12 := Aside0.mk hy12
      clear hy12
      replace q12 := eq_true q12
      have p217 : 0 ≤ (x3_1 : Int) := of_decide_eq_true (by first | (with_reducible assumption) | assumption)
      have q217 : x3_1 < (l0.length : Int) := of_decide_eq_true (by first | (with_reducible assumption) | assumption)
      obtain ⟨ad217, A217_7, c217_7, e217, hx217_0, hx217_1, hx217_2, hx217_3, hx217_4, hx217_5, hx217_6, hx217_7, hx217_8, hx217_9, hx217_10, hl217_7, hi217_7⟩ := at_Op HR0.out x3_1 p217 q217
      have hw217_10 := hx217_10
      have hw217_9 := hx217_9
      have hw217_8 := hx217_8
      have hw217_7 := hx217_7
      have hw217_6 := hx217_6
      have hw217_5 := hx217_5
      have hw217_4 := hx217_4
      have hw217_3 := hx217_3
      have hw217_2 := hx217_2
      have hw217_1 := hx217_1
      have hw217_0 := hx217_0
      cases e217
      replace hx217_0 := cl HB hx217_0
      replace hx217_1 := cl HB hx217_1
      replace hx217_2 := cl HB hx217_2
      replace hx217_3 := cl HB hx217_3
      replace hx217_4 := cl HB hx217_4
      replace hx217_5 := cl HB hx217_5
      replace hx217_6 := cl HB hx217_6
      replace hx217_7 := cl HB hx217_7
      replace hx217_8 := cl HB hx217_8
      replace hx217_9 := cl HB hx217_9
      replace hx217_10 := cl HB hx217_10
      have HR217_7 := Aside0.mk hi217_7
      have HC217_7 := Aside0.mk hl217_7
      clear hi217_7 hl217_7
      replace p217 := eq_true p217
      replace q217 := eq_true q217
      refine stP (fun w' => w'.cell? (ad217.add ((x3_1).toNat * 11)) = some (.int .i64 ((rd_Op l0 x3_1).f0)) ∧ w'.cell? ⟨(ad217.add ((x3_1).toNat * 11)).block, (ad217.add ((x3_1).toNat * 11)).off + 1, none⟩ = some (.int .i64 ((rd_Op l0 x3_1).f1)) ∧ w'.cell? ⟨(ad217.add ((x3_1).toNat * 11)).block, (ad217.add ((x3_1).toNat * 11)).off + 2, none⟩ = some (.int .i64 ((rd_Op l0 x3_1).f2)) ∧ w'.cell? ⟨(ad217.add ((x3_1).toNat * 11)).block, (ad217.add ((x3_1).toNat * 11)).off + 3, none⟩ = some (.int .i64 ((rd_Op l0 x3_1).f3.f0)) ∧ w'.cell? ⟨(ad217.add ((x3_1).toNat * 11)).block, (ad217.add ((x3_1).toNat * 11)).off + 4, none⟩ = some (.int .i64 ((rd_Op l0 x3_1).f3.f1)) ∧ w'.cell? ⟨(ad217.add ((x3_1).toNat * 11)).block, (ad217.add ((x3_1).toNat * 11)).off + 5, none⟩ = some (.int .i64 ((rd_Op l0 x3_1).f3.f2)) ∧ w'.cell? ⟨(ad217.add ((x3_1).toNat * 11)).block, (ad217.add ((x3_1).toNat * 11)).off + 6, none⟩ = some (.string ((rd_Op l0 x3_1).f4)) ∧ w'.cell? ⟨(ad217.add ((x3_1).toNat * 11)).block, (ad217.add ((x3_1).toNat * 11)).off + 7, none⟩ = some (.slice A217_7 ((rd_Op l0 x3_1).f5).length c217_7) ∧ w'.cell? ⟨(ad217.add ((x3_1).toNat * 11)).block, (ad217.add ((x3_1).toNat * 11)).off + 8, none⟩ = some (.int .i64 ((rd_Op l0 x3_1).f6)) ∧ w'.cell? ⟨(ad217.add ((x3_1).toNat * 11)).block, (ad217.add ((x3_1).toNat * 11)).off + 9, none⟩ = some (.int .i64 ((rd_Op l0 x3_1).f7)) ∧ w'.cell? ⟨(ad217.add ((x3_1).toNat * 11)).block, (ad217.add ((x3_1).toNat * 11)).off + 10, none⟩ = some (.int .i64 ((rd_Op l0 x3_1).f8))) 9 ⟨(cl HB hw217_0), (cl HB hw217_1), (cl HB hw217_2), (cl HB hw217_3), (cl HB hw217_4), (cl HB hw217_5), (cl HB hw217_6), (cl HB hw217_7), (cl HB hw217_8), (cl HB hw217_9), (cl HB hw217_10)⟩ (h := fun hHeld => ?_); refine with_tabW lectionaryref4_Row.tab6 lectionaryref4_Row.bits6 (fun HT_ HW_ => ?_)
      generalize wr.drew = w11 at HB HR216 HR217_7 hx217_0 hx217_1 hx217_10 hx217_2 hx217_3 hx217_4 hx217_5 hx217_6 hx217_7 hx217_8 hx217_9 hHeld ⊢
      refine pu HT_ 0 13 1 (h := ?_)
      refine pu HT_ 1 14 3 (h := ?_)
      refine pu HT_ 2 15 7 (h := ?_)
      refine pu HT_ 3 16 15 (h := ?_)
      refine pu HT_ 4 17 31 (h := ?_)
      refine pu HT_ 5 18 63 (h := ?_)
      refine tk HT_ HW_ hHeld 6 19 127 (h := ?_)
      refine on HT_ 7 (some 20) 255 (h := fun K hK => ?_)
      refine gS Tryd.func72 #[.slice (some ad217) y213.length c0, .agg #[.int .i64 ((rd_Op l0 x3_1).f0), .int .i64 ((rd_Op l0 x3_1).f1), .int .i64 ((rd_Op l0 x3_1).f2), .int .i64 ((rd_Op l0 x3_1).f3.f0), .int .i64 ((rd_Op l0 x3_1).f3.f1), .int .i64 ((rd_Op l0 x3_1).f3.f2), .string ((rd_Op l0 x3_1).f4), .slice A217_7 ((rd_Op l0 x3_1).f5).length c217_7, .int .i64 ((rd_Op l0 x3_1).f6), .int .i64 ((rd_Op l0 x3_1).f7), .int .i64 ((rd_Op l0 x3_1).f8)]] (h := ?_)
      with_reducible refine (lectionaryref4_Goes.calls k1 _ _ y213 ((rd_Op l0 x3_1).f0) ((rd_Op l0 x3_1).f1) ((rd_Op l0 x3_1).f2) ((rd_Op l0 x3_1).f3.f0) ((rd_Op l0 x3_1).f3.f1) ((rd_Op l0 x3_1).f3.f2) ((rd_Op l0 x3_1).f4) _ _ ((rd_Op l0 x3_1).f5) ((rd_Op l0 x3_1).f6) ((rd_Op l0 x3_1).f7) ((rd_Op l0 x3_1).f8) false _ ?side1 ?side2 ?side3 ?side4 ?side5 A6.out).mono ?_
      (case side1 => repeat (first | exact (Kd.C_below HR216.out HB.out) | (with_reducible refine Kd.C_alloc ?_ _) | (with_reducible refine Kd.C_drewN ?_ _) | (with_reducible refine Kd.C_drew ?_)))
      (case side2 => exact HC216.out)
      (case side3 => repeat (first | exact (Kd.C_below HR217_7.out HB.out) | (with_reducible refine Kd.C_alloc ?_ _) | (with_reducible refine Kd.C_drewN ?_ _) | (with_reducible refine Kd.C_drew ?_)))
      (case side4 => exact HC217_7.out)
      (case side5 => exact (hT.below (bw HB)))
      rintro e w13 ⟨rfl, hb⟩
      refine ⟨_, rfl, ?_⟩
      have n0_ := bs HB hb
      clear HB
      have HB := n0_
      clear n0_
      (try clear hb)
      (try clear hb2)
      (try clear hk)
      (try clear hi)
      refine hK.out _ _ ⟨(cl HB hw217_0), (cl HB hw217_1), (cl HB hw217_2), (cl HB hw217_3), (cl HB hw217_4), (cl HB hw217_5), (cl HB hw217_6), (cl HB hw217_7), (cl HB hw217_8), (cl HB hw217_9), (cl HB hw217_10)⟩ (fun hHeld => ?_)
      clear hK K
      refine nm (h := ?_)
      refine pu HT_ 8 21 511 (h := ?_)
      refine dn HT_ (h := ?_)
      try go_wp2
      go_ret
      exact ⟨re, bw HB⟩
     rw [if_neg c5] at H
     exact absurd H (by simp)
    rw [if_neg c4] at H
    exact absurd H (by simp)
   rw [if_neg c3] at H
   have c3b0 : decide (x3_1 < (l0.length : Int)) = false := decide_eq_false c3
   clear c3
   replace H := Option.bind_eq_some_iff.mp H
   obtain ⟨t219, A140, H⟩ := H
   replace H : (some t219) = some r := H
   have A14 := Aside0.mk A140
   clear A140
   obtain rfl := Option.some.inj H
   go_wp2_with (first | ((with_reducible refine gate_callee (f := 73) rfl ?_); refine gl (some 23) Tryd.func73 #[.slice A0 l0.length c0] (h := ?_); (with_reducible refine (lectionaryref4_Fits.calls k1 _ _ l0 t219 _ ?side1 ?side2 ?side3 A14.out).mono ?_); (case side1 => repeat (first | exact (Kd.C_below HR0.out HB.out) | (with_reducible refine Kd.C_alloc ?_ _) | (with_reducible refine Kd.C_drewN ?_ _) | (with_reducible refine Kd.C_drew ?_))); (case side2 => exact HC0.out); (case side3 => exact (hT.below (bw HB))); rintro e w15 ⟨rfl, hb⟩; refine ⟨_, rfl, ?_⟩; replace HB := bs HB hb; (try clear hb); (try clear hb2); (try clear hk); (try clear hi)))
   go_ret
   exact ⟨re, bw HB⟩
end Go.Proofs.YtdahgnalojekdaaDoor.L
end

section
namespace Go.Proofs.YtdahgnalojekdaaDoor.L
open Go.RowKit Go.Proofs.YtdahgnalojekdaaDoorW.PrintWords Go.Proofs.YtdahgnalojekdaaDoorW.PrintLast Go.Proofs.YtdahgnalojekdaaDoorW.PrintMore
attribute [local go_sem] max2_int min2_int max_two min_two max_three min_three max_four min_four
set_option linter.unusedVariables false
set_option linter.unusedSimpArgs false
def tree_Order.f (l0 : List (SOp)) : Option ((List (SElem)) × Int) := (tree_May.f l0).bind fun t220 => (if t220 = true then ((tree_All.f l0).bind fun t221 => (some (t221, 0))) else (some (([] : List (SElem)), 1)))
set_option maxHeartbeats 8000000 in
set_option maxRecDepth 100000 in
theorem tree_Order.calls (A0 : Option Addr) (c0 : Nat) (l0 : List (SOp)) (r1 : List (SElem)) (r2 : Int) (w : World) (hr0 : Kd.C kOp w A0 l0.length l0) (hc0 : l0.length ≤ c0) (h : tree_Order.f l0 = some (r1, r2)) :
  Calls Tryd.prog 25 #[.slice A0 l0.length c0] w fun e w' => ∃ v0_ : Value, e = .returned (.tuple #[v0_, .int .i64 r2]) ∧ Kd.R kElem 29 w' w.heap.size (fun _ => True) v0_ r1 ∧ Below w.heap.size w w' := by
 have HR0 := Aside0.mk hr0
 have HC0 := Aside0.mk hc0
 clear hr0 hc0
 have HB := Aside0.mk (Below.refl w.heap.size w)
 have H : ((tree_May.f l0).bind fun t220 => (if t220 = true then ((tree_All.f l0).bind fun t221 => (some (t221, 0))) else (some (([] : List (SElem)), 1)))) = some (r1, r2) := h
 clear h
 replace H := Option.bind_eq_some_iff.mp H
 obtain ⟨t220, A20, H⟩ := H
 replace H : (if t220 = true then ((tree_All.f l0).bind fun t221 => (some (t221, 0))) else (some (([] : List (SElem)), 1))) = some (r1, r2) := H
 have A2 := Aside0.mk A20
 clear A20
 by_cases c3 : t220 = true
 ·subst c3
  have H1 : ((tree_All.f l0).bind fun t221 => (some (t221, 0))) = some (r1, r2) := by rw [if_pos rfl] at H; exact H
  clear H
  have H := H1
  clear H1
  replace H := Option.bind_eq_some_iff.mp H
  obtain ⟨t221, A40, H⟩ := H
  replace H : (some (t221, 0)) = some (r1, r2) := H
  have A4 := Aside0.mk A40
  clear A40
  simp only [Option.some.injEq, Prod.mk.injEq] at H
  obtain ⟨rfl, rfl⟩ := H
  go_enter Tryd.func25, Tryd.ntmps25
  go_wp2_with (first | ((with_reducible refine gate_callee (f := 71) rfl ?_); refine gl (some 5) Tryd.func71 #[.slice A0 l0.length c0] (h := ?_); (with_reducible refine (tree_May.calls _ _ l0 true _ ?side1 ?side2 A2.out).mono ?_); (case side1 => repeat (first | exact HR0.out | (with_reducible refine Kd.C_alloc ?_ _) | (with_reducible refine Kd.C_drewN ?_ _) | (with_reducible refine Kd.C_drew ?_))); (case side2 => exact HC0.out); rintro e w5 ⟨rfl, hb⟩; refine ⟨_, rfl, ?_⟩; replace HB := bs HB hb; (try clear hb); (try clear hb2); (try clear hk); (try clear hi)) | ((with_reducible refine gate_callee (f := 76) rfl ?_); refine gl (some 8) Tryd.func76 #[.slice A0 l0.length c0] (h := ?_); (with_reducible refine (tree_All.calls _ _ l0 t221 _ ?side1 ?side2 A4.out).mono ?_); (case side1 => repeat (first | exact (Kd.C_below HR0.out HB.out) | (with_reducible refine Kd.C_alloc ?_ _) | (with_reducible refine Kd.C_drewN ?_ _) | (with_reducible refine Kd.C_drew ?_))); (case side2 => exact HC0.out); rintro e w6 ⟨v222, rfl, ho0, hb⟩; refine ⟨_, rfl, ?_⟩; have HO223 := Aside0.mk (Kd.R_lower ho0 (below_size (bw HB))); replace HB := bs HB hb; (try clear hb); (try clear hb2); (try clear hk); (try clear hi); (try clear ho0)))
  go_ret2
  exact ⟨_, re, by (with_reducible repeat (first | apply Kd.R_alloc | apply Kd.R_drewN | apply Kd.R_drew)); exact HO223.out, bw HB⟩
 replace c3 := Bool.eq_false_iff.mpr c3
 subst c3
 have H1 : (some (([] : List (SElem)), 1)) = some (r1, r2) := by rw [if_neg (show ¬ (false = true) by decide)] at H; exact H
 clear H
 have H := H1
 clear H1
 simp only [Option.some.injEq, Prod.mk.injEq] at H
 obtain ⟨rfl, rfl⟩ := H
 go_enter Tryd.func25, Tryd.ntmps25
 go_wp2_with (first | ((with_reducible refine gate_callee (f := 71) rfl ?_); refine gl (some 5) Tryd.func71 #[.slice A0 l0.length c0] (h := ?_); (with_reducible refine (tree_May.calls _ _ l0 false _ ?side1 ?side2 A2.out).mono ?_); (case side1 => repeat (first | exact HR0.out | (with_reducible refine Kd.C_alloc ?_ _) | (with_reducible refine Kd.C_drewN ?_ _) | (with_reducible refine Kd.C_drew ?_))); (case side2 => exact HC0.out); rintro e w7 ⟨rfl, hb⟩; refine ⟨_, rfl, ?_⟩; replace HB := bs HB hb; (try clear hb); (try clear hb2); (try clear hk); (try clear hi)))
 go_ret2
 exact ⟨_, re, by first | exact Kd.R_nil _ _ _ _ _ | exact Kd.N_nil _ _ _ _ _ | exact Kd.V_nil _ _ _ _ _ | exact Kd.Q_nil _ _ _ _ _ | exact Kd.S_nil _ _ _ _ _, bw HB⟩
def lectionarylaw5_wakes.f  : Option (Bool) := (some (([(⟨1, 1, 1, (⟨0, 0, 0⟩ : SElem), (⟨#[97]⟩ : ByteArray), ([] : List (SElem)), 0, 0, 0⟩ : SOp), (⟨2, 1, 1, (⟨0, 0, 0⟩ : SElem), (⟨#[98]⟩ : ByteArray), ([] : List (SElem)), 0, 0, 0⟩ : SOp)] : List (SOp)) : List (SOp))).bind fun y224 => ((tree_Order.f y224).bind fun bt227 => ((tree_Check.f y224).bind fun t231 => ((lectionarylaw5_num.f t231).bind fun t232 => (if t232 = 0 then ((lectionarylaw5_num.f bt227.2).bind fun t233 => (if t233 = 0 then (if (bt227.1.length : Int) = 2 then (if 0 < (bt227.1.length : Int) then (some (((rd_Elem bt227.1 0).f0) == 2)) else (none)) else (some false)) else (some false))) else (some false)))))
set_option maxHeartbeats 8000000 in
set_option maxRecDepth 100000 in
theorem lectionarylaw5_wakes.calls  (r : Bool) (w : World) (h : lectionarylaw5_wakes.f  = some r) :
  Calls Tryd.prog 21 #[] w fun e w' => e = .returned (.bool r) ∧ Below w.heap.size w w' := by
 have hu31 := Tryd.underlying31
 have HB := Aside0.mk (Below.refl w.heap.size w)
 have H : ((some (([(⟨1, 1, 1, (⟨0, 0, 0⟩ : SElem), (⟨#[97]⟩ : ByteArray), ([] : List (SElem)), 0, 0, 0⟩ : SOp), (⟨2, 1, 1, (⟨0, 0, 0⟩ : SElem), (⟨#[98]⟩ : ByteArray), ([] : List (SElem)), 0, 0, 0⟩ : SOp)] : List (SOp)) : List (SOp))).bind fun y224 => ((tree_Order.f y224).bind fun bt227 => ((tree_Check.f y224).bind fun t231 => ((lectionarylaw5_num.f t231).bind fun t232 => (if t232 = 0 then ((lectionarylaw5_num.f bt227.2).bind fun t233 => (if t233 = 0 then (if (bt227.1.length : Int) = 2 then (if 0 < (bt227.1.length : Int) then (some (((rd_Elem bt227.1 0).f0) == 2)) else (none)) else (some false)) else (some false))) else (some false)))))) = some r := h
 clear h
 obtain ⟨y224, hy224⟩ : ∃ y_ : List (SOp), y_ = (([(⟨1, 1, 1, (⟨0, 0, 0⟩ : SElem), (⟨#[97]⟩ : ByteArray), ([] : List (SElem)), 0, 0, 0⟩ : SOp), (⟨2, 1, 1, (⟨0, 0, 0⟩ : SElem), (⟨#[98]⟩ : ByteArray), ([] : List (SElem)), 0, 0, 0⟩ : SOp)] : List (SOp))) := ⟨_, rfl⟩
 replace H : ((tree_Order.f y224).bind fun bt227 => ((tree_Check.f y224).bind fun t231 => ((lectionarylaw5_num.f t231).bind fun t232 => (if t232 = 0 then ((lectionarylaw5_num.f bt227.2).bind fun t233 => (if t233 = 0 then (if (bt227.1.length : Int) = 2 then (if 0 < (bt227.1.length : Int) then (some (((rd_Elem bt227.1 0).f0) == 2)) else (none)) else (some false)) else (some false))) else (some false))))) = some r := by first | (rw [hy224]; with_reducible exact H) | (have H2_ := (Option.bind_some _ _).symm.trans H; rw [hy224]; with_reducible exact H2_) | (have H2_ := (Option.bind_some _ _).symm.trans H; with_reducible exact H2_) | with_reducible exact H | (rw [hy224]; exact H) | exact H
 have Ny224 := Aside0.mk hy224
 clear hy224
 replace H := Option.bind_eq_some_iff.mp H
 obtain ⟨⟨t227, t228⟩, A10, H⟩ := H
 replace H : ((tree_Check.f y224).bind fun t231 => ((lectionarylaw5_num.f t231).bind fun t232 => (if t232 = 0 then ((lectionarylaw5_num.f t228).bind fun t233 => (if t233 = 0 then (if (t227.length : Int) = 2 then (if 0 < (t227.length : Int) then (some (((rd_Elem t227 0).f0) == 2)) else (none)) else (some false)) else (some false))) else (some false)))) = some r := H
 have A1 := Aside0.mk A10
 clear A10
 replace H := Option.bind_eq_some_iff.mp H
 obtain ⟨t231, A20, H⟩ := H
 replace H : ((lectionarylaw5_num.f t231).bind fun t232 => (if t232 = 0 then ((lectionarylaw5_num.f t228).bind fun t233 => (if t233 = 0 then (if (t227.length : Int) = 2 then (if 0 < (t227.length : Int) then (some (((rd_Elem t227 0).f0) == 2)) else (none)) else (some false)) else (some false))) else (some false))) = some r := H
 have A2 := Aside0.mk A20
 clear A20
 replace H := Option.bind_eq_some_iff.mp H
 obtain ⟨t232, A30, H⟩ := H
 replace H : (if t232 = 0 then ((lectionarylaw5_num.f t228).bind fun t233 => (if t233 = 0 then (if (t227.length : Int) = 2 then (if 0 < (t227.length : Int) then (some (((rd_Elem t227 0).f0) == 2)) else (none)) else (some false)) else (some false))) else (some false)) = some r := H
 have A3 := Aside0.mk A30
 clear A30
 by_cases c4 : t232 = 0
 ·rw [if_pos c4] at H
  have c4b0 : (t232 == 0) = true := beq_iff_eq.mpr c4
  have c4b1 : (t232 != 0) = false := bne_eq_false_iff_eq.mpr c4
  clear c4
  replace H := Option.bind_eq_some_iff.mp H
  obtain ⟨t233, A50, H⟩ := H
  replace H : (if t233 = 0 then (if (t227.length : Int) = 2 then (if 0 < (t227.length : Int) then (some (((rd_Elem t227 0).f0) == 2)) else (none)) else (some false)) else (some false)) = some r := H
  have A5 := Aside0.mk A50
  clear A50
  by_cases c6 : t233 = 0
  ·rw [if_pos c6] at H
   have c6b0 : (t233 == 0) = true := beq_iff_eq.mpr c6
   have c6b1 : (t233 != 0) = false := bne_eq_false_iff_eq.mpr c6
   clear c6
   by_cases c7 : (t227.length : Int) = 2
   ·rw [if_pos c7] at H
    have c7b0 : ((t227.length : Int) == 2) = true := beq_iff_eq.mpr c7
    have c7b1 : ((t227.length : Int) != 2) = false := bne_eq_false_iff_eq.mpr c7
    clear c7
    by_cases c8 : 0 < (t227.length : Int)
    ·rw [if_pos c8] at H
     have c8b0 : decide (0 < (t227.length : Int)) = true := decide_eq_true c8
     have c8b1 : decide (0 < t227.length) = true := decide_eq_true (by omega)
     clear c8
     obtain rfl := Option.some.inj H
     go_enter Tryd.func21, Tryd.ntmps21
     go_wp2_with (first | ((with_reducible refine gate_dst (N := 6) rfl ?_); (try (refine gate_guard (by rfl) ?_; dsimp only)); refine Kd.S_lit kOp _ 31 ?hg (N := 6) ?hd (xs := ([(⟨1, 1, 1, (⟨0, 0, 0⟩ : SElem), (⟨#[97]⟩ : ByteArray), ([] : List (SElem)), 0, 0, 0⟩ : SOp), (⟨2, 1, 1, (⟨0, 0, 0⟩ : SElem), (⟨#[98]⟩ : ByteArray), ([] : List (SElem)), 0, 0, 0⟩ : SOp)] : List (SOp))) (inner := [.int .i64 1, .int .i64 1, .int .i64 1, .int .i64 0, .int .i64 0, .int .i64 0, .string (⟨#[97]⟩ : ByteArray), .slice none 0 0, .int .i64 0, .int .i64 0, .int .i64 0, .int .i64 2, .int .i64 1, .int .i64 1, .int .i64 0, .int .i64 0, .int .i64 0, .string (⟨#[98]⟩ : ByteArray), .slice none 0 0, .int .i64 0, .int .i64 0, .int .i64 0]) (ok := fun _ => True) (okp := fun _ => True) ?hr ?hp (fun _ hk => hk) trivial (Below.refl _ _) (Nat.le_refl _) (by simp) ?_; (case hd => rfl); (case hg => rfl); (case hr => first | (go_simp; done) | (go_simp; rfl)); (case hp => exact (Reps.front (show Kd.M kOp _ _ _ (⟨1, 1, 1, (⟨0, 0, 0⟩ : SElem), (⟨#[97]⟩ : ByteArray), ([] : List (SElem)), 0, 0, 0⟩ : SOp) [.int .i64 1, .int .i64 1, .int .i64 1, .int .i64 0, .int .i64 0, .int .i64 0, .string (⟨#[97]⟩ : ByteArray), .slice none 0 0, .int .i64 0, .int .i64 0, .int .i64 0] from (kOp_mkM _ _ _ (⟨1, 1, 1, (⟨0, 0, 0⟩ : SElem), (⟨#[97]⟩ : ByteArray), ([] : List (SElem)), 0, 0, 0⟩ : SOp) (Kd.R_nil _ _ _ _ _))) rfl (Reps.front (show Kd.M kOp _ _ _ (⟨2, 1, 1, (⟨0, 0, 0⟩ : SElem), (⟨#[98]⟩ : ByteArray), ([] : List (SElem)), 0, 0, 0⟩ : SOp) [.int .i64 2, .int .i64 1, .int .i64 1, .int .i64 0, .int .i64 0, .int .i64 0, .string (⟨#[98]⟩ : ByteArray), .slice none 0 0, .int .i64 0, .int .i64 0, .int .i64 0] from (kOp_mkM _ _ _ (⟨2, 1, 1, (⟨0, 0, 0⟩ : SElem), (⟨#[98]⟩ : ByteArray), ([] : List (SElem)), 0, 0, 0⟩ : SOp) (Kd.R_nil _ _ _ _ _))) rfl (Reps.none _ _) rfl) rfl)); intro v225 w9 ho10 hb hg_ hnew_; clear hg_ hnew_; (first | rw [← Ny224.out] at ho10 | (simp only [Int.reduceToNat] at ho10; rw [← Ny224.out] at ho10)); have HO226 := Aside0.mk (Kd.S_lower ho10 (below_size (bw HB))); replace HB := bs HB hb; clear hb ho10; obtain ⟨Ao11, co11, eo11⟩ := Kd.S_slice HO226.out; subst eo11) | ((with_reducible refine gate_callee (f := 25) rfl ?_); refine gl (some 9) Tryd.func25 #[.slice Ao11 y224.length co11] (h := ?_); (with_reducible refine (tree_Order.calls _ _ y224 t227 t228 _ ?side1 ?side2 A1.out).mono ?_); (case side1 => repeat (first | exact (Kd.S_reads' HO226.out).2.2 | (with_reducible refine Kd.C_alloc ?_ _) | (with_reducible refine Kd.C_drewN ?_ _) | (with_reducible refine Kd.C_drew ?_))); (case side2 => exact (Kd.S_reads' HO226.out).2.1); rintro e w12 ⟨v229, rfl, ho0, hb⟩; refine ⟨_, rfl, ?_⟩; have HO230 := Aside0.mk (Kd.R_lower ho0 (below_size (bw HB))); replace HO226 := Aside0.mk (Kd.S_elder' (by (with_reducible repeat (first | apply Kd.S_alloc | apply Kd.S_drewN | apply Kd.S_drew)); exact HO226.out) (Kd.R_base ho0) hb); replace HB := bs HB hb; (try clear hb); (try clear hb2); (try clear hk); (try clear hi); (try clear ho0)) | ((with_reducible refine gate_callee (f := 19) rfl ?_); refine gl (some 13) Tryd.func19 #[.slice Ao11 y224.length co11] (h := ?_); (with_reducible refine (tree_Check.calls _ _ y224 t231 _ ?side1 ?side2 A2.out).mono ?_); (case side1 => repeat (first | exact (Kd.S_reads' HO226.out).2.2 | (with_reducible refine Kd.C_alloc ?_ _) | (with_reducible refine Kd.C_drewN ?_ _) | (with_reducible refine Kd.C_drew ?_))); (case side2 => exact (Kd.S_reads' HO226.out).2.1); rintro e w13 ⟨rfl, hb⟩; refine ⟨_, rfl, ?_⟩; replace HO226 := Aside0.mk (Kd.S_below (by (with_reducible repeat (first | apply Kd.S_alloc | apply Kd.S_drewN | apply Kd.S_drew)); exact HO226.out) hb); replace HO230 := Aside0.mk (Kd.R_below (by (with_reducible repeat (first | apply Kd.R_alloc | apply Kd.R_drewN | apply Kd.R_drew)); exact HO230.out) hb); replace HB := bs HB hb; (try clear hb); (try clear hb2); (try clear hk); (try clear hi)) | ((with_reducible refine gate_callee (f := 18) rfl ?_); refine gl (some 14) Tryd.func18 #[.int .i64 t231] (h := ?_); (with_reducible refine (lectionarylaw5_num.calls t231 t232 _ A3.out).mono ?_); rintro e w' ⟨rfl, ⟨nd, rfl⟩⟩; refine ⟨_, rfl, ?_⟩) | (go_at_call 18; (with_reducible refine (lectionarylaw5_num.calls t228 t233 _ A5.out).mono ?_); rintro e w' ⟨rfl, ⟨nd, rfl⟩⟩; obtain ⟨Ao14, co14, eo14⟩ := Kd.R_slice HO230.out; subst eo14; have p234 : 0 ≤ (0 : Int) := (by omega); have q234 : 0 < (t227.length : Int) := of_decide_eq_true (by first | (with_reducible assumption) | assumption); obtain ⟨ad234, e234, hx234_0, hx234_1, hx234_2⟩ := at_Elem (Kd.R_reads' HO230.out).2.2 0 p234 q234; cases e234; have qi234 : (0 < t227.length) = True := eq_true (by omega); (try rw [show ((0 : Int)).toNat = 0 from rfl] at hx234_0); (try rw [show 0 * 3 = 0 from rfl] at hx234_0); (try rw [Addr.add_zero'] at hx234_0); (try rw [show ((0 : Int)).toNat = 0 from rfl] at hx234_1); (try rw [show 0 * 3 = 0 from rfl] at hx234_1); (try rw [Addr.add_zero'] at hx234_1); (try rw [show ((0 : Int)).toNat = 0 from rfl] at hx234_2); (try rw [show 0 * 3 = 0 from rfl] at hx234_2); (try rw [Addr.add_zero'] at hx234_2); replace p234 := eq_true p234; replace q234 := eq_true q234))
     go_ret
     exact ⟨re, bw HB⟩
    rw [if_neg c8] at H
    exact absurd H (by simp)
   rw [if_neg c7] at H
   have c7b0 : ((t227.length : Int) == 2) = false := beq_eq_false_iff_ne.mpr c7
   have c7b1 : ((t227.length : Int) != 2) = true := bne_iff_ne.mpr c7
   obtain rfl := Option.some.inj H
   go_enter Tryd.func21, Tryd.ntmps21
   go_wp2_with (first | ((with_reducible refine gate_dst (N := 6) rfl ?_); (try (refine gate_guard (by rfl) ?_; dsimp only)); refine Kd.S_lit kOp _ 31 ?hg (N := 6) ?hd (xs := ([(⟨1, 1, 1, (⟨0, 0, 0⟩ : SElem), (⟨#[97]⟩ : ByteArray), ([] : List (SElem)), 0, 0, 0⟩ : SOp), (⟨2, 1, 1, (⟨0, 0, 0⟩ : SElem), (⟨#[98]⟩ : ByteArray), ([] : List (SElem)), 0, 0, 0⟩ : SOp)] : List (SOp))) (inner := [.int .i64 1, .int .i64 1, .int .i64 1, .int .i64 0, .int .i64 0, .int .i64 0, .string (⟨#[97]⟩ : ByteArray), .slice none 0 0, .int .i64 0, .int .i64 0, .int .i64 0, .int .i64 2, .int .i64 1, .int .i64 1, .int .i64 0, .int .i64 0, .int .i64 0, .string (⟨#[98]⟩ : ByteArray), .slice none 0 0, .int .i64 0, .int .i64 0, .int .i64 0]) (ok := fun _ => True) (okp := fun _ => True) ?hr ?hp (fun _ hk => hk) trivial (Below.refl _ _) (Nat.le_refl _) (by simp) ?_; (case hd => rfl); (case hg => rfl); (case hr => first | (go_simp; done) | (go_simp; rfl)); (case hp => exact (Reps.front (show Kd.M kOp _ _ _ (⟨1, 1, 1, (⟨0, 0, 0⟩ : SElem), (⟨#[97]⟩ : ByteArray), ([] : List (SElem)), 0, 0, 0⟩ : SOp) [.int .i64 1, .int .i64 1, .int .i64 1, .int .i64 0, .int .i64 0, .int .i64 0, .string (⟨#[97]⟩ : ByteArray), .slice none 0 0, .int .i64 0, .int .i64 0, .int .i64 0] from (kOp_mkM _ _ _ (⟨1, 1, 1, (⟨0, 0, 0⟩ : SElem), (⟨#[97]⟩ : ByteArray), ([] : List (SElem)), 0, 0, 0⟩ : SOp) (Kd.R_nil _ _ _ _ _))) rfl (Reps.front (show Kd.M kOp _ _ _ (⟨2, 1, 1, (⟨0, 0, 0⟩ : SElem), (⟨#[98]⟩ : ByteArray), ([] : List (SElem)), 0, 0, 0⟩ : SOp) [.int .i64 2, .int .i64 1, .int .i64 1, .int .i64 0, .int .i64 0, .int .i64 0, .string (⟨#[98]⟩ : ByteArray), .slice none 0 0, .int .i64 0, .int .i64 0, .int .i64 0] from (kOp_mkM _ _ _ (⟨2, 1, 1, (⟨0, 0, 0⟩ : SElem), (⟨#[98]⟩ : ByteArray), ([] : List (SElem)), 0, 0, 0⟩ : SOp) (Kd.R_nil _ _ _ _ _))) rfl (Reps.none _ _) rfl) rfl)); intro v225 w15 ho16 hb hg_ hnew_; clear hg_ hnew_; (first | rw [← Ny224.out] at ho16 | (simp only [Int.reduceToNat] at ho16; rw [← Ny224.out] at ho16)); have HO226 := Aside0.mk (Kd.S_lower ho16 (below_size (bw HB))); replace HB := bs HB hb; clear hb ho16; obtain ⟨Ao17, co17, eo17⟩ := Kd.S_slice HO226.out; subst eo17) | ((with_reducible refine gate_callee (f := 25) rfl ?_); refine gl (some 9) Tryd.func25 #[.slice Ao17 y224.length co17] (h := ?_); (with_reducible refine (tree_Order.calls _ _ y224 t227 t228 _ ?side1 ?side2 A1.out).mono ?_); (case side1 => repeat (first | exact (Kd.S_reads' HO226.out).2.2 | (with_reducible refine Kd.C_alloc ?_ _) | (with_reducible refine Kd.C_drewN ?_ _) | (with_reducible refine Kd.C_drew ?_))); (case side2 => exact (Kd.S_reads' HO226.out).2.1); rintro e w18 ⟨v229, rfl, ho0, hb⟩; refine ⟨_, rfl, ?_⟩; have HO230 := Aside0.mk (Kd.R_lower ho0 (below_size (bw HB))); replace HO226 := Aside0.mk (Kd.S_elder' (by (with_reducible repeat (first | apply Kd.S_alloc | apply Kd.S_drewN | apply Kd.S_drew)); exact HO226.out) (Kd.R_base ho0) hb); replace HB := bs HB hb; (try clear hb); (try clear hb2); (try clear hk); (try clear hi); (try clear ho0)) | ((with_reducible refine gate_callee (f := 19) rfl ?_); refine gl (some 13) Tryd.func19 #[.slice Ao17 y224.length co17] (h := ?_); (with_reducible refine (tree_Check.calls _ _ y224 t231 _ ?side1 ?side2 A2.out).mono ?_); (case side1 => repeat (first | exact (Kd.S_reads' HO226.out).2.2 | (with_reducible refine Kd.C_alloc ?_ _) | (with_reducible refine Kd.C_drewN ?_ _) | (with_reducible refine Kd.C_drew ?_))); (case side2 => exact (Kd.S_reads' HO226.out).2.1); rintro e w19 ⟨rfl, hb⟩; refine ⟨_, rfl, ?_⟩; replace HO226 := Aside0.mk (Kd.S_below (by (with_reducible repeat (first | apply Kd.S_alloc | apply Kd.S_drewN | apply Kd.S_drew)); exact HO226.out) hb); replace HO230 := Aside0.mk (Kd.R_below (by (with_reducible repeat (first | apply Kd.R_alloc | apply Kd.R_drewN | apply Kd.R_drew)); exact HO230.out) hb); replace HB := bs HB hb; (try clear hb); (try clear hb2); (try clear hk); (try clear hi)) | ((with_reducible refine gate_callee (f := 18) rfl ?_); refine gl (some 14) Tryd.func18 #[.int .i64 t231] (h := ?_); (with_reducible refine (lectionarylaw5_num.calls t231 t232 _ A3.out).mono ?_); rintro e w' ⟨rfl, ⟨nd, rfl⟩⟩; refine ⟨_, rfl, ?_⟩) | (go_at_call 18; (with_reducible refine (lectionarylaw5_num.calls t228 t233 _ A5.out).mono ?_); rintro e w' ⟨rfl, ⟨nd, rfl⟩⟩; obtain ⟨Ao20, co20, eo20⟩ := Kd.R_slice HO230.out; subst eo20))
   go_ret
   exact ⟨re, bw HB⟩
  rw [if_neg c6] at H
  have c6b0 : (t233 == 0) = false := beq_eq_false_iff_ne.mpr c6
  have c6b1 : (t233 != 0) = true := bne_iff_ne.mpr c6
  obtain rfl := Option.some.inj H
  go_enter Tryd.func21, Tryd.ntmps21
  go_wp2_with (first | ((with_reducible refine gate_dst (N := 6) rfl ?_); (try (refine gate_guard (by rfl) ?_; dsimp only)); refine Kd.S_lit kOp _ 31 ?hg (N := 6) ?hd (xs := ([(⟨1, 1, 1, (⟨0, 0, 0⟩ : SElem), (⟨#[97]⟩ : ByteArray), ([] : List (SElem)), 0, 0, 0⟩ : SOp), (⟨2, 1, 1, (⟨0, 0, 0⟩ : SElem), (⟨#[98]⟩ : ByteArray), ([] : List (SElem)), 0, 0, 0⟩ : SOp)] : List (SOp))) (inner := [.int .i64 1, .int .i64 1, .int .i64 1, .int .i64 0, .int .i64 0, .int .i64 0, .string (⟨#[97]⟩ : ByteArray), .slice none 0 0, .int .i64 0, .int .i64 0, .int .i64 0, .int .i64 2, .int .i64 1, .int .i64 1, .int .i64 0, .int .i64 0, .int .i64 0, .string (⟨#[98]⟩ : ByteArray), .slice none 0 0, .int .i64 0, .int .i64 0, .int .i64 0]) (ok := fun _ => True) (okp := fun _ => True) ?hr ?hp (fun _ hk => hk) trivial (Below.refl _ _) (Nat.le_refl _) (by simp) ?_; (case hd => rfl); (case hg => rfl); (case hr => first | (go_simp; done) | (go_simp; rfl)); (case hp => exact (Reps.front (show Kd.M kOp _ _ _ (⟨1, 1, 1, (⟨0, 0, 0⟩ : SElem), (⟨#[97]⟩ : ByteArray), ([] : List (SElem)), 0, 0, 0⟩ : SOp) [.int .i64 1, .int .i64 1, .int .i64 1, .int .i64 0, .int .i64 0, .int .i64 0, .string (⟨#[97]⟩ : ByteArray), .slice none 0 0, .int .i64 0, .int .i64 0, .int .i64 0] from (kOp_mkM _ _ _ (⟨1, 1, 1, (⟨0, 0, 0⟩ : SElem), (⟨#[97]⟩ : ByteArray), ([] : List (SElem)), 0, 0, 0⟩ : SOp) (Kd.R_nil _ _ _ _ _))) rfl (Reps.front (show Kd.M kOp _ _ _ (⟨2, 1, 1, (⟨0, 0, 0⟩ : SElem), (⟨#[98]⟩ : ByteArray), ([] : List (SElem)), 0, 0, 0⟩ : SOp) [.int .i64 2, .int .i64 1, .int .i64 1, .int .i64 0, .int .i64 0, .int .i64 0, .string (⟨#[98]⟩ : ByteArray), .slice none 0 0, .int .i64 0, .int .i64 0, .int .i64 0] from (kOp_mkM _ _ _ (⟨2, 1, 1, (⟨0, 0, 0⟩ : SElem), (⟨#[98]⟩ : ByteArray), ([] : List (SElem)), 0, 0, 0⟩ : SOp) (Kd.R_nil _ _ _ _ _))) rfl (Reps.none _ _) rfl) rfl)); intro v225 w21 ho22 hb hg_ hnew_; clear hg_ hnew_; (first | rw [← Ny224.out] at ho22 | (simp only [Int.reduceToNat] at ho22; rw [← Ny224.out] at ho22)); have HO226 := Aside0.mk (Kd.S_lower ho22 (below_size (bw HB))); replace HB := bs HB hb; clear hb ho22; obtain ⟨Ao23, co23, eo23⟩ := Kd.S_slice HO226.out; subst eo23) | ((with_reducible refine gate_callee (f := 25) rfl ?_); refine gl (some 9) Tryd.func25 #[.slice Ao23 y224.length co23] (h := ?_); (with_reducible refine (tree_Order.calls _ _ y224 t227 t228 _ ?side1 ?side2 A1.out).mono ?_); (case side1 => repeat (first | exact (Kd.S_reads' HO226.out).2.2 | (with_reducible refine Kd.C_alloc ?_ _) | (with_reducible refine Kd.C_drewN ?_ _) | (with_reducible refine Kd.C_drew ?_))); (case side2 => exact (Kd.S_reads' HO226.out).2.1); rintro e w24 ⟨v229, rfl, ho0, hb⟩; refine ⟨_, rfl, ?_⟩; have HO230 := Aside0.mk (Kd.R_lower ho0 (below_size (bw HB))); replace HO226 := Aside0.mk (Kd.S_elder' (by (with_reducible repeat (first | apply Kd.S_alloc | apply Kd.S_drewN | apply Kd.S_drew)); exact HO226.out) (Kd.R_base ho0) hb); replace HB := bs HB hb; (try clear hb); (try clear hb2); (try clear hk); (try clear hi); (try clear ho0)) | ((with_reducible refine gate_callee (f := 19) rfl ?_); refine gl (some 13) Tryd.func19 #[.slice Ao23 y224.length co23] (h := ?_); (with_reducible refine (tree_Check.calls _ _ y224 t231 _ ?side1 ?side2 A2.out).mono ?_); (case side1 => repeat (first | exact (Kd.S_reads' HO226.out).2.2 | (with_reducible refine Kd.C_alloc ?_ _) | (with_reducible refine Kd.C_drewN ?_ _) | (with_reducible refine Kd.C_drew ?_))); (case side2 => exact (Kd.S_reads' HO226.out).2.1); rintro e w25 ⟨rfl, hb⟩; refine ⟨_, rfl, ?_⟩; replace HO226 := Aside0.mk (Kd.S_below (by (with_reducible repeat (first | apply Kd.S_alloc | apply Kd.S_drewN | apply Kd.S_drew)); exact HO226.out) hb); replace HO230 := Aside0.mk (Kd.R_below (by (with_reducible repeat (first | apply Kd.R_alloc | apply Kd.R_drewN | apply Kd.R_drew)); exact HO230.out) hb); replace HB := bs HB hb; (try clear hb); (try clear hb2); (try clear hk); (try clear hi)) | ((with_reducible refine gate_callee (f := 18) rfl ?_); refine gl (some 14) Tryd.func18 #[.int .i64 t231] (h := ?_); (with_reducible refine (lectionarylaw5_num.calls t231 t232 _ A3.out).mono ?_); rintro e w' ⟨rfl, ⟨nd, rfl⟩⟩; refine ⟨_, rfl, ?_⟩) | (go_at_call 18; (with_reducible refine (lectionarylaw5_num.calls t228 t233 _ A5.out).mono ?_); rintro e w' ⟨rfl, ⟨nd, rfl⟩⟩))
  go_ret
  exact ⟨re, bw HB⟩
 rw [if_neg c4] at H
 have c4b0 : (t232 == 0) = false := beq_eq_false_iff_ne.mpr c4
 have c4b1 : (t232 != 0) = true := bne_iff_ne.mpr c4
 obtain rfl := Option.some.inj H
 go_enter Tryd.func21, Tryd.ntmps21
 go_wp2_with (first | ((with_reducible refine gate_dst (N := 6) rfl ?_); (try (refine gate_guard (by rfl) ?_; dsimp only)); refine Kd.S_lit kOp _ 31 ?hg (N := 6) ?hd (xs := ([(⟨1, 1, 1, (⟨0, 0, 0⟩ : SElem), (⟨#[97]⟩ : ByteArray), ([] : List (SElem)), 0, 0, 0⟩ : SOp), (⟨2, 1, 1, (⟨0, 0, 0⟩ : SElem), (⟨#[98]⟩ : ByteArray), ([] : List (SElem)), 0, 0, 0⟩ : SOp)] : List (SOp))) (inner := [.int .i64 1, .int .i64 1, .int .i64 1, .int .i64 0, .int .i64 0, .int .i64 0, .string (⟨#[97]⟩ : ByteArray), .slice none 0 0, .int .i64 0, .int .i64 0, .int .i64 0, .int .i64 2, .int .i64 1, .int .i64 1, .int .i64 0, .int .i64 0, .int .i64 0, .string (⟨#[98]⟩ : ByteArray), .slice none 0 0, .int .i64 0, .int .i64 0, .int .i64 0]) (ok := fun _ => True) (okp := fun _ => True) ?hr ?hp (fun _ hk => hk) trivial (Below.refl _ _) (Nat.le_refl _) (by simp) ?_; (case hd => rfl); (case hg => rfl); (case hr => first | (go_simp; done) | (go_simp; rfl)); (case hp => exact (Reps.front (show Kd.M kOp _ _ _ (⟨1, 1, 1, (⟨0, 0, 0⟩ : SElem), (⟨#[97]⟩ : ByteArray), ([] : List (SElem)), 0, 0, 0⟩ : SOp) [.int .i64 1, .int .i64 1, .int .i64 1, .int .i64 0, .int .i64 0, .int .i64 0, .string (⟨#[97]⟩ : ByteArray), .slice none 0 0, .int .i64 0, .int .i64 0, .int .i64 0] from (kOp_mkM _ _ _ (⟨1, 1, 1, (⟨0, 0, 0⟩ : SElem), (⟨#[97]⟩ : ByteArray), ([] : List (SElem)), 0, 0, 0⟩ : SOp) (Kd.R_nil _ _ _ _ _))) rfl (Reps.front (show Kd.M kOp _ _ _ (⟨2, 1, 1, (⟨0, 0, 0⟩ : SElem), (⟨#[98]⟩ : ByteArray), ([] : List (SElem)), 0, 0, 0⟩ : SOp) [.int .i64 2, .int .i64 1, .int .i64 1, .int .i64 0, .int .i64 0, .int .i64 0, .string (⟨#[98]⟩ : ByteArray), .slice none 0 0, .int .i64 0, .int .i64 0, .int .i64 0] from (kOp_mkM _ _ _ (⟨2, 1, 1, (⟨0, 0, 0⟩ : SElem), (⟨#[98]⟩ : ByteArray), ([] : List (SElem)), 0, 0, 0⟩ : SOp) (Kd.R_nil _ _ _ _ _))) rfl (Reps.none _ _) rfl) rfl)); intro v225 w26 ho27 hb hg_ hnew_; clear hg_ hnew_; (first | rw [← Ny224.out] at ho27 | (simp only [Int.reduceToNat] at ho27; rw [← Ny224.out] at ho27)); have HO226 := Aside0.mk (Kd.S_lower ho27 (below_size (bw HB))); replace HB := bs HB hb; clear hb ho27; obtain ⟨Ao28, co28, eo28⟩ := Kd.S_slice HO226.out; subst eo28) | ((with_reducible refine gate_callee (f := 25) rfl ?_); refine gl (some 9) Tryd.func25 #[.slice Ao28 y224.length co28] (h := ?_); (with_reducible refine (tree_Order.calls _ _ y224 t227 t228 _ ?side1 ?side2 A1.out).mono ?_); (case side1 => repeat (first | exact (Kd.S_reads' HO226.out).2.2 | (with_reducible refine Kd.C_alloc ?_ _) | (with_reducible refine Kd.C_drewN ?_ _) | (with_reducible refine Kd.C_drew ?_))); (case side2 => exact (Kd.S_reads' HO226.out).2.1); rintro e w29 ⟨v229, rfl, ho0, hb⟩; refine ⟨_, rfl, ?_⟩; have HO230 := Aside0.mk (Kd.R_lower ho0 (below_size (bw HB))); replace HO226 := Aside0.mk (Kd.S_elder' (by (with_reducible repeat (first | apply Kd.S_alloc | apply Kd.S_drewN | apply Kd.S_drew)); exact HO226.out) (Kd.R_base ho0) hb); replace HB := bs HB hb; (try clear hb); (try clear hb2); (try clear hk); (try clear hi); (try clear ho0)) | ((with_reducible refine gate_callee (f := 19) rfl ?_); refine gl (some 13) Tryd.func19 #[.slice Ao28 y224.length co28] (h := ?_); (with_reducible refine (tree_Check.calls _ _ y224 t231 _ ?side1 ?side2 A2.out).mono ?_); (case side1 => repeat (first | exact (Kd.S_reads' HO226.out).2.2 | (with_reducible refine Kd.C_alloc ?_ _) | (with_reducible refine Kd.C_drewN ?_ _) | (with_reducible refine Kd.C_drew ?_))); (case side2 => exact (Kd.S_reads' HO226.out).2.1); rintro e w30 ⟨rfl, hb⟩; refine ⟨_, rfl, ?_⟩; replace HO226 := Aside0.mk (Kd.S_below (by (with_reducible repeat (first | apply Kd.S_alloc | apply Kd.S_drewN | apply Kd.S_drew)); exact HO226.out) hb); replace HO230 := Aside0.mk (Kd.R_below (by (with_reducible repeat (first | apply Kd.R_alloc | apply Kd.R_drewN | apply Kd.R_drew)); exact HO230.out) hb); replace HB := bs HB hb; (try clear hb); (try clear hb2); (try clear hk); (try clear hi)) | ((with_reducible refine gate_callee (f := 18) rfl ?_); refine gl (some 14) Tryd.func18 #[.int .i64 t231] (h := ?_); (with_reducible refine (lectionarylaw5_num.calls t231 t232 _ A3.out).mono ?_); rintro e w' ⟨rfl, ⟨nd, rfl⟩⟩; refine ⟨_, rfl, ?_⟩))
 go_ret
 exact ⟨re, bw HB⟩
end Go.Proofs.YtdahgnalojekdaaDoor.L
end

section
namespace Go.Proofs.YtdahgnalojekdaaDoor.L
open Go.RowKit Go.Proofs.YtdahgnalojekdaaDoorW.PrintWords Go.Proofs.YtdahgnalojekdaaDoorW.PrintLast Go.Proofs.YtdahgnalojekdaaDoorW.PrintMore
attribute [local go_sem] max2_int min2_int max_two min_two max_three min_three max_four min_four
set_option linter.unusedVariables false
set_option linter.unusedSimpArgs false
attribute [local go_sem high] eqAElem
def lectionaryref4_Under.l0 : Nat → List (SOp) → List (SElem) → Int → Int → Int → Int → Option ((List (SElem)))
 | 0, _, _, _, _, _, _ => none
 | k + 1, x0, x5, x6, x341000, x341001, x341002 => if x6 ≥ 0 then (if 0 ≤ x6 then (if x6 < (x0.length : Int) then (if ((rd_Op x0 x6).f4).toList = ([] : List UInt8) then (lectionaryref4_Under.l0 k x0 x5 (wrap64 (x6 - 1)) x341000 x341001 x341002) else (if (((rd_Op x0 x6).f3.f0) == x341000 && (((rd_Op x0 x6).f3.f1) == x341001 && (((rd_Op x0 x6).f3.f2) == x341002))) = true then (if x5.length < 5864062014805 then (lectionaryref4_Under.l0 k x0 (x5 ++ [(⟨(rd_Op x0 x6).f0, (rd_Op x0 x6).f1, 0⟩ : SElem)]) (wrap64 (x6 - 1)) x341000 x341001 x341002) else (none)) else (lectionaryref4_Under.l0 k x0 x5 (wrap64 (x6 - 1)) x341000 x341001 x341002))) else (none)) else (none)) else ((lectionaryref4_Begin.f x341000 x341001 x341002).bind fun t348 => (if t348 = true then (some x5) else ((lectionaryref4_written.f k x0 x341000 x341001 (wrap64 (x341002 + 1))).bind fun t350 => (if t350 = true then (if x5.length < 5864062014805 then (some (x5 ++ [(⟨x341000, x341001, wrap64 (x341002 + 1)⟩ : SElem)])) else (none)) else (some x5)))))
def lectionaryref4_Under.f (k : Nat) (l0 : List (SOp)) (a1_0 : Int) (a1_1 : Int) (a1_2 : Int) : Option ((List (SElem))) := lectionaryref4_Under.l0 k l0 ([] : List (SElem)) (wrap64 ((l0.length : Int) - 1)) a1_0 a1_1 a1_2
def lectionaryref4_Under.T5 : Bool × List (List Nat × List Nat) := (true, [([], []), ([], []), ([0, 1], [0, 1]), ([2], [2]), ([3], [3]), ([4], [4]), ([5], [5]), ([6], [6]), ([6], [6]), ([7, 8, 6], [6, 7, 8]), ([9, 6], [6, 9]), ([10, 6], [6, 10]), ([6], [6]), ([11, 12, 6], [6, 11, 12]), ([6, 13], [6, 13])])
def lectionaryref4_Under.B5 : List Nat := [0, 0, 3, 7, 15, 31, 63, 127, 127, 511, 1023, 2047, 127, 8191, 16383]
theorem lectionaryref4_Under.tab5 : rtab .any (opsOf Tryd.f33 5) = lectionaryref4_Under.T5 := by kernel_rfl
theorem lectionaryref4_Under.bits5 : waitsOk lectionaryref4_Under.T5.2 lectionaryref4_Under.B5 = true := by kernel_rfl
def lectionaryref4_Under.T6 : Bool × List (List Nat × List Nat) := (true, [([], []), ([], []), ([], []), ([1, 2], [1, 2]), ([3], [3]), ([4], [4]), ([], []), ([], []), ([6, 7], [6, 7]), ([8], [8]), ([9], [9]), ([5, 10], [5, 10]), ([11], [11]), ([0, 12], [0, 12]), ([13, 13, 0, 1, 2, 3, 4, 5, 6, 7, 8, 9, 10, 11, 12, 13], [0, 13])])
def lectionaryref4_Under.B6 : List Nat := [0, 0, 0, 6, 14, 30, 0, 0, 192, 448, 960, 2046, 4094, 8191, 16383]
theorem lectionaryref4_Under.tab6 : rtab .any (opsOf Tryd.f33 6) = lectionaryref4_Under.T6 := by kernel_rfl
theorem lectionaryref4_Under.bits6 : waitsOk lectionaryref4_Under.T6.2 lectionaryref4_Under.B6 = true := by kernel_rfl
set_option maxHeartbeats 8000000 in
set_option maxRecDepth 100000 in
theorem lectionaryref4_Under.calls (k : Nat) (A0 : Option Addr) (c0 : Nat) (l0 : List (SOp)) (a1_0 : Int) (a1_1 : Int) (a1_2 : Int) (r : List (SElem)) (w : World) (hr0 : Kd.C kOp w A0 l0.length l0) (hc0 : l0.length ≤ c0) (hT : GT w) (h : lectionaryref4_Under.f k l0 a1_0 a1_1 a1_2 = some r) :
  Calls Tryd.prog 33 #[.slice A0 l0.length c0, .agg #[.int .i64 a1_0, .int .i64 a1_1, .int .i64 a1_2]] w fun e w' => ∃ v0_ : Value, e = .returned (v0_) ∧ Kd.R kElem 29 w' w.heap.size (fun _ => True) v0_ r ∧ Below w.heap.size w w' := by
 have hu29 := Tryd.underlying29
 have HR0 := Aside0.mk hr0
 have HC0 := Aside0.mk hc0
 clear hr0 hc0
 have HB := Aside0.mk (Below.refl w.heap.size w)
 have H : (lectionaryref4_Under.l0 k l0 ([] : List (SElem)) (wrap64 ((l0.length : Int) - 1)) a1_0 a1_1 a1_2) = some r := h
 clear h
 have H' := Aside0.mk H
 clear H
 go_enter Tryd.func33, Tryd.ntmps33
 go_wp2_with (first | ((with_reducible refine gate_dst (N := 3) rfl ?_); refine bx 3 #[.int .i64 a1_0, .int .i64 a1_1, .int .i64 a1_2] 29 (h := ?_); intro gb340 hg w3 hbox hb; have BK340 := Aside0.mk (hbox); have GW340 := bz HB hg; have GE340 := bz HB hg; replace HB := bs HB hb; clear hb hbox hg))
 go_loopg [5, 6] k (fun kq v5 v6 w' => ∃ (x5_1 : List (SElem)) (x6_1 : Int), v6 = .int .i64 x6_1 ∧ Aside0 (lectionaryref4_Under.l0 kq l0 x5_1 x6_1 a1_0 a1_1 a1_2 = some r) ∧ Aside0 (kq ≤ k) ∧ Aside0 (Kd.R kElem 29 w' w.heap.size (fun k_ => k_ ≠ gb340) v5 x5_1) ∧ Aside0 (w'.heap[gb340]? = some (.cells #[.int .i64 a1_0, .int .i64 a1_1, .int .i64 a1_2] 29 (0, 0))) ∧ Aside0 (Below w.heap.size w w'))
 case atStart => exact ⟨(([] : List (SElem))), (wrap64 ((l0.length : Int) - 1)), rf, H', ⟨Nat.le_refl _⟩, ⟨by first | exact Kd.R_nil _ _ _ _ _ | exact Kd.N_nil _ _ _ _ _ | exact Kd.V_nil _ _ _ _ _ | exact Kd.Q_nil _ _ _ _ _ | exact Kd.S_nil _ _ _ _ _⟩, ⟨kk BK340⟩, ⟨bw HB⟩⟩
 case round =>
  clear H'
  obtain ⟨x5_1, x6_1, rfl, HA, HK1, HO_5, BK340, HB⟩ := hrel
  cases gk with
  | zero => exact absurd HA.out (by simp [lectionaryref4_Under.l0])
  | succ k1 =>
   have H := HA.out
   clear HA
   simp only [lectionaryref4_Under.l0] at H
   by_cases c4 : x6_1 ≥ 0
   ·rw [if_pos c4] at H
    have c4b0 : decide (0 ≤ x6_1) = true := decide_eq_true c4
    clear c4
    by_cases c5 : 0 ≤ x6_1
    ·rw [if_pos c5] at H
     have c5b0 : decide (0 ≤ x6_1) = true := decide_eq_true c5
     clear c5
     by_cases c6 : x6_1 < (l0.length : Int)
     ·rw [if_pos c6] at H
      have c6b0 : decide (x6_1 < (l0.length : Int)) = true := decide_eq_true c6
      clear c6
      by_cases c7 : ((rd_Op l0 x6_1).f4).toList = ([] : List UInt8)
      ·rw [if_pos c7] at H
       have c7b0 : (((rd_Op l0 x6_1).f4).toList == ([] : List UInt8)) = true := beq_iff_eq.mpr c7
       have c7b1 : (((rd_Op l0 x6_1).f4).toList != ([] : List UInt8)) = false := bne_eq_false_iff_eq.mpr c7
       clear c7
       have H' := Aside0.mk H
       clear H
       try go_wp2
       have n0_ := Aside0.mk (Kd.R_drew HO_5.out)
       have n1_ := Aside0.mk (blk_drew BK340.out)
       have n2_ := Aside0.mk (below_drew1 HB.out)
       clear HO_5
       clear BK340
       clear HB
       have HO_5 := n0_
       have BK340 := n1_
       have HB := n2_
       clear n0_ n1_ n2_
       have p341 : 0 ≤ (x6_1 : Int) := of_decide_eq_true (by first | (with_reducible assumption) | assumption)
       have q341 : x6_1 < (l0.length : Int) := of_decide_eq_true (by first | (with_reducible assumption) | assumption)
       obtain ⟨ad341, A341_7, c341_7, e341, hx341_0, hx341_1, hx341_2, hx341_3, hx341_4, hx341_5, hx341_6, hx341_7, hx341_8, hx341_9, hx341_10, hl341_7, hi341_7⟩ := at_Op HR0.out x6_1 p341 q341
       have hw341_10 := hx341_10
       have hw341_9 := hx341_9
       have hw341_8 := hx341_8
       have hw341_7 := hx341_7
       have hw341_6 := hx341_6
       have hw341_5 := hx341_5
       have hw341_4 := hx341_4
       have hw341_3 := hx341_3
       have hw341_2 := hx341_2
       have hw341_1 := hx341_1
       have hw341_0 := hx341_0
       cases e341
       replace hx341_0 := cl HB hx341_0
       replace hx341_1 := cl HB hx341_1
       replace hx341_2 := cl HB hx341_2
       replace hx341_3 := cl HB hx341_3
       replace hx341_4 := cl HB hx341_4
       replace hx341_5 := cl HB hx341_5
       replace hx341_6 := cl HB hx341_6
       replace hx341_7 := cl HB hx341_7
       replace hx341_8 := cl HB hx341_8
       replace hx341_9 := cl HB hx341_9
       replace hx341_10 := cl HB hx341_10
       have HR341_7 := Aside0.mk hi341_7
       have HC341_7 := Aside0.mk hl341_7
       clear hi341_7 hl341_7
       replace p341 := eq_true p341
       replace q341 := eq_true q341
       refine stP (fun w' => w'.cell? (ad341.add ((x6_1).toNat * 11)) = some (.int .i64 ((rd_Op l0 x6_1).f0)) ∧ w'.cell? ⟨(ad341.add ((x6_1).toNat * 11)).block, (ad341.add ((x6_1).toNat * 11)).off + 1, none⟩ = some (.int .i64 ((rd_Op l0 x6_1).f1)) ∧ w'.cell? ⟨(ad341.add ((x6_1).toNat * 11)).block, (ad341.add ((x6_1).toNat * 11)).off + 2, none⟩ = some (.int .i64 ((rd_Op l0 x6_1).f2)) ∧ w'.cell? ⟨(ad341.add ((x6_1).toNat * 11)).block, (ad341.add ((x6_1).toNat * 11)).off + 3, none⟩ = some (.int .i64 ((rd_Op l0 x6_1).f3.f0)) ∧ w'.cell? ⟨(ad341.add ((x6_1).toNat * 11)).block, (ad341.add ((x6_1).toNat * 11)).off + 4, none⟩ = some (.int .i64 ((rd_Op l0 x6_1).f3.f1)) ∧ w'.cell? ⟨(ad341.add ((x6_1).toNat * 11)).block, (ad341.add ((x6_1).toNat * 11)).off + 5, none⟩ = some (.int .i64 ((rd_Op l0 x6_1).f3.f2)) ∧ w'.cell? ⟨(ad341.add ((x6_1).toNat * 11)).block, (ad341.add ((x6_1).toNat * 11)).off + 6, none⟩ = some (.string ((rd_Op l0 x6_1).f4)) ∧ w'.cell? ⟨(ad341.add ((x6_1).toNat * 11)).block, (ad341.add ((x6_1).toNat * 11)).off + 7, none⟩ = some (.slice A341_7 ((rd_Op l0 x6_1).f5).length c341_7) ∧ w'.cell? ⟨(ad341.add ((x6_1).toNat * 11)).block, (ad341.add ((x6_1).toNat * 11)).off + 8, none⟩ = some (.int .i64 ((rd_Op l0 x6_1).f6)) ∧ w'.cell? ⟨(ad341.add ((x6_1).toNat * 11)).block, (ad341.add ((x6_1).toNat * 11)).off + 9, none⟩ = some (.int .i64 ((rd_Op l0 x6_1).f7)) ∧ w'.cell? ⟨(ad341.add ((x6_1).toNat * 11)).block, (ad341.add ((x6_1).toNat * 11)).off + 10, none⟩ = some (.int .i64 ((rd_Op l0 x6_1).f8))) 15 ⟨(cl HB hw341_0), (cl HB hw341_1), (cl HB hw341_2), (cl HB hw341_3), (cl HB hw341_4), (cl HB hw341_5), (cl HB hw341_6), (cl HB hw341_7), (cl HB hw341_8), (cl HB hw341_9), (cl HB hw341_10)⟩ (h := fun hHeld => ?_); refine with_tabW lectionaryref4_Under.tab5 lectionaryref4_Under.bits5 (fun HT_ HW_ => ?_)
       generalize wr.drew = w8 at HO_5 BK340 HB HR341_7 hx341_0 hx341_1 hx341_10 hx341_2 hx341_3 hx341_4 hx341_5 hx341_6 hx341_7 hx341_8 hx341_9 hHeld ⊢
       refine pu HT_ 0 15 1 (h := ?_)
       refine pu HT_ 1 16 3 (h := ?_)
       refine pu HT_ 2 17 7 (h := ?_)
       refine pu HT_ 3 18 15 (h := ?_)
       refine tk HT_ HW_ hHeld 4 19 31 (h := ?_)
       refine pu HT_ 5 20 63 (h := ?_)
       refine pu HT_ 6 21 127 (h := ?_)
       refine off HT_ 7 22 255 (h := ?_)
       refine off HT_ 8 23 511 (h := ?_)
       refine off HT_ 9 24 1023 (h := ?_)
       refine off HT_ 10 25 2047 (h := ?_)
       refine off HT_ 11 26 4095 (h := ?_)
       refine off HT_ 12 27 8191 (h := ?_)
       refine off HT_ 13 28 16383 (h := ?_)
       refine pu HT_ 14 29 32767 (h := ?_)
       refine dn HT_ (h := ?_)
       try go_wp2
       go_roundg k1
       case measure => have := HK1.out; omega
       case rel => exact ⟨(x5_1), (wrap64 (x6_1 - 1)), rf, H', ⟨by have := HK1.out; omega⟩, ⟨by (with_reducible repeat (first | apply Kd.R_alloc | apply Kd.R_drewN | apply Kd.R_drew)); exact HO_5.out⟩, ⟨kk BK340⟩, ⟨bw HB⟩⟩
      rw [if_neg c7] at H
      have c7b0 : (((rd_Op l0 x6_1).f4).toList == ([] : List UInt8)) = false := beq_eq_false_iff_ne.mpr c7
      have c7b1 : (((rd_Op l0 x6_1).f4).toList != ([] : List UInt8)) = true := bne_iff_ne.mpr c7
      by_cases c9 : (((rd_Op l0 x6_1).f3.f0) == a1_0 && (((rd_Op l0 x6_1).f3.f1) == a1_1 && (((rd_Op l0 x6_1).f3.f2) == a1_2))) = true
      ·rw [if_pos c9] at H
       have c9b0 : (((rd_Op l0 x6_1).f3.f0) == a1_0 && (((rd_Op l0 x6_1).f3.f1) == a1_1 && (((rd_Op l0 x6_1).f3.f2) == a1_2))) = true := c9
       (try (have c9b1 : decide (((rd_Op l0 x6_1).f3.f0) = a1_0 && (((rd_Op l0 x6_1).f3.f1) == a1_1 && (((rd_Op l0 x6_1).f3.f2) == a1_2))) = true := by simpa using c9))
       (try (have c9b2 : (((rd_Op l0 x6_1).f3.f0) == a1_0 && (((rd_Op l0 x6_1).f3.f1) == a1_1 && (((rd_Op l0 x6_1).f3.f2) == a1_2))) = true := by simpa using c9))
       clear c9
       by_cases c10 : x5_1.length < 5864062014805
       ·rw [if_pos c10] at H
        have LMc10 := Aside0.mk c10
        clear c10
        obtain ⟨y345, hy345⟩ : ∃ y_ : List (SElem), y_ = (x5_1 ++ [(⟨(rd_Op l0 x6_1).f0, (rd_Op l0 x6_1).f1, 0⟩ : SElem)]) := ⟨_, rfl⟩
        replace H : (lectionaryref4_Under.l0 k1 l0 y345 (wrap64 (x6_1 - 1)) a1_0 a1_1 a1_2) = some r := by first | (rw [hy345]; with_reducible exact H) | (have H2_ := (Option.bind_some _ _).symm.trans H; rw [hy345]; with_reducible exact H2_) | (have H2_ := (Option.bind_some _ _).symm.trans H; with_reducible exact H2_) | with_reducible exact H | (rw [hy345]; exact H) | exact H
        have Ny345 := Aside0.mk hy345
        clear hy345
        have H' := Aside0.mk H
        clear H
        try go_wp2
        have n0_ := Aside0.mk (Kd.R_drew HO_5.out)
        have n1_ := Aside0.mk (blk_drew BK340.out)
        have n2_ := Aside0.mk (below_drew1 HB.out)
        clear HO_5
        clear BK340
        clear HB
        have HO_5 := n0_
        have BK340 := n1_
        have HB := n2_
        clear n0_ n1_ n2_
        have p341 : 0 ≤ (x6_1 : Int) := of_decide_eq_true (by first | (with_reducible assumption) | assumption)
        have q341 : x6_1 < (l0.length : Int) := of_decide_eq_true (by first | (with_reducible assumption) | assumption)
        obtain ⟨ad341, A341_7, c341_7, e341, hx341_0, hx341_1, hx341_2, hx341_3, hx341_4, hx341_5, hx341_6, hx341_7, hx341_8, hx341_9, hx341_10, hl341_7, hi341_7⟩ := at_Op HR0.out x6_1 p341 q341
        have hw341_10 := hx341_10
        have hw341_9 := hx341_9
        have hw341_8 := hx341_8
        have hw341_7 := hx341_7
        have hw341_6 := hx341_6
        have hw341_5 := hx341_5
        have hw341_4 := hx341_4
        have hw341_3 := hx341_3
        have hw341_2 := hx341_2
        have hw341_1 := hx341_1
        have hw341_0 := hx341_0
        cases e341
        replace hx341_0 := cl HB hx341_0
        replace hx341_1 := cl HB hx341_1
        replace hx341_2 := cl HB hx341_2
        replace hx341_3 := cl HB hx341_3
        replace hx341_4 := cl HB hx341_4
        replace hx341_5 := cl HB hx341_5
        replace hx341_6 := cl HB hx341_6
        replace hx341_7 := cl HB hx341_7
        replace hx341_8 := cl HB hx341_8
        replace hx341_9 := cl HB hx341_9
        replace hx341_10 := cl HB hx341_10
        have HR341_7 := Aside0.mk hi341_7
        have HC341_7 := Aside0.mk hl341_7
        clear hi341_7 hl341_7
        replace p341 := eq_true p341
        replace q341 := eq_true q341
        have p342 : 0 ≤ (x6_1 : Int) := of_decide_eq_true (by first | (with_reducible assumption) | assumption)
        have q342 : x6_1 < (l0.length : Int) := of_decide_eq_true (by first | (with_reducible assumption) | assumption)
        obtain ⟨ad342, A342_7, c342_7, e342, hx342_0, hx342_1, hx342_2, hx342_3, hx342_4, hx342_5, hx342_6, hx342_7, hx342_8, hx342_9, hx342_10, hl342_7, hi342_7⟩ := at_Op HR0.out x6_1 p342 q342
        have hw342_10 := hx342_10
        have hw342_9 := hx342_9
        have hw342_8 := hx342_8
        have hw342_7 := hx342_7
        have hw342_6 := hx342_6
        have hw342_5 := hx342_5
        have hw342_4 := hx342_4
        have hw342_3 := hx342_3
        have hw342_2 := hx342_2
        have hw342_1 := hx342_1
        have hw342_0 := hx342_0
        obtain rfl : ad341 = ad342 := (by injection e342)
        replace hx342_0 := cl HB hx342_0
        replace hx342_1 := cl HB hx342_1
        replace hx342_2 := cl HB hx342_2
        replace hx342_3 := cl HB hx342_3
        replace hx342_4 := cl HB hx342_4
        replace hx342_5 := cl HB hx342_5
        replace hx342_6 := cl HB hx342_6
        replace hx342_7 := cl HB hx342_7
        replace hx342_8 := cl HB hx342_8
        replace hx342_9 := cl HB hx342_9
        replace hx342_10 := cl HB hx342_10
        have HR342_7 := Aside0.mk hi342_7
        have HC342_7 := Aside0.mk hl342_7
        clear hi342_7 hl342_7
        replace p342 := eq_true p342
        replace q342 := eq_true q342
        have ea_ := Option.some.inj (hx341_7.symm.trans hx342_7)
        injection ea_ with ea_ en_ ec_
        subst ea_
        subst ec_
        clear en_
        refine stP (fun w' => B3 w' gb340 (.int .i64 a1_0) (.int .i64 a1_1) (.int .i64 a1_2) (w'.cell? (ad341.add ((x6_1).toNat * 11)) = some (.int .i64 ((rd_Op l0 x6_1).f0)) ∧ w'.cell? ⟨(ad341.add ((x6_1).toNat * 11)).block, (ad341.add ((x6_1).toNat * 11)).off + 1, none⟩ = some (.int .i64 ((rd_Op l0 x6_1).f1)) ∧ w'.cell? ⟨(ad341.add ((x6_1).toNat * 11)).block, (ad341.add ((x6_1).toNat * 11)).off + 2, none⟩ = some (.int .i64 ((rd_Op l0 x6_1).f2)) ∧ w'.cell? ⟨(ad341.add ((x6_1).toNat * 11)).block, (ad341.add ((x6_1).toNat * 11)).off + 3, none⟩ = some (.int .i64 ((rd_Op l0 x6_1).f3.f0)) ∧ w'.cell? ⟨(ad341.add ((x6_1).toNat * 11)).block, (ad341.add ((x6_1).toNat * 11)).off + 4, none⟩ = some (.int .i64 ((rd_Op l0 x6_1).f3.f1)) ∧ w'.cell? ⟨(ad341.add ((x6_1).toNat * 11)).block, (ad341.add ((x6_1).toNat * 11)).off + 5, none⟩ = some (.int .i64 ((rd_Op l0 x6_1).f3.f2)) ∧ w'.cell? ⟨(ad341.add ((x6_1).toNat * 11)).block, (ad341.add ((x6_1).toNat * 11)).off + 6, none⟩ = some (.string ((rd_Op l0 x6_1).f4)) ∧ w'.cell? ⟨(ad341.add ((x6_1).toNat * 11)).block, (ad341.add ((x6_1).toNat * 11)).off + 7, none⟩ = some (.slice A341_7 ((rd_Op l0 x6_1).f5).length c341_7) ∧ w'.cell? ⟨(ad341.add ((x6_1).toNat * 11)).block, (ad341.add ((x6_1).toNat * 11)).off + 8, none⟩ = some (.int .i64 ((rd_Op l0 x6_1).f6)) ∧ w'.cell? ⟨(ad341.add ((x6_1).toNat * 11)).block, (ad341.add ((x6_1).toNat * 11)).off + 9, none⟩ = some (.int .i64 ((rd_Op l0 x6_1).f7)) ∧ w'.cell? ⟨(ad341.add ((x6_1).toNat * 11)).block, (ad341.add ((x6_1).toNat * 11)).off + 10, none⟩ = some (.int .i64 ((rd_Op l0 x6_1).f8)) ∧ w'.cell? (ad341.add ((x6_1).toNat * 11)) = some (.int .i64 ((rd_Op l0 x6_1).f0)) ∧ w'.cell? ⟨(ad341.add ((x6_1).toNat * 11)).block, (ad341.add ((x6_1).toNat * 11)).off + 1, none⟩ = some (.int .i64 ((rd_Op l0 x6_1).f1)) ∧ w'.cell? ⟨(ad341.add ((x6_1).toNat * 11)).block, (ad341.add ((x6_1).toNat * 11)).off + 2, none⟩ = some (.int .i64 ((rd_Op l0 x6_1).f2)) ∧ w'.cell? ⟨(ad341.add ((x6_1).toNat * 11)).block, (ad341.add ((x6_1).toNat * 11)).off + 3, none⟩ = some (.int .i64 ((rd_Op l0 x6_1).f3.f0)) ∧ w'.cell? ⟨(ad341.add ((x6_1).toNat * 11)).block, (ad341.add ((x6_1).toNat * 11)).off + 4, none⟩ = some (.int .i64 ((rd_Op l0 x6_1).f3.f1)) ∧ w'.cell? ⟨(ad341.add ((x6_1).toNat * 11)).block, (ad341.add ((x6_1).toNat * 11)).off + 5, none⟩ = some (.int .i64 ((rd_Op l0 x6_1).f3.f2)) ∧ w'.cell? ⟨(ad341.add ((x6_1).toNat * 11)).block, (ad341.add ((x6_1).toNat * 11)).off + 6, none⟩ = some (.string ((rd_Op l0 x6_1).f4)) ∧ w'.cell? ⟨(ad341.add ((x6_1).toNat * 11)).block, (ad341.add ((x6_1).toNat * 11)).off + 7, none⟩ = some (.slice A341_7 ((rd_Op l0 x6_1).f5).length c341_7) ∧ w'.cell? ⟨(ad341.add ((x6_1).toNat * 11)).block, (ad341.add ((x6_1).toNat * 11)).off + 8, none⟩ = some (.int .i64 ((rd_Op l0 x6_1).f6)) ∧ w'.cell? ⟨(ad341.add ((x6_1).toNat * 11)).block, (ad341.add ((x6_1).toNat * 11)).off + 9, none⟩ = some (.int .i64 ((rd_Op l0 x6_1).f7)) ∧ w'.cell? ⟨(ad341.add ((x6_1).toNat * 11)).block, (ad341.add ((x6_1).toNat * 11)).off + 10, none⟩ = some (.int .i64 ((rd_Op l0 x6_1).f8)))) 15 (b3 BK340 ⟨(cl HB hw341_0), (cl HB hw341_1), (cl HB hw341_2), (cl HB hw341_3), (cl HB hw341_4), (cl HB hw341_5), (cl HB hw341_6), (cl HB hw341_7), (cl HB hw341_8), (cl HB hw341_9), (cl HB hw341_10), (cl HB hw342_0), (cl HB hw342_1), (cl HB hw342_2), (cl HB hw342_3), (cl HB hw342_4), (cl HB hw342_5), (cl HB hw342_6), (cl HB hw342_7), (cl HB hw342_8), (cl HB hw342_9), (cl HB hw342_10)⟩) (h := fun hHeld => ?_); refine with_tabW lectionaryref4_Under.tab5 lectionaryref4_Under.bits5 (fun HT_ HW_ => ?_)
        generalize wr.drew = w11 at HO_5 BK340 HB HR341_7 HR342_7 hx341_0 hx341_1 hx341_10 hx341_2 hx341_3 hx341_4 hx341_5 hx341_6 hx341_7 hx341_8 hx341_9 hx342_0 hx342_1 hx342_10 hx342_2 hx342_3 hx342_4 hx342_5 hx342_6 hx342_7 hx342_8 hx342_9 hHeld ⊢
        refine pu HT_ 0 15 1 (h := ?_)
        refine pu HT_ 1 16 3 (h := ?_)
        refine pu HT_ 2 17 7 (h := ?_)
        refine pu HT_ 3 18 15 (h := ?_)
        refine tk HT_ HW_ hHeld 4 19 31 (h := ?_)
        refine pu HT_ 5 20 63 (h := ?_)
        refine pu HT_ 6 21 127 (h := ?_)
        refine pu HT_ 7 22 255 (h := ?_)
        refine pu HT_ 8 23 511 (h := ?_)
        refine pu HT_ 9 24 1023 (h := ?_)
        refine pu HT_ 10 25 2047 (h := ?_)
        refine tk HT_ HW_ hHeld 11 26 4095 (h := ?_)
        refine tk HT_ HW_ hHeld 12 27 8191 (h := ?_)
        refine pu HT_ 13 28 16383 (h := ?_)
        refine pu HT_ 14 29 32767 (h := ?_)
        refine dn HT_ (h := ?_)
        try go_wp2
        have n0_ := Aside0.mk (Kd.R_drew HO_5.out)
        have n1_ := Aside0.mk (blk_drew BK340.out)
        have n2_ := Aside0.mk (below_drew1 HB.out)
        clear HO_5
        clear BK340
        clear HB
        have HO_5 := n0_
        have BK340 := n1_
        have HB := n2_
        clear n0_ n1_ n2_
        have p343 : 0 ≤ (x6_1 : Int) := of_decide_eq_true (by first | (with_reducible assumption) | assumption)
        have q343 : x6_1 < (l0.length : Int) := of_decide_eq_true (by first | (with_reducible assumption) | assumption)
        obtain ⟨ad343, A343_7, c343_7, e343, hx343_0, hx343_1, hx343_2, hx343_3, hx343_4, hx343_5, hx343_6, hx343_7, hx343_8, hx343_9, hx343_10, hl343_7, hi343_7⟩ := at_Op HR0.out x6_1 p343 q343
        have hw343_10 := hx343_10
        have hw343_9 := hx343_9
        have hw343_8 := hx343_8
        have hw343_7 := hx343_7
        have hw343_6 := hx343_6
        have hw343_5 := hx343_5
        have hw343_4 := hx343_4
        have hw343_3 := hx343_3
        have hw343_2 := hx343_2
        have hw343_1 := hx343_1
        have hw343_0 := hx343_0
        obtain rfl : ad341 = ad343 := (by injection e343)
        replace hx343_0 := cl HB hx343_0
        replace hx343_1 := cl HB hx343_1
        replace hx343_2 := cl HB hx343_2
        replace hx343_3 := cl HB hx343_3
        replace hx343_4 := cl HB hx343_4
        replace hx343_5 := cl HB hx343_5
        replace hx343_6 := cl HB hx343_6
        replace hx343_7 := cl HB hx343_7
        replace hx343_8 := cl HB hx343_8
        replace hx343_9 := cl HB hx343_9
        replace hx343_10 := cl HB hx343_10
        have HR343_7 := Aside0.mk hi343_7
        have HC343_7 := Aside0.mk hl343_7
        clear hi343_7 hl343_7
        replace p343 := eq_true p343
        replace q343 := eq_true q343
        have p344 : 0 ≤ (x6_1 : Int) := of_decide_eq_true (by first | (with_reducible assumption) | assumption)
        have q344 : x6_1 < (l0.length : Int) := of_decide_eq_true (by first | (with_reducible assumption) | assumption)
        obtain ⟨ad344, A344_7, c344_7, e344, hx344_0, hx344_1, hx344_2, hx344_3, hx344_4, hx344_5, hx344_6, hx344_7, hx344_8, hx344_9, hx344_10, hl344_7, hi344_7⟩ := at_Op HR0.out x6_1 p344 q344
        have hw344_10 := hx344_10
        have hw344_9 := hx344_9
        have hw344_8 := hx344_8
        have hw344_7 := hx344_7
        have hw344_6 := hx344_6
        have hw344_5 := hx344_5
        have hw344_4 := hx344_4
        have hw344_3 := hx344_3
        have hw344_2 := hx344_2
        have hw344_1 := hx344_1
        have hw344_0 := hx344_0
        obtain rfl : ad341 = ad344 := (by injection e344)
        replace hx344_0 := cl HB hx344_0
        replace hx344_1 := cl HB hx344_1
        replace hx344_2 := cl HB hx344_2
        replace hx344_3 := cl HB hx344_3
        replace hx344_4 := cl HB hx344_4
        replace hx344_5 := cl HB hx344_5
        replace hx344_6 := cl HB hx344_6
        replace hx344_7 := cl HB hx344_7
        replace hx344_8 := cl HB hx344_8
        replace hx344_9 := cl HB hx344_9
        replace hx344_10 := cl HB hx344_10
        have HR344_7 := Aside0.mk hi344_7
        have HC344_7 := Aside0.mk hl344_7
        clear hi344_7 hl344_7
        replace p344 := eq_true p344
        replace q344 := eq_true q344
        have ea_ := Option.some.inj (hx343_7.symm.trans hx344_7)
        injection ea_ with ea_ en_ ec_
        subst ea_
        subst ec_
        clear en_
        refine stP (fun w' => w'.cell? (ad341.add ((x6_1).toNat * 11)) = some (.int .i64 ((rd_Op l0 x6_1).f0)) ∧ w'.cell? ⟨(ad341.add ((x6_1).toNat * 11)).block, (ad341.add ((x6_1).toNat * 11)).off + 1, none⟩ = some (.int .i64 ((rd_Op l0 x6_1).f1)) ∧ w'.cell? ⟨(ad341.add ((x6_1).toNat * 11)).block, (ad341.add ((x6_1).toNat * 11)).off + 2, none⟩ = some (.int .i64 ((rd_Op l0 x6_1).f2)) ∧ w'.cell? ⟨(ad341.add ((x6_1).toNat * 11)).block, (ad341.add ((x6_1).toNat * 11)).off + 3, none⟩ = some (.int .i64 ((rd_Op l0 x6_1).f3.f0)) ∧ w'.cell? ⟨(ad341.add ((x6_1).toNat * 11)).block, (ad341.add ((x6_1).toNat * 11)).off + 4, none⟩ = some (.int .i64 ((rd_Op l0 x6_1).f3.f1)) ∧ w'.cell? ⟨(ad341.add ((x6_1).toNat * 11)).block, (ad341.add ((x6_1).toNat * 11)).off + 5, none⟩ = some (.int .i64 ((rd_Op l0 x6_1).f3.f2)) ∧ w'.cell? ⟨(ad341.add ((x6_1).toNat * 11)).block, (ad341.add ((x6_1).toNat * 11)).off + 6, none⟩ = some (.string ((rd_Op l0 x6_1).f4)) ∧ w'.cell? ⟨(ad341.add ((x6_1).toNat * 11)).block, (ad341.add ((x6_1).toNat * 11)).off + 7, none⟩ = some (.slice A343_7 ((rd_Op l0 x6_1).f5).length c343_7) ∧ w'.cell? ⟨(ad341.add ((x6_1).toNat * 11)).block, (ad341.add ((x6_1).toNat * 11)).off + 8, none⟩ = some (.int .i64 ((rd_Op l0 x6_1).f6)) ∧ w'.cell? ⟨(ad341.add ((x6_1).toNat * 11)).block, (ad341.add ((x6_1).toNat * 11)).off + 9, none⟩ = some (.int .i64 ((rd_Op l0 x6_1).f7)) ∧ w'.cell? ⟨(ad341.add ((x6_1).toNat * 11)).block, (ad341.add ((x6_1).toNat * 11)).off + 10, none⟩ = some (.int .i64 ((rd_Op l0 x6_1).f8)) ∧ w'.cell? (ad341.add ((x6_1).toNat * 11)) = some (.int .i64 ((rd_Op l0 x6_1).f0)) ∧ w'.cell? ⟨(ad341.add ((x6_1).toNat * 11)).block, (ad341.add ((x6_1).toNat * 11)).off + 1, none⟩ = some (.int .i64 ((rd_Op l0 x6_1).f1)) ∧ w'.cell? ⟨(ad341.add ((x6_1).toNat * 11)).block, (ad341.add ((x6_1).toNat * 11)).off + 2, none⟩ = some (.int .i64 ((rd_Op l0 x6_1).f2)) ∧ w'.cell? ⟨(ad341.add ((x6_1).toNat * 11)).block, (ad341.add ((x6_1).toNat * 11)).off + 3, none⟩ = some (.int .i64 ((rd_Op l0 x6_1).f3.f0)) ∧ w'.cell? ⟨(ad341.add ((x6_1).toNat * 11)).block, (ad341.add ((x6_1).toNat * 11)).off + 4, none⟩ = some (.int .i64 ((rd_Op l0 x6_1).f3.f1)) ∧ w'.cell? ⟨(ad341.add ((x6_1).toNat * 11)).block, (ad341.add ((x6_1).toNat * 11)).off + 5, none⟩ = some (.int .i64 ((rd_Op l0 x6_1).f3.f2)) ∧ w'.cell? ⟨(ad341.add ((x6_1).toNat * 11)).block, (ad341.add ((x6_1).toNat * 11)).off + 6, none⟩ = some (.string ((rd_Op l0 x6_1).f4)) ∧ w'.cell? ⟨(ad341.add ((x6_1).toNat * 11)).block, (ad341.add ((x6_1).toNat * 11)).off + 7, none⟩ = some (.slice A343_7 ((rd_Op l0 x6_1).f5).length c343_7) ∧ w'.cell? ⟨(ad341.add ((x6_1).toNat * 11)).block, (ad341.add ((x6_1).toNat * 11)).off + 8, none⟩ = some (.int .i64 ((rd_Op l0 x6_1).f6)) ∧ w'.cell? ⟨(ad341.add ((x6_1).toNat * 11)).block, (ad341.add ((x6_1).toNat * 11)).off + 9, none⟩ = some (.int .i64 ((rd_Op l0 x6_1).f7)) ∧ w'.cell? ⟨(ad341.add ((x6_1).toNat * 11)).block, (ad341.add ((x6_1).toNat * 11)).off + 10, none⟩ = some (.int .i64 ((rd_Op l0 x6_1).f8))) 15 ⟨(cl HB hw343_0), (cl HB hw343_1), (cl HB hw343_2), (cl HB hw343_3), (cl HB hw343_4), (cl HB hw343_5), (cl HB hw343_6), (cl HB hw343_7), (cl HB hw343_8), (cl HB hw343_9), (cl HB hw343_10), (cl HB hw344_0), (cl HB hw344_1), (cl HB hw344_2), (cl HB hw344_3), (cl HB hw344_4), (cl HB hw344_5), (cl HB hw344_6), (cl HB hw344_7), (cl HB hw344_8), (cl HB hw344_9), (cl HB hw344_10)⟩ (h := fun hHeld => ?_); refine with_tabW lectionaryref4_Under.tab6 lectionaryref4_Under.bits6 (fun HT_ HW_ => ?_)
        generalize w11.drew = w12 at HO_5 BK340 HB HR343_7 HR344_7 hx343_0 hx343_1 hx343_10 hx343_2 hx343_3 hx343_4 hx343_5 hx343_6 hx343_7 hx343_8 hx343_9 hx344_0 hx344_1 hx344_10 hx344_2 hx344_3 hx344_4 hx344_5 hx344_6 hx344_7 hx344_8 hx344_9 hHeld ⊢
        refine pu HT_ 0 30 1 (h := ?_)
        refine pu HT_ 1 31 3 (h := ?_)
        refine pu HT_ 2 32 7 (h := ?_)
        refine pu HT_ 3 33 15 (h := ?_)
        refine pu HT_ 4 34 31 (h := ?_)
        refine pu HT_ 6 36 95 (h := ?_)
        refine pu HT_ 7 37 223 (h := ?_)
        refine pu HT_ 8 38 479 (h := ?_)
        refine pu HT_ 9 39 991 (h := ?_)
        refine tk HT_ HW_ hHeld 5 35 1023 (h := ?_)
        refine tk HT_ HW_ hHeld 10 40 2047 (h := ?_)
        refine pu HT_ 11 41 4095 (h := ?_)
        refine on HT_ 12 (some 42) 8191 (h := fun K hK => ?_)
        refine value_ (w1 := ?_) (v := ?_) (by rfl) rfl ?_ ?_
        rotate_left 2
        ·go_simp
         constructor
         ·rfl
         rfl
        refine hK.out _ _ ⟨(World.cell?_alloc_lt _ _ _ (World.block_lt_of_cell? _ _ ((cl HB hw343_0)))).trans ((cl HB hw343_0)), (World.cell?_alloc_lt _ _ _ (World.block_lt_of_cell? _ _ ((cl HB hw343_1)))).trans ((cl HB hw343_1)), (World.cell?_alloc_lt _ _ _ (World.block_lt_of_cell? _ _ ((cl HB hw343_2)))).trans ((cl HB hw343_2)), (World.cell?_alloc_lt _ _ _ (World.block_lt_of_cell? _ _ ((cl HB hw343_3)))).trans ((cl HB hw343_3)), (World.cell?_alloc_lt _ _ _ (World.block_lt_of_cell? _ _ ((cl HB hw343_4)))).trans ((cl HB hw343_4)), (World.cell?_alloc_lt _ _ _ (World.block_lt_of_cell? _ _ ((cl HB hw343_5)))).trans ((cl HB hw343_5)), (World.cell?_alloc_lt _ _ _ (World.block_lt_of_cell? _ _ ((cl HB hw343_6)))).trans ((cl HB hw343_6)), (World.cell?_alloc_lt _ _ _ (World.block_lt_of_cell? _ _ ((cl HB hw343_7)))).trans ((cl HB hw343_7)), (World.cell?_alloc_lt _ _ _ (World.block_lt_of_cell? _ _ ((cl HB hw343_8)))).trans ((cl HB hw343_8)), (World.cell?_alloc_lt _ _ _ (World.block_lt_of_cell? _ _ ((cl HB hw343_9)))).trans ((cl HB hw343_9)), (World.cell?_alloc_lt _ _ _ (World.block_lt_of_cell? _ _ ((cl HB hw343_10)))).trans ((cl HB hw343_10)), (World.cell?_alloc_lt _ _ _ (World.block_lt_of_cell? _ _ ((cl HB hw344_0)))).trans ((cl HB hw344_0)), (World.cell?_alloc_lt _ _ _ (World.block_lt_of_cell? _ _ ((cl HB hw344_1)))).trans ((cl HB hw344_1)), (World.cell?_alloc_lt _ _ _ (World.block_lt_of_cell? _ _ ((cl HB hw344_2)))).trans ((cl HB hw344_2)), (World.cell?_alloc_lt _ _ _ (World.block_lt_of_cell? _ _ ((cl HB hw344_3)))).trans ((cl HB hw344_3)), (World.cell?_alloc_lt _ _ _ (World.block_lt_of_cell? _ _ ((cl HB hw344_4)))).trans ((cl HB hw344_4)), (World.cell?_alloc_lt _ _ _ (World.block_lt_of_cell? _ _ ((cl HB hw344_5)))).trans ((cl HB hw344_5)), (World.cell?_alloc_lt _ _ _ (World.block_lt_of_cell? _ _ ((cl HB hw344_6)))).trans ((cl HB hw344_6)), (World.cell?_alloc_lt _ _ _ (World.block_lt_of_cell? _ _ ((cl HB hw344_7)))).trans ((cl HB hw344_7)), (World.cell?_alloc_lt _ _ _ (World.block_lt_of_cell? _ _ ((cl HB hw344_8)))).trans ((cl HB hw344_8)), (World.cell?_alloc_lt _ _ _ (World.block_lt_of_cell? _ _ ((cl HB hw344_9)))).trans ((cl HB hw344_9)), (World.cell?_alloc_lt _ _ _ (World.block_lt_of_cell? _ _ ((cl HB hw344_10)))).trans ((cl HB hw344_10))⟩ (fun hHeld => ?_)
        clear hK K
        refine nm (h := ?_)
        refine on HT_ 13 (some 43) 16383 (h := fun K hK => ?_)
        refine Kd.R_append_step kElem (w0 := w) w.heap.size (by rfl) (.tmp 30) (.tmp 42) 23 29 (.agg #[(.int .i64 0), (.int .i64 0), (.int .i64 0)]) 24 rfl Tryd.underlying23 info29 rfl (by decide) (by omega) u5 x5_1 (⟨(rd_Op l0 x6_1).f0, (rd_Op l0 x6_1).f1, 0⟩ : SElem) [.int .i64 ((rd_Op l0 x6_1).f0), .int .i64 ((rd_Op l0 x6_1).f1), .int .i64 0] (fun k_ => k_ ≠ gb340) (fun _ => False) rfl rfl ?aP (fun _ hk => hk.elim) ?aF ?aO ?aB ?aS ?aL ?_
        (case aP => exact kElem_mkM _ _ _ (⟨(rd_Op l0 x6_1).f0, (rd_Op l0 x6_1).f1, 0⟩ : SElem))
        (case aB => exact (bw HB))
        (case aF => exact (fun k_ hk => Kd.freshB (kk BK340) k_ hk))
        (case aO => exact (by (with_reducible repeat (first | apply Kd.R_alloc | apply Kd.R_drewN | apply Kd.R_drew)); exact HO_5.out))
        (case aS => exact (below_size (bw HB)))
        (case aL => have := LMc10.out; omega)
        intro v346 w13 ho hb hg hat
        rw [← Ny345.out] at ho
        have n0_ := Aside0.mk (blk_grown (kk BK340) hg (Kd.R_away HO_5.out (fun _ hk => hk)))
        have n1_ := Aside0.mk (hb)
        have n2_ := Aside0.mk (ho)
        clear BK340
        clear HB
        clear HO_5
        have BK340 := n0_
        have HB := n1_
        have HO347 := n2_
        clear n0_ n1_ n2_
        clear ho hb hg hat
        refine hK.out _ _ ⟨(cl HB hw343_0), (cl HB hw343_1), (cl HB hw343_2), (cl HB hw343_3), (cl HB hw343_4), (cl HB hw343_5), (cl HB hw343_6), (cl HB hw343_7), (cl HB hw343_8), (cl HB hw343_9), (cl HB hw343_10), (cl HB hw344_0), (cl HB hw344_1), (cl HB hw344_2), (cl HB hw344_3), (cl HB hw344_4), (cl HB hw344_5), (cl HB hw344_6), (cl HB hw344_7), (cl HB hw344_8), (cl HB hw344_9), (cl HB hw344_10)⟩ (fun hHeld => ?_)
        clear hK K
        refine nm (h := ?_)
        refine pu HT_ 14 5 32767 (h := ?_)
        refine dn HT_ (h := ?_)
        try go_wp2
        go_roundg k1
        case measure => have := HK1.out; omega
        case rel => exact ⟨(y345), (wrap64 (x6_1 - 1)), rf, H', ⟨by have := HK1.out; omega⟩, ⟨by (with_reducible repeat (first | apply Kd.R_alloc | apply Kd.R_drewN | apply Kd.R_drew)); exact HO347.out⟩, ⟨kk BK340⟩, ⟨bw HB⟩⟩
       rw [if_neg c10] at H
       exact absurd H (by simp)
      rw [if_neg c9] at H
      have c9b0 : (((rd_Op l0 x6_1).f3.f0) == a1_0 && (((rd_Op l0 x6_1).f3.f1) == a1_1 && (((rd_Op l0 x6_1).f3.f2) == a1_2))) = false := by simpa using c9
      (try (have c9b1 : decide (((rd_Op l0 x6_1).f3.f0) = a1_0 && (((rd_Op l0 x6_1).f3.f1) == a1_1 && (((rd_Op l0 x6_1).f3.f2) == a1_2))) = false := by simpa using c9))
      (try (have c9b2 : (((rd_Op l0 x6_1).f3.f0) == a1_0 && (((rd_Op l0 x6_1).f3.f1) == a1_1 && (((rd_Op l0 x6_1).f3.f2) == a1_2))) = false := by simpa using c9))
      (try (have c9b3 : ¬ (((rd_Op l0 x6_1).f3.f0) = a1_0 && (((rd_Op l0 x6_1).f3.f1) == a1_1 && (((rd_Op l0 x6_1).f3.f2) == a1_2))) := by simpa using c9))
      clear c9
      have H' := Aside0.mk H
      clear H
      try go_wp2
      have n0_ := Aside0.mk (Kd.R_drew HO_5.out)
      have n1_ := Aside0.mk (blk_drew BK340.out)
      have n2_ := Aside0.mk (below_drew1 HB.out)
      clear HO_5
      clear BK340
      clear HB
      have HO_5 := n0_
      have BK340 := n1_
      have HB := n2_
      clear n0_ n1_ n2_
      have p341 : 0 ≤ (x6_1 : Int) := of_decide_eq_true (by first | (with_reducible assumption) | assumption)
      have q341 : x6_1 < (l0.length : Int) := of_decide_eq_true (by first | (with_reducible assumption) | assumption)
      obtain ⟨ad341, A341_7, c341_7, e341, hx341_0, hx341_1, hx341_2, hx341_3, hx341_4, hx341_5, hx341_6, hx341_7, hx341_8, hx341_9, hx341_10, hl341_7, hi341_7⟩ := at_Op HR0.out x6_1 p341 q341
      have hw341_10 := hx341_10
      have hw341_9 := hx341_9
      have hw341_8 := hx341_8
      have hw341_7 := hx341_7
      have hw341_6 := hx341_6
      have hw341_5 := hx341_5
      have hw341_4 := hx341_4
      have hw341_3 := hx341_3
      have hw341_2 := hx341_2
      have hw341_1 := hx341_1
      have hw341_0 := hx341_0
      cases e341
      replace hx341_0 := cl HB hx341_0
      replace hx341_1 := cl HB hx341_1
      replace hx341_2 := cl HB hx341_2
      replace hx341_3 := cl HB hx341_3
      replace hx341_4 := cl HB hx341_4
      replace hx341_5 := cl HB hx341_5
      replace hx341_6 := cl HB hx341_6
      replace hx341_7 := cl HB hx341_7
      replace hx341_8 := cl HB hx341_8
      replace hx341_9 := cl HB hx341_9
      replace hx341_10 := cl HB hx341_10
      have HR341_7 := Aside0.mk hi341_7
      have HC341_7 := Aside0.mk hl341_7
      clear hi341_7 hl341_7
      replace p341 := eq_true p341
      replace q341 := eq_true q341
      have p342 : 0 ≤ (x6_1 : Int) := of_decide_eq_true (by first | (with_reducible assumption) | assumption)
      have q342 : x6_1 < (l0.length : Int) := of_decide_eq_true (by first | (with_reducible assumption) | assumption)
      obtain ⟨ad342, A342_7, c342_7, e342, hx342_0, hx342_1, hx342_2, hx342_3, hx342_4, hx342_5, hx342_6, hx342_7, hx342_8, hx342_9, hx342_10, hl342_7, hi342_7⟩ := at_Op HR0.out x6_1 p342 q342
      have hw342_10 := hx342_10
      have hw342_9 := hx342_9
      have hw342_8 := hx342_8
      have hw342_7 := hx342_7
      have hw342_6 := hx342_6
      have hw342_5 := hx342_5
      have hw342_4 := hx342_4
      have hw342_3 := hx342_3
      have hw342_2 := hx342_2
      have hw342_1 := hx342_1
      have hw342_0 := hx342_0
      obtain rfl : ad341 = ad342 := (by injection e342)
      replace hx342_0 := cl HB hx342_0
      replace hx342_1 := cl HB hx342_1
      replace hx342_2 := cl HB hx342_2
      replace hx342_3 := cl HB hx342_3
      replace hx342_4 := cl HB hx342_4
      replace hx342_5 := cl HB hx342_5
      replace hx342_6 := cl HB hx342_6
      replace hx342_7 := cl HB hx342_7
      replace hx342_8 := cl HB hx342_8
      replace hx342_9 := cl HB hx342_9
      replace hx342_10 := cl HB hx342_10
      have HR342_7 := Aside0.mk hi342_7
      have HC342_7 := Aside0.mk hl342_7
      clear hi342_7 hl342_7
      replace p342 := eq_true p342
      replace q342 := eq_true q342
      have ea_ := Option.some.inj (hx341_7.symm.trans hx342_7)
      injection ea_ with ea_ en_ ec_
      subst ea_
      subst ec_
      clear en_
      refine stP (fun w' => B3 w' gb340 (.int .i64 a1_0) (.int .i64 a1_1) (.int .i64 a1_2) (w'.cell? (ad341.add ((x6_1).toNat * 11)) = some (.int .i64 ((rd_Op l0 x6_1).f0)) ∧ w'.cell? ⟨(ad341.add ((x6_1).toNat * 11)).block, (ad341.add ((x6_1).toNat * 11)).off + 1, none⟩ = some (.int .i64 ((rd_Op l0 x6_1).f1)) ∧ w'.cell? ⟨(ad341.add ((x6_1).toNat * 11)).block, (ad341.add ((x6_1).toNat * 11)).off + 2, none⟩ = some (.int .i64 ((rd_Op l0 x6_1).f2)) ∧ w'.cell? ⟨(ad341.add ((x6_1).toNat * 11)).block, (ad341.add ((x6_1).toNat * 11)).off + 3, none⟩ = some (.int .i64 ((rd_Op l0 x6_1).f3.f0)) ∧ w'.cell? ⟨(ad341.add ((x6_1).toNat * 11)).block, (ad341.add ((x6_1).toNat * 11)).off + 4, none⟩ = some (.int .i64 ((rd_Op l0 x6_1).f3.f1)) ∧ w'.cell? ⟨(ad341.add ((x6_1).toNat * 11)).block, (ad341.add ((x6_1).toNat * 11)).off + 5, none⟩ = some (.int .i64 ((rd_Op l0 x6_1).f3.f2)) ∧ w'.cell? ⟨(ad341.add ((x6_1).toNat * 11)).block, (ad341.add ((x6_1).toNat * 11)).off + 6, none⟩ = some (.string ((rd_Op l0 x6_1).f4)) ∧ w'.cell? ⟨(ad341.add ((x6_1).toNat * 11)).block, (ad341.add ((x6_1).toNat * 11)).off + 7, none⟩ = some (.slice A341_7 ((rd_Op l0 x6_1).f5).length c341_7) ∧ w'.cell? ⟨(ad341.add ((x6_1).toNat * 11)).block, (ad341.add ((x6_1).toNat * 11)).off + 8, none⟩ = some (.int .i64 ((rd_Op l0 x6_1).f6)) ∧ w'.cell? ⟨(ad341.add ((x6_1).toNat * 11)).block, (ad341.add ((x6_1).toNat * 11)).off + 9, none⟩ = some (.int .i64 ((rd_Op l0 x6_1).f7)) ∧ w'.cell? ⟨(ad341.add ((x6_1).toNat * 11)).block, (ad341.add ((x6_1).toNat * 11)).off + 10, none⟩ = some (.int .i64 ((rd_Op l0 x6_1).f8)) ∧ w'.cell? (ad341.add ((x6_1).toNat * 11)) = some (.int .i64 ((rd_Op l0 x6_1).f0)) ∧ w'.cell? ⟨(ad341.add ((x6_1).toNat * 11)).block, (ad341.add ((x6_1).toNat * 11)).off + 1, none⟩ = some (.int .i64 ((rd_Op l0 x6_1).f1)) ∧ w'.cell? ⟨(ad341.add ((x6_1).toNat * 11)).block, (ad341.add ((x6_1).toNat * 11)).off + 2, none⟩ = some (.int .i64 ((rd_Op l0 x6_1).f2)) ∧ w'.cell? ⟨(ad341.add ((x6_1).toNat * 11)).block, (ad341.add ((x6_1).toNat * 11)).off + 3, none⟩ = some (.int .i64 ((rd_Op l0 x6_1).f3.f0)) ∧ w'.cell? ⟨(ad341.add ((x6_1).toNat * 11)).block, (ad341.add ((x6_1).toNat * 11)).off + 4, none⟩ = some (.int .i64 ((rd_Op l0 x6_1).f3.f1)) ∧ w'.cell? ⟨(ad341.add ((x6_1).toNat * 11)).block, (ad341.add ((x6_1).toNat * 11)).off + 5, none⟩ = some (.int .i64 ((rd_Op l0 x6_1).f3.f2)) ∧ w'.cell? ⟨(ad341.add ((x6_1).toNat * 11)).block, (ad341.add ((x6_1).toNat * 11)).off + 6, none⟩ = some (.string ((rd_Op l0 x6_1).f4)) ∧ w'.cell? ⟨(ad341.add ((x6_1).toNat * 11)).block, (ad341.add ((x6_1).toNat * 11)).off + 7, none⟩ = some (.slice A341_7 ((rd_Op l0 x6_1).f5).length c341_7) ∧ w'.cell? ⟨(ad341.add ((x6_1).toNat * 11)).block, (ad341.add ((x6_1).toNat * 11)).off + 8, none⟩ = some (.int .i64 ((rd_Op l0 x6_1).f6)) ∧ w'.cell? ⟨(ad341.add ((x6_1).toNat * 11)).block, (ad341.add ((x6_1).toNat * 11)).off + 9, none⟩ = some (.int .i64 ((rd_Op l0 x6_1).f7)) ∧ w'.cell? ⟨(ad341.add ((x6_1).toNat * 11)).block, (ad341.add ((x6_1).toNat * 11)).off + 10, none⟩ = some (.int .i64 ((rd_Op l0 x6_1).f8)))) 15 (b3 BK340 ⟨(cl HB hw341_0), (cl HB hw341_1), (cl HB hw341_2), (cl HB hw341_3), (cl HB hw341_4), (cl HB hw341_5), (cl HB hw341_6), (cl HB hw341_7), (cl HB hw341_8), (cl HB hw341_9), (cl HB hw341_10), (cl HB hw342_0), (cl HB hw342_1), (cl HB hw342_2), (cl HB hw342_3), (cl HB hw342_4), (cl HB hw342_5), (cl HB hw342_6), (cl HB hw342_7), (cl HB hw342_8), (cl HB hw342_9), (cl HB hw342_10)⟩) (h := fun hHeld => ?_); refine with_tabW lectionaryref4_Under.tab5 lectionaryref4_Under.bits5 (fun HT_ HW_ => ?_)
      generalize wr.drew = w14 at HO_5 BK340 HB HR341_7 HR342_7 hx341_0 hx341_1 hx341_10 hx341_2 hx341_3 hx341_4 hx341_5 hx341_6 hx341_7 hx341_8 hx341_9 hx342_0 hx342_1 hx342_10 hx342_2 hx342_3 hx342_4 hx342_5 hx342_6 hx342_7 hx342_8 hx342_9 hHeld ⊢
      refine pu HT_ 0 15 1 (h := ?_)
      refine pu HT_ 1 16 3 (h := ?_)
      refine pu HT_ 2 17 7 (h := ?_)
      refine pu HT_ 3 18 15 (h := ?_)
      refine tk HT_ HW_ hHeld 4 19 31 (h := ?_)
      refine pu HT_ 5 20 63 (h := ?_)
      refine pu HT_ 6 21 127 (h := ?_)
      refine pu HT_ 7 22 255 (h := ?_)
      refine pu HT_ 8 23 511 (h := ?_)
      refine pu HT_ 9 24 1023 (h := ?_)
      refine pu HT_ 10 25 2047 (h := ?_)
      refine tk HT_ HW_ hHeld 11 26 4095 (h := ?_)
      refine tk HT_ HW_ hHeld 12 27 8191 (h := ?_)
      refine pu HT_ 13 28 16383 (h := ?_)
      refine pu HT_ 14 29 32767 (h := ?_)
      refine dn HT_ (h := ?_)
      try go_wp2
      go_roundg k1
      case measure => have := HK1.out; omega
      case rel => exact ⟨(x5_1), (wrap64 (x6_1 - 1)), rf, H', ⟨by have := HK1.out; omega⟩, ⟨by (with_reducible repeat (first | apply Kd.R_alloc | apply Kd.R_drewN | apply Kd.R_drew)); exact HO_5.out⟩, ⟨kk BK340⟩, ⟨bw HB⟩⟩
     rw [if_neg c6] at H
     exact absurd H (by simp)
    rw [if_neg c5] at H
    exact absurd H (by simp)
   rw [if_neg c4] at H
   have c4b0 : decide (0 ≤ x6_1) = false := decide_eq_false c4
   clear c4
   replace H := Option.bind_eq_some_iff.mp H
   obtain ⟨t348, A150, H⟩ := H
   replace H : (if t348 = true then (some x5_1) else ((lectionaryref4_written.f k1 l0 a1_0 a1_1 (wrap64 (a1_2 + 1))).bind fun t350 => (if t350 = true then (if x5_1.length < 5864062014805 then (some (x5_1 ++ [(⟨a1_0, a1_1, wrap64 (a1_2 + 1)⟩ : SElem)])) else (none)) else (some x5_1)))) = some r := H
   have A15 := Aside0.mk A150
   clear A150
   by_cases c16 : t348 = true
   ·subst c16
    have H1 : (some x5_1) = some r := by rw [if_pos rfl] at H; exact H
    clear H
    have H := H1
    clear H1
    obtain rfl := Option.some.inj H
    obtain ⟨hcz17_0, hcz17_1, hcz17_2, hfz17_0, hfz17_1, hfz17_2⟩ := kc3 BK340
    go_wp2_with (first | ((with_reducible refine gate_callee (f := 77) rfl ?_); refine gl (some 45) Tryd.func77 #[.agg #[.int .i64 a1_0, .int .i64 a1_1, .int .i64 a1_2]] (h := ?_); (with_reducible refine (lectionaryref4_Begin.calls a1_0 a1_1 a1_2 true _ A15.out).mono ?_); rintro e w18 ⟨rfl, hb⟩; refine ⟨_, rfl, ?_⟩; replace HO_5 := Aside0.mk (Kd.R_below (by (with_reducible repeat (first | apply Kd.R_alloc | apply Kd.R_drewN | apply Kd.R_drew)); exact HO_5.out) hb); replace BK340 := bl BK340 hb; replace HB := bs HB hb; (try clear hb); (try clear hb2); (try clear hk); (try clear hi)))
    go_ret
    exact ⟨_, re, by (with_reducible repeat (first | apply Kd.R_alloc | apply Kd.R_drewN | apply Kd.R_drew)); exact Kd.R_mono HO_5.out (fun _ hk => trivial), bw HB⟩
   replace c16 := Bool.eq_false_iff.mpr c16
   subst c16
   have H1 : ((lectionaryref4_written.f k1 l0 a1_0 a1_1 (wrap64 (a1_2 + 1))).bind fun t350 => (if t350 = true then (if x5_1.length < 5864062014805 then (some (x5_1 ++ [(⟨a1_0, a1_1, wrap64 (a1_2 + 1)⟩ : SElem)])) else (none)) else (some x5_1))) = some r := by rw [if_neg (show ¬ (false = true) by decide)] at H; exact H
   clear H
   have H := H1
   clear H1
   replace H := Option.bind_eq_some_iff.mp H
   obtain ⟨t350, A190, H⟩ := H
   replace H : (if t350 = true then (if x5_1.length < 5864062014805 then (some (x5_1 ++ [(⟨a1_0, a1_1, wrap64 (a1_2 + 1)⟩ : SElem)])) else (none)) else (some x5_1)) = some r := H
   have A19 := Aside0.mk A190
   clear A190
   by_cases c20 : t350 = true
   ·subst c20
    have H1 : (if x5_1.length < 5864062014805 then (some (x5_1 ++ [(⟨a1_0, a1_1, wrap64 (a1_2 + 1)⟩ : SElem)])) else (none)) = some r := by rw [if_pos rfl] at H; exact H
    clear H
    have H := H1
    clear H1
    by_cases c21 : x5_1.length < 5864062014805
    ·rw [if_pos c21] at H
     have LMc21 := Aside0.mk c21
     clear c21
     obtain ⟨y351, hy351⟩ : ∃ y_ : List (SElem), y_ = (x5_1 ++ [(⟨a1_0, a1_1, wrap64 (a1_2 + 1)⟩ : SElem)]) := ⟨_, rfl⟩
     replace H : (some y351) = some r := by first | (rw [hy351]; with_reducible exact H) | (have H2_ := (Option.bind_some _ _).symm.trans H; rw [hy351]; with_reducible exact H2_) | (have H2_ := (Option.bind_some _ _).symm.trans H; with_reducible exact H2_) | with_reducible exact H | (rw [hy351]; exact H) | exact H
     have Ny351 := Aside0.mk hy351
     clear hy351
     obtain rfl := Option.some.inj H
     obtain ⟨hcz22_0, hcz22_1, hcz22_2, hfz22_0, hfz22_1, hfz22_2⟩ := kc3 BK340
     go_wp2_with (first | ((with_reducible refine gate_callee (f := 77) rfl ?_); refine gl (some 45) Tryd.func77 #[.agg #[.int .i64 a1_0, .int .i64 a1_1, .int .i64 a1_2]] (h := ?_); (with_reducible refine (lectionaryref4_Begin.calls a1_0 a1_1 a1_2 false _ A15.out).mono ?_); rintro e w23 ⟨rfl, hb⟩; refine ⟨_, rfl, ?_⟩; replace HO_5 := Aside0.mk (Kd.R_below (by (with_reducible repeat (first | apply Kd.R_alloc | apply Kd.R_drewN | apply Kd.R_drew)); exact HO_5.out) hb); replace BK340 := bl BK340 hb; replace HB := bs HB hb; (try clear hb); (try clear hb2); (try clear hk); (try clear hi); obtain ⟨hcz24_0, hcz24_1, hcz24_2, hfz24_0, hfz24_1, hfz24_2⟩ := kc3 BK340) | ((with_reducible refine gate_dst (N := 7) rfl ?_); refine bx 7 #[.int .i64 0, .int .i64 0, .int .i64 0] 29 (h := ?_); intro gb349 hg w25 hbox hb; have BK349 := Aside0.mk (hbox); have GW349 := bz HB hg; have GE349 := bz HB hg; have NB340_349 := bn BK340 hg; have NB349_340 := bm BK340 hg; replace HO_5 := Aside0.mk (Kd.R_below (Kd.R_elderB (by (with_reducible repeat (first | apply Kd.R_alloc | apply Kd.R_drewN | apply Kd.R_drew)); exact HO_5.out) gb349 (Nat.le_of_eq hg.symm)) hb); replace BK340 := bl BK340 hb; replace HB := bs HB hb; clear hb hbox hg; have hnb26 := NB349_340.out; have hnc26 := NB340_349.out; obtain ⟨hcz27_0, hcz27_1, hcz27_2, hfz27_0, hfz27_1, hfz27_2⟩ := kc3 BK349) | ((with_reducible refine gate_callee (f := 82) rfl ?_); refine gl (some 57) Tryd.func82 #[.slice A0 l0.length c0, .agg #[.int .i64 a1_0, .int .i64 a1_1, .int .i64 (wrap64 (a1_2 + 1))]] (h := ?_); (with_reducible refine (lectionaryref4_written.calls k1 _ _ l0 a1_0 a1_1 (wrap64 (a1_2 + 1)) true _ ?side1 ?side2 ?side3 A19.out).mono ?_); (case side1 => exact Kd.C_below HR0.out (bw HB)); (case side2 => exact HC0.out); (case side3 => exact (hT.below (bw HB))); rintro e w28 ⟨rfl, hb⟩; refine ⟨_, rfl, ?_⟩; replace HO_5 := Aside0.mk (Kd.R_below (by (with_reducible repeat (first | apply Kd.R_alloc | apply Kd.R_drewN | apply Kd.R_drew)); exact (Kd.R_mono (Kd.R_far (p := ⟨gb349, 2, none⟩) (Kd.R_far (p := ⟨gb349, 1, none⟩) (Kd.R_far (p := ⟨gb349, 0, none⟩) (Kd.R_mono HO_5.out (fun k_ hk => (⟨hk, hk.2⟩ : _ ∧ k_ ≠ gb349))) (fun _ hk => hk.2) (.int .i64 a1_0)) (fun _ hk => hk.2) (.int .i64 a1_1)) (fun _ hk => hk.2) (.int .i64 (wrap64 (a1_2 + 1)))) (fun _ h_ => h_.1))) hb); replace BK340 := bl BK340 hb; replace BK349 := Aside0.mk (blk_below (g := gb349) (o := .cells #[.int .i64 a1_0, .int .i64 a1_1, .int .i64 (wrap64 (a1_2 + 1))] 29 (0, 0)) (bp (bp (bp (kk BK349) 0) 1) 2) hb); replace HB := bs HB hb; (try clear hb); (try clear hb2); (try clear hk); (try clear hi); obtain ⟨hcz29_0, hcz29_1, hcz29_2, hfz29_0, hfz29_1, hfz29_2⟩ := kc3 BK349) | ((with_reducible refine gate_builtin (b := .append) (xs := #[.tmp 58, .tmp 60]) rfl ?_); at_builtin; refine Kd.R_append kElem (w0 := w) w.heap.size rfl (.tmp 58) (.tmp 60) 23 29 (.agg #[(.int .i64 0), (.int .i64 0), (.int .i64 0)]) 24 rfl Tryd.underlying23 info29 rfl (by decide) (by omega) u5 x5_1 (⟨a1_0, a1_1, wrap64 (a1_2 + 1)⟩ : SElem) [.int .i64 a1_0, .int .i64 a1_1, .int .i64 (wrap64 (a1_2 + 1))] (fun k_ => k_ ≠ gb340 ∧ k_ ≠ gb349) (fun _ => False) rfl rfl ?aP (fun _ hk => hk.elim) ?aF ?aO ?aB ?aS ?aL ?_; (case aP => exact kElem_mkM _ _ _ (⟨a1_0, a1_1, wrap64 (a1_2 + 1)⟩ : SElem)); (case aB => exact (bw HB)); (case aF => exact (fun k_ hk => ⟨Kd.freshB (kk BK340) k_ hk, Kd.freshB (kk BK349) k_ hk⟩)); (case aO => exact (by (with_reducible repeat (first | apply Kd.R_alloc | apply Kd.R_drewN | apply Kd.R_drew)); exact HO_5.out)); (case aS => exact (below_size (bw HB))); (case aL => have := LMc21.out; omega); intro v352 w30 ho hb hg hat; rw [← Ny351.out] at ho; have n0_ := Aside0.mk (blk_grown (kk BK340) hg (Kd.R_away HO_5.out (fun _ hk => hk.1))); have n1_ := Aside0.mk (blk_grown (kk BK349) hg (Kd.R_away HO_5.out (fun _ hk => hk.2))); have n2_ := Aside0.mk (hb); have n3_ := Aside0.mk (ho); clear BK340; clear BK349; clear HB; clear HO_5; have BK340 := n0_; have BK349 := n1_; have HB := n2_; have HO353 := n3_; clear n0_ n1_ n2_ n3_; clear ho hb hg hat))
     go_ret
     exact ⟨_, re, by (with_reducible repeat (first | apply Kd.R_alloc | apply Kd.R_drewN | apply Kd.R_drew)); exact Kd.R_mono HO353.out (fun _ hk => trivial), bw HB⟩
    rw [if_neg c21] at H
    exact absurd H (by simp)
   replace c20 := Bool.eq_false_iff.mpr c20
   subst c20
   have H1 : (some x5_1) = some r := by rw [if_neg (show ¬ (false = true) by decide)] at H; exact H
   clear H
   have H := H1
   clear H1
   obtain rfl := Option.some.inj H
   obtain ⟨hcz31_0, hcz31_1, hcz31_2, hfz31_0, hfz31_1, hfz31_2⟩ := kc3 BK340
   go_wp2_with (first | ((with_reducible refine gate_callee (f := 77) rfl ?_); refine gl (some 45) Tryd.func77 #[.agg #[.int .i64 a1_0, .int .i64 a1_1, .int .i64 a1_2]] (h := ?_); (with_reducible refine (lectionaryref4_Begin.calls a1_0 a1_1 a1_2 false _ A15.out).mono ?_); rintro e w32 ⟨rfl, hb⟩; refine ⟨_, rfl, ?_⟩; replace HO_5 := Aside0.mk (Kd.R_below (by (with_reducible repeat (first | apply Kd.R_alloc | apply Kd.R_drewN | apply Kd.R_drew)); exact HO_5.out) hb); replace BK340 := bl BK340 hb; replace HB := bs HB hb; (try clear hb); (try clear hb2); (try clear hk); (try clear hi); obtain ⟨hcz33_0, hcz33_1, hcz33_2, hfz33_0, hfz33_1, hfz33_2⟩ := kc3 BK340) | ((with_reducible refine gate_dst (N := 7) rfl ?_); refine bx 7 #[.int .i64 0, .int .i64 0, .int .i64 0] 29 (h := ?_); intro gb349 hg w34 hbox hb; have BK349 := Aside0.mk (hbox); have GW349 := bz HB hg; have GE349 := bz HB hg; have NB340_349 := bn BK340 hg; have NB349_340 := bm BK340 hg; replace HO_5 := Aside0.mk (Kd.R_below (Kd.R_elderB (by (with_reducible repeat (first | apply Kd.R_alloc | apply Kd.R_drewN | apply Kd.R_drew)); exact HO_5.out) gb349 (Nat.le_of_eq hg.symm)) hb); replace BK340 := bl BK340 hb; replace HB := bs HB hb; clear hb hbox hg; have hnb35 := NB349_340.out; have hnc35 := NB340_349.out; obtain ⟨hcz36_0, hcz36_1, hcz36_2, hfz36_0, hfz36_1, hfz36_2⟩ := kc3 BK349) | ((with_reducible refine gate_callee (f := 82) rfl ?_); refine gl (some 57) Tryd.func82 #[.slice A0 l0.length c0, .agg #[.int .i64 a1_0, .int .i64 a1_1, .int .i64 (wrap64 (a1_2 + 1))]] (h := ?_); (with_reducible refine (lectionaryref4_written.calls k1 _ _ l0 a1_0 a1_1 (wrap64 (a1_2 + 1)) false _ ?side1 ?side2 ?side3 A19.out).mono ?_); (case side1 => exact Kd.C_below HR0.out (bw HB)); (case side2 => exact HC0.out); (case side3 => exact (hT.below (bw HB))); rintro e w37 ⟨rfl, hb⟩; refine ⟨_, rfl, ?_⟩; replace HO_5 := Aside0.mk (Kd.R_below (by (with_reducible repeat (first | apply Kd.R_alloc | apply Kd.R_drewN | apply Kd.R_drew)); exact (Kd.R_mono (Kd.R_far (p := ⟨gb349, 2, none⟩) (Kd.R_far (p := ⟨gb349, 1, none⟩) (Kd.R_far (p := ⟨gb349, 0, none⟩) (Kd.R_mono HO_5.out (fun k_ hk => (⟨hk, hk.2⟩ : _ ∧ k_ ≠ gb349))) (fun _ hk => hk.2) (.int .i64 a1_0)) (fun _ hk => hk.2) (.int .i64 a1_1)) (fun _ hk => hk.2) (.int .i64 (wrap64 (a1_2 + 1)))) (fun _ h_ => h_.1))) hb); replace BK340 := bl BK340 hb; replace BK349 := Aside0.mk (blk_below (g := gb349) (o := .cells #[.int .i64 a1_0, .int .i64 a1_1, .int .i64 (wrap64 (a1_2 + 1))] 29 (0, 0)) (bp (bp (bp (kk BK349) 0) 1) 2) hb); replace HB := bs HB hb; (try clear hb); (try clear hb2); (try clear hk); (try clear hi)))
   go_ret
   exact ⟨_, re, by (with_reducible repeat (first | apply Kd.R_alloc | apply Kd.R_drewN | apply Kd.R_drew)); exact Kd.R_mono HO_5.out (fun _ hk => trivial), bw HB⟩
end Go.Proofs.YtdahgnalojekdaaDoor.L
end
