/- Part 11 of the proof that for every argument the laws TreeBegins, TreeChains, TreeForks and TreeMixed answer true: where all is written behind the begin, each into the last one, some behind the same elements, or here and there, the order is the page's, by rows made here; the cards tie the two tables of unicode/utf8 that are laid -/
import Derived.Test.YtdahgnalojekdaaDoorZTO10
import Derived.Lib.RuneCountTail
section
namespace Go.Proofs.YtdahgnalojekdaaDoor.L
open Go.RowKit Go.Proofs.YtdahgnalojekdaaDoorW.PrintWords Go.Proofs.YtdahgnalojekdaaDoorW.PrintLast Go.Proofs.YtdahgnalojekdaaDoorW.PrintMore
attribute [local go_sem] max2_int min2_int max_two min_two max_three min_three max_four min_four
set_option linter.unusedVariables false
set_option linter.unusedSimpArgs false
mutual
def lectionarylaw5_same.l0 : Nat → Int → Int → List (List (SOp)) → List (SElem) → List (SOp) → List Int → Option (Bool)
 | 0, _, _, _, _, _, _ => none
 | k + 1, x1, x5, x443000, x443001, x443002, x443003 => if x5 ≤ 24 then ((lectionarylaw5_row.f k x443000 x443001 x443002 x443003 x5 x1).bind fun t444 => ((tree_Order.f t444).bind fun bt447 => ((lectionaryref4_Row.f k t444).bind fun t451 => (if t451 = true then ((lectionarylaw5_num.f bt447.2).bind fun t452 => (if t452 = 0 then ((lectionaryref4_Order.f k t444).bind fun t453 => ((lectionaryref0_EqElems.f k bt447.1 t453).bind fun t456 => (lectionarylaw5_same.j1 k x1 x5 t444 bt447.1 (!t456) x443000 x443001 x443002 x443003))) else (lectionarylaw5_same.j1 k x1 x5 t444 bt447.1 true x443000 x443001 x443002 x443003))) else (lectionarylaw5_same.j1 k x1 x5 t444 bt447.1 true x443000 x443001 x443002 x443003))))) else ((lectionarylaw5_wakes.f).bind fun t443 => (some t443))
def lectionarylaw5_same.j1 : Nat → Int → Int → List (SOp) → List (SElem) → Bool → List (List (SOp)) → List (SElem) → List (SOp) → List Int → Option (Bool)
 | 0, _, _, _, _, _, _, _, _, _ => none
 | k + 1, x1, x5, x6, x7, x41, x443000, x443001, x443002, x443003 => if x41 = true then (some false) else (lectionarylaw5_same.l1 k x1 x5 x6 x7 0 x443000 x443001 x443002 x443003)
def lectionarylaw5_same.l1 : Nat → Int → Int → List (SOp) → List (SElem) → Int → List (List (SOp)) → List (SElem) → List (SOp) → List Int → Option (Bool)
 | 0, _, _, _, _, _, _, _, _, _ => none
 | k + 1, x1, x5, x6, x7, x9, x443000, x443001, x443002, x443003 => if x9 < (x7.length : Int) then (if 0 ≤ x9 then ((tree_Under.f x6 ((rd_Elem x7 x9).f0) ((rd_Elem x7 x9).f1) ((rd_Elem x7 x9).f2)).bind fun bt458 => ((tree_Place.f k x6 ((rd_Elem x7 x9).f0) ((rd_Elem x7 x9).f1) ((rd_Elem x7 x9).f2)).bind fun bt463 => ((lectionarylaw5_num.f bt458.2).bind fun t465 => (if t465 = 0 then ((lectionarylaw5_num.f bt463.2).bind fun t466 => (if t466 = 0 then (if bt463.1 = x9 then ((lectionaryref4_Under.f k x6 ((rd_Elem x7 x9).f0) ((rd_Elem x7 x9).f1) ((rd_Elem x7 x9).f2)).bind fun t468 => ((lectionaryref0_EqElems.f k bt458.1 t468).bind fun t471 => (lectionarylaw5_same.j3 k x1 x5 x6 x7 x9 (!t471) x443000 x443001 x443002 x443003))) else (lectionarylaw5_same.j3 k x1 x5 x6 x7 x9 true x443000 x443001 x443002 x443003)) else (lectionarylaw5_same.j3 k x1 x5 x6 x7 x9 true x443000 x443001 x443002 x443003))) else (lectionarylaw5_same.j3 k x1 x5 x6 x7 x9 true x443000 x443001 x443002 x443003))))) else (none)) else (lectionarylaw5_same.l0 k x1 (wrap64 (x5 + 3)) x443000 x443001 x443002 x443003)
def lectionarylaw5_same.j3 : Nat → Int → Int → List (SOp) → List (SElem) → Int → Bool → List (List (SOp)) → List (SElem) → List (SOp) → List Int → Option (Bool)
 | 0, _, _, _, _, _, _, _, _, _, _ => none
 | k + 1, x1, x5, x6, x7, x9, x89, x443000, x443001, x443002, x443003 => if x89 = true then (some false) else (lectionarylaw5_same.l1 k x1 x5 x6 x7 (wrap64 (x9 + 1)) x443000 x443001 x443002 x443003)
end
def lectionarylaw5_same.f (k : Nat) (l0_0 : List (List (SOp))) (l0_1 : List (SElem)) (l0_2 : List (SOp)) (l0_3 : List Int) (a1 : Int) : Option (Bool) := lectionarylaw5_same.l0 k a1 0 l0_0 l0_1 l0_2 l0_3
set_option maxHeartbeats 8000000 in
set_option maxRecDepth 100000 in
theorem lectionarylaw5_same.calls (k : Nat) (A0_0 : Option Addr) (c0_0 : Nat) (l0_0 : List (List (SOp))) (A0_1 : Option Addr) (c0_1 : Nat) (l0_1 : List (SElem)) (A0_2 : Option Addr) (c0_2 : Nat) (l0_2 : List (SOp)) (A0_3 : Option Addr) (c0_3 : Nat) (l0_3 : List Int) (a1 : Int) (r : Bool) (w : World) (hr0_0 : Kd.C (Kd.slice 31 kOp) w A0_0 l0_0.length l0_0) (hc0_0 : l0_0.length ≤ c0_0) (hr0_1 : Kd.C kElem w A0_1 l0_1.length l0_1) (hc0_1 : l0_1.length ≤ c0_1) (hr0_2 : Kd.C kOp w A0_2 l0_2.length l0_2) (hc0_2 : l0_2.length ≤ c0_2) (hr0_3 : Kd.C (Kd.int .i64) w A0_3 l0_3.length l0_3) (hc0_3 : l0_3.length ≤ c0_3) (hT : GT w) (h : lectionarylaw5_same.f k l0_0 l0_1 l0_2 l0_3 a1 = some r) :
  Calls Tryd.prog 36 #[.agg #[.slice A0_0 l0_0.length c0_0, .slice A0_1 l0_1.length c0_1, .slice A0_2 l0_2.length c0_2, .slice A0_3 l0_3.length c0_3], .int .i64 a1] w fun e w' => e = .returned (.bool r) ∧ Below w.heap.size w w' := by
 have hu27 := Tryd.underlying27
 have hu29 := Tryd.underlying29
 have HR0_0 := Aside0.mk hr0_0
 have HC0_0 := Aside0.mk hc0_0
 clear hr0_0 hc0_0
 have HR0_1 := Aside0.mk hr0_1
 have HC0_1 := Aside0.mk hc0_1
 clear hr0_1 hc0_1
 have HR0_2 := Aside0.mk hr0_2
 have HC0_2 := Aside0.mk hc0_2
 clear hr0_2 hc0_2
 have HR0_3 := Aside0.mk hr0_3
 have HC0_3 := Aside0.mk hc0_3
 clear hr0_3 hc0_3
 have HB := Aside0.mk (Below.refl w.heap.size w)
 have H : (lectionarylaw5_same.l0 k a1 0 l0_0 l0_1 l0_2 l0_3) = some r := h
 clear h
 have H' := Aside0.mk H
 clear H
 go_enter Tryd.func36, Tryd.ntmps36
 go_wp2_with (first | ((with_reducible refine gate_dst (N := 2) rfl ?_); refine bx 2 #[.slice A0_0 l0_0.length c0_0, .slice A0_1 l0_1.length c0_1, .slice A0_2 l0_2.length c0_2, .slice A0_3 l0_3.length c0_3] 27 (h := ?_); intro gb442 hg w3 hbox hb; have BK442 := Aside0.mk (hbox); have GW442 := bz HB hg; have GE442 := bz HB hg; replace HB := bs HB hb; clear hb hbox hg))
 go_loopg [5] k (fun kq v5 w' => ∃ (x5_1 : Int), v5 = .int .i64 x5_1 ∧ Aside0 (lectionarylaw5_same.l0 kq a1 x5_1 l0_0 l0_1 l0_2 l0_3 = some r) ∧ Aside0 (kq ≤ k) ∧ Aside0 (w'.heap[gb442]? = some (.cells #[(.slice A0_0 l0_0.length c0_0), (.slice A0_1 l0_1.length c0_1), (.slice A0_2 l0_2.length c0_2), (.slice A0_3 l0_3.length c0_3)] 27 (0, 0))) ∧ Aside0 (Below w.heap.size w w'))
 case atStart => exact ⟨(0), rf, H', ⟨Nat.le_refl _⟩, ⟨kk BK442⟩, ⟨bw HB⟩⟩
 case round =>
  clear H'
  obtain ⟨x5_1, rfl, HA, HK1, BK442, HB⟩ := hrel
  cases gk with
  | zero => exact absurd HA.out (by simp [lectionarylaw5_same.l0])
  | succ k1 =>
   have H := HA.out
   clear HA
   simp only [lectionarylaw5_same.l0] at H
   by_cases c4 : x5_1 ≤ 24
   ·rw [if_pos c4] at H
    have c4b0 : decide (x5_1 ≤ 24) = true := decide_eq_true c4
    clear c4
    replace H := Option.bind_eq_some_iff.mp H
    obtain ⟨t444, A50, H⟩ := H
    replace H : ((tree_Order.f t444).bind fun bt447 => ((lectionaryref4_Row.f k1 t444).bind fun t451 => (if t451 = true then ((lectionarylaw5_num.f bt447.2).bind fun t452 => (if t452 = 0 then ((lectionaryref4_Order.f k1 t444).bind fun t453 => ((lectionaryref0_EqElems.f k1 bt447.1 t453).bind fun t456 => (lectionarylaw5_same.j1 k1 a1 x5_1 t444 bt447.1 (!t456) l0_0 l0_1 l0_2 l0_3))) else (lectionarylaw5_same.j1 k1 a1 x5_1 t444 bt447.1 true l0_0 l0_1 l0_2 l0_3))) else (lectionarylaw5_same.j1 k1 a1 x5_1 t444 bt447.1 true l0_0 l0_1 l0_2 l0_3)))) = some r := H
    have A5 := Aside0.mk A50
    clear A50
    replace H := Option.bind_eq_some_iff.mp H
    obtain ⟨⟨t447, t448⟩, A60, H⟩ := H
    replace H : ((lectionaryref4_Row.f k1 t444).bind fun t451 => (if t451 = true then ((lectionarylaw5_num.f t448).bind fun t452 => (if t452 = 0 then ((lectionaryref4_Order.f k1 t444).bind fun t453 => ((lectionaryref0_EqElems.f k1 t447 t453).bind fun t456 => (lectionarylaw5_same.j1 k1 a1 x5_1 t444 t447 (!t456) l0_0 l0_1 l0_2 l0_3))) else (lectionarylaw5_same.j1 k1 a1 x5_1 t444 t447 true l0_0 l0_1 l0_2 l0_3))) else (lectionarylaw5_same.j1 k1 a1 x5_1 t444 t447 true l0_0 l0_1 l0_2 l0_3))) = some r := H
    have A6 := Aside0.mk A60
    clear A60
    have HC7 := Aside0.mk H
    clear H
    obtain ⟨hcz8_0, hcz8_1, hcz8_2, hcz8_3, hfz8_0, hfz8_1, hfz8_2, hfz8_3⟩ := kc4 BK442
    go_upto_region 6 with (first | ((with_reducible refine gate_callee (f := 83) rfl ?_); refine gl (some 21) Tryd.func83 #[.agg #[.slice A0_0 l0_0.length c0_0, .slice A0_1 l0_1.length c0_1, .slice A0_2 l0_2.length c0_2, .slice A0_3 l0_3.length c0_3], .int .i64 x5_1, .int .i64 a1] (h := ?_); (with_reducible refine (lectionarylaw5_row.calls k1 _ _ l0_0 _ _ l0_1 _ _ l0_2 _ _ l0_3 x5_1 a1 t444 _ ?side1 ?side2 ?side3 ?side4 ?side5 ?side6 ?side7 ?side8 A5.out).mono ?_); (case side1 => repeat (first | exact (Kd.C_below HR0_0.out HB.out) | (with_reducible refine Kd.C_alloc ?_ _) | (with_reducible refine Kd.C_drewN ?_ _) | (with_reducible refine Kd.C_drew ?_))); (case side2 => exact HC0_0.out); (case side3 => repeat (first | exact (Kd.C_below HR0_1.out HB.out) | (with_reducible refine Kd.C_alloc ?_ _) | (with_reducible refine Kd.C_drewN ?_ _) | (with_reducible refine Kd.C_drew ?_))); (case side4 => exact HC0_1.out); (case side5 => repeat (first | exact (Kd.C_below HR0_2.out HB.out) | (with_reducible refine Kd.C_alloc ?_ _) | (with_reducible refine Kd.C_drewN ?_ _) | (with_reducible refine Kd.C_drew ?_))); (case side6 => exact HC0_2.out); (case side7 => repeat (first | exact (Kd.C_below HR0_3.out HB.out) | (with_reducible refine Kd.C_alloc ?_ _) | (with_reducible refine Kd.C_drewN ?_ _) | (with_reducible refine Kd.C_drew ?_))); (case side8 => exact HC0_3.out); rintro e w9 ⟨v445, rfl, ho0, hb⟩; refine ⟨_, rfl, ?_⟩; have HO446 := Aside0.mk (Kd.S_lower ho0 (below_size (bw HB))); replace BK442 := bl BK442 hb; replace HB := bs HB hb; (try clear hb); (try clear hb2); (try clear hk); (try clear hi); (try clear ho0); obtain ⟨Ao10, co10, eo10⟩ := Kd.S_slice HO446.out; subst eo10) | ((with_reducible refine gate_callee (f := 25) rfl ?_); refine gl (some 24) Tryd.func25 #[.slice Ao10 t444.length co10] (h := ?_); (with_reducible refine (tree_Order.calls _ _ t444 t447 t448 _ ?side1 ?side2 A6.out).mono ?_); (case side1 => repeat (first | exact (Kd.S_reads' HO446.out).2.2 | (with_reducible refine Kd.C_alloc ?_ _) | (with_reducible refine Kd.C_drewN ?_ _) | (with_reducible refine Kd.C_drew ?_))); (case side2 => exact (Kd.S_reads' HO446.out).2.1); rintro e w11 ⟨v449, rfl, ho0, hb⟩; refine ⟨_, rfl, ?_⟩; have HO450 := Aside0.mk (Kd.R_lower ho0 (below_size (bw HB))); replace HO446 := Aside0.mk (Kd.S_elder' (by (with_reducible repeat (first | apply Kd.S_alloc | apply Kd.S_drewN | apply Kd.S_drew)); exact HO446.out) (Kd.R_base ho0) hb); replace BK442 := bl BK442 hb; replace HB := bs HB hb; (try clear hb); (try clear hb2); (try clear hk); (try clear hi); (try clear ho0)))
    (try simp only [Act.put, List.setIfInBounds_toArray, List.set_cons_zero, List.set_cons_succ])
    go_cut [41] (fun v41 wc => ∃ (kq : Nat) (x41_6 : Bool), v41 = .bool x41_6 ∧ Aside0 (lectionarylaw5_same.j1 kq a1 x5_1 t444 t447 x41_6 l0_0 l0_1 l0_2 l0_3 = some r) ∧ Aside0 (kq ≤ k1) ∧ Aside0 (Kd.S kOp 31 wc w.heap.size (fun k_ => some k_ ≠ (v449 : Value).ownBlock) (.slice Ao10 t444.length co10) t444) ∧ Aside0 (Kd.R kElem 29 wc w.heap.size (fun _ => True) v449 t447) ∧ Aside0 (wc.heap[gb442]? = some (.cells #[(.slice A0_0 l0_0.length c0_0), (.slice A0_1 l0_1.length c0_1), (.slice A0_2 l0_2.length c0_2), (.slice A0_3 l0_3.length c0_3)] 27 (0, 0))) ∧ Aside0 (Below w.heap.size w wc))
    case first =>
     have H := HC7.out
     clear HC7
     replace H := Option.bind_eq_some_iff.mp H
     obtain ⟨t451, A120, H⟩ := H
     replace H : (if t451 = true then ((lectionarylaw5_num.f t448).bind fun t452 => (if t452 = 0 then ((lectionaryref4_Order.f k1 t444).bind fun t453 => ((lectionaryref0_EqElems.f k1 t447 t453).bind fun t456 => (lectionarylaw5_same.j1 k1 a1 x5_1 t444 t447 (!t456) l0_0 l0_1 l0_2 l0_3))) else (lectionarylaw5_same.j1 k1 a1 x5_1 t444 t447 true l0_0 l0_1 l0_2 l0_3))) else (lectionarylaw5_same.j1 k1 a1 x5_1 t444 t447 true l0_0 l0_1 l0_2 l0_3)) = some r := H
     have A12 := Aside0.mk A120
     clear A120
     by_cases c13 : t451 = true
     ·subst c13
      have H1 : ((lectionarylaw5_num.f t448).bind fun t452 => (if t452 = 0 then ((lectionaryref4_Order.f k1 t444).bind fun t453 => ((lectionaryref0_EqElems.f k1 t447 t453).bind fun t456 => (lectionarylaw5_same.j1 k1 a1 x5_1 t444 t447 (!t456) l0_0 l0_1 l0_2 l0_3))) else (lectionarylaw5_same.j1 k1 a1 x5_1 t444 t447 true l0_0 l0_1 l0_2 l0_3))) = some r := by rw [if_pos rfl] at H; exact H
      clear H
      have H := H1
      clear H1
      replace H := Option.bind_eq_some_iff.mp H
      obtain ⟨t452, A140, H⟩ := H
      replace H : (if t452 = 0 then ((lectionaryref4_Order.f k1 t444).bind fun t453 => ((lectionaryref0_EqElems.f k1 t447 t453).bind fun t456 => (lectionarylaw5_same.j1 k1 a1 x5_1 t444 t447 (!t456) l0_0 l0_1 l0_2 l0_3))) else (lectionarylaw5_same.j1 k1 a1 x5_1 t444 t447 true l0_0 l0_1 l0_2 l0_3)) = some r := H
      have A14 := Aside0.mk A140
      clear A140
      by_cases c15 : t452 = 0
      ·rw [if_pos c15] at H
       have c15b0 : (t452 == 0) = true := beq_iff_eq.mpr c15
       have c15b1 : (t452 != 0) = false := bne_eq_false_iff_eq.mpr c15
       clear c15
       (first | rw [c15b0] | (simp only [i64_w, i32_w]; rw [c15b0]) | skip)
       replace H := Option.bind_eq_some_iff.mp H
       obtain ⟨t453, A160, H⟩ := H
       replace H : ((lectionaryref0_EqElems.f k1 t447 t453).bind fun t456 => (lectionarylaw5_same.j1 k1 a1 x5_1 t444 t447 (!t456) l0_0 l0_1 l0_2 l0_3)) = some r := H
       have A16 := Aside0.mk A160
       clear A160
       replace H := Option.bind_eq_some_iff.mp H
       obtain ⟨t456, A170, H⟩ := H
       replace H : (lectionarylaw5_same.j1 k1 a1 x5_1 t444 t447 (!t456) l0_0 l0_1 l0_2 l0_3) = some r := H
       have A17 := Aside0.mk A170
       clear A170
       have H' := Aside0.mk H
       clear H
       go_wp2_with (first | ((with_reducible refine gate_callee (f := 20) rfl ?_); refine gl (some 28) Tryd.func20 #[.slice Ao10 t444.length co10] (h := ?_); (with_reducible refine (lectionaryref4_Row.calls k1 _ _ t444 true _ ?side1 ?side2 ?side3 A12.out).mono ?_); (case side1 => repeat (first | exact (Kd.S_reads' HO446.out).2.2 | (with_reducible refine Kd.C_alloc ?_ _) | (with_reducible refine Kd.C_drewN ?_ _) | (with_reducible refine Kd.C_drew ?_))); (case side2 => exact (Kd.S_reads' HO446.out).2.1); (case side3 => exact (hT.below (bw HB))); rintro e w18 ⟨rfl, hb⟩; refine ⟨_, rfl, ?_⟩; replace HO446 := Aside0.mk (Kd.S_below (by (with_reducible repeat (first | apply Kd.S_alloc | apply Kd.S_drewN | apply Kd.S_drew)); exact HO446.out) hb); replace HO450 := Aside0.mk (Kd.R_below (by (with_reducible repeat (first | apply Kd.R_alloc | apply Kd.R_drewN | apply Kd.R_drew)); exact HO450.out) hb); replace BK442 := bl BK442 hb; replace HB := bs HB hb; (try clear hb); (try clear hb2); (try clear hk); (try clear hi)) | (go_at_call 18; (with_reducible refine (lectionarylaw5_num.calls t448 t452 _ A14.out).mono ?_); rintro e w' ⟨rfl, ⟨nd, rfl⟩⟩) | (go_at_call 26; (with_reducible refine (lectionaryref4_Order.calls k1 _ _ t444 t453 _ ?side1 ?side2 ?side3 A16.out).mono ?_); (case side1 => repeat (first | exact (Kd.S_reads' HO446.out).2.2 | (with_reducible refine Kd.C_alloc ?_ _) | (with_reducible refine Kd.C_drewN ?_ _) | (with_reducible refine Kd.C_drew ?_))); (case side2 => exact (Kd.S_reads' HO446.out).2.1); (case side3 => exact (hT.below (bw HB))); rintro e w19 ⟨v454, rfl, ho0, hb⟩; have HO455 := Aside0.mk (Kd.R_lower (Kd.R_new' ho0 (Kd.R_lt (by (with_reducible repeat (first | apply Kd.R_alloc | apply Kd.R_drewN | apply Kd.R_drew)); exact HO450.out))) (below_size (bw HB))); replace HO446 := Aside0.mk (Kd.S_elder' (by (with_reducible repeat (first | apply Kd.S_alloc | apply Kd.S_drewN | apply Kd.S_drew)); exact HO446.out) (Kd.R_base ho0) hb); replace HO450 := Aside0.mk (Kd.R_elder' (by (with_reducible repeat (first | apply Kd.R_alloc | apply Kd.R_drewN | apply Kd.R_drew)); exact HO450.out) (Kd.R_base ho0) hb); replace BK442 := bl BK442 hb; replace HB := bs HB hb; (try clear hb); (try clear hb2); (try clear hk); (try clear hi); (try clear ho0); obtain ⟨Ao20, co20, eo20⟩ := Kd.R_slice HO450.out; subst eo20; obtain ⟨Ao21, co21, eo21⟩ := Kd.R_slice HO455.out; subst eo21) | (go_at_call 27; (with_reducible refine (lectionaryref0_EqElems.calls k1 _ _ t447 _ _ t453 t456 _ ?side1 ?side2 ?side3 ?side4 A17.out).mono ?_); (case side1 => repeat (first | exact (Kd.R_reads' HO450.out).2.2 | (with_reducible refine Kd.C_alloc ?_ _) | (with_reducible refine Kd.C_drewN ?_ _) | (with_reducible refine Kd.C_drew ?_))); (case side2 => exact (Kd.R_reads' HO450.out).2.1); (case side3 => repeat (first | exact (Kd.R_reads' HO455.out).2.2 | (with_reducible refine Kd.C_alloc ?_ _) | (with_reducible refine Kd.C_drewN ?_ _) | (with_reducible refine Kd.C_drew ?_))); (case side4 => exact (Kd.R_reads' HO455.out).2.1); rintro e w' ⟨rfl, ⟨nd, rfl⟩⟩))
       go_meet
       case rel => exact ⟨_, (!t456), rf, H', ⟨by have := HK1.out; first | omega | exact Nat.le_refl _⟩, ⟨by (with_reducible repeat (first | apply Kd.S_alloc | apply Kd.S_drewN | apply Kd.S_drew)); exact Kd.S_mono HO446.out (fun _ hk => hk.1.2)⟩, ⟨by (with_reducible repeat (first | apply Kd.R_alloc | apply Kd.R_drewN | apply Kd.R_drew)); exact Kd.R_mono HO450.out (fun _ hk => trivial)⟩, ⟨kk BK442⟩, ⟨bw HB⟩⟩
      rw [if_neg c15] at H
      have c15b0 : (t452 == 0) = false := beq_eq_false_iff_ne.mpr c15
      have c15b1 : (t452 != 0) = true := bne_iff_ne.mpr c15
      (first | rw [c15b0] | (simp only [i64_w, i32_w]; rw [c15b0]) | skip)
      have H' := Aside0.mk H
      clear H
      go_wp2_with (first | ((with_reducible refine gate_callee (f := 20) rfl ?_); refine gl (some 28) Tryd.func20 #[.slice Ao10 t444.length co10] (h := ?_); (with_reducible refine (lectionaryref4_Row.calls k1 _ _ t444 true _ ?side1 ?side2 ?side3 A12.out).mono ?_); (case side1 => repeat (first | exact (Kd.S_reads' HO446.out).2.2 | (with_reducible refine Kd.C_alloc ?_ _) | (with_reducible refine Kd.C_drewN ?_ _) | (with_reducible refine Kd.C_drew ?_))); (case side2 => exact (Kd.S_reads' HO446.out).2.1); (case side3 => exact (hT.below (bw HB))); rintro e w22 ⟨rfl, hb⟩; refine ⟨_, rfl, ?_⟩; replace HO446 := Aside0.mk (Kd.S_below (by (with_reducible repeat (first | apply Kd.S_alloc | apply Kd.S_drewN | apply Kd.S_drew)); exact HO446.out) hb); replace HO450 := Aside0.mk (Kd.R_below (by (with_reducible repeat (first | apply Kd.R_alloc | apply Kd.R_drewN | apply Kd.R_drew)); exact HO450.out) hb); replace BK442 := bl BK442 hb; replace HB := bs HB hb; (try clear hb); (try clear hb2); (try clear hk); (try clear hi)) | (go_at_call 18; (with_reducible refine (lectionarylaw5_num.calls t448 t452 _ A14.out).mono ?_); rintro e w' ⟨rfl, ⟨nd, rfl⟩⟩))
      go_meet
      case rel => exact ⟨_, (true), rf, H', ⟨by have := HK1.out; first | omega | exact Nat.le_refl _⟩, ⟨by (with_reducible repeat (first | apply Kd.S_alloc | apply Kd.S_drewN | apply Kd.S_drew)); exact Kd.S_mono HO446.out (fun _ hk => hk.2)⟩, ⟨by (with_reducible repeat (first | apply Kd.R_alloc | apply Kd.R_drewN | apply Kd.R_drew)); exact HO450.out⟩, ⟨kk BK442⟩, ⟨bw HB⟩⟩
     replace c13 := Bool.eq_false_iff.mpr c13
     subst c13
     have H1 : (lectionarylaw5_same.j1 k1 a1 x5_1 t444 t447 true l0_0 l0_1 l0_2 l0_3) = some r := by rw [if_neg (show ¬ (false = true) by decide)] at H; exact H
     clear H
     have H := H1
     clear H1
     have H' := Aside0.mk H
     clear H
     go_wp2_with (first | ((with_reducible refine gate_callee (f := 20) rfl ?_); refine gl (some 28) Tryd.func20 #[.slice Ao10 t444.length co10] (h := ?_); (with_reducible refine (lectionaryref4_Row.calls k1 _ _ t444 false _ ?side1 ?side2 ?side3 A12.out).mono ?_); (case side1 => repeat (first | exact (Kd.S_reads' HO446.out).2.2 | (with_reducible refine Kd.C_alloc ?_ _) | (with_reducible refine Kd.C_drewN ?_ _) | (with_reducible refine Kd.C_drew ?_))); (case side2 => exact (Kd.S_reads' HO446.out).2.1); (case side3 => exact (hT.below (bw HB))); rintro e w23 ⟨rfl, hb⟩; refine ⟨_, rfl, ?_⟩; replace HO446 := Aside0.mk (Kd.S_below (by (with_reducible repeat (first | apply Kd.S_alloc | apply Kd.S_drewN | apply Kd.S_drew)); exact HO446.out) hb); replace HO450 := Aside0.mk (Kd.R_below (by (with_reducible repeat (first | apply Kd.R_alloc | apply Kd.R_drewN | apply Kd.R_drew)); exact HO450.out) hb); replace BK442 := bl BK442 hb; replace HB := bs HB hb; (try clear hb); (try clear hb2); (try clear hk); (try clear hi)))
     go_meet
     case rel => exact ⟨_, (true), rf, H', ⟨by have := HK1.out; first | omega | exact Nat.le_refl _⟩, ⟨by (with_reducible repeat (first | apply Kd.S_alloc | apply Kd.S_drewN | apply Kd.S_drew)); exact Kd.S_mono HO446.out (fun _ hk => hk.2)⟩, ⟨by (with_reducible repeat (first | apply Kd.R_alloc | apply Kd.R_drewN | apply Kd.R_drew)); exact HO450.out⟩, ⟨kk BK442⟩, ⟨bw HB⟩⟩
    case rest =>
     clear HC7
     try clear c4b0; try clear hcz8_0; try clear hcz8_1; try clear hcz8_2; try clear hcz8_3; try clear hfz8_0; try clear hfz8_1; try clear hfz8_2; try clear hfz8_3
     obtain ⟨kq, x41_6, rfl, HA, HJ6, HO_6, HO_7, BK442, HB⟩ := hcut
     cases kq with
     | zero => exact absurd HA.out (by simp [lectionarylaw5_same.j1])
     | succ kj6 =>
      have H := HA.out
      clear HA
      simp only [lectionarylaw5_same.j1] at H
      by_cases c24 : x41_6 = true
      ·subst c24
       have H1 : (some false) = some r := by rw [if_pos rfl] at H; exact H
       clear H
       have H := H1
       clear H1
       obtain rfl := Option.some.inj H
       go_wp2
       go_ret
       exact ⟨re, bw HB⟩
      replace c24 := Bool.eq_false_iff.mpr c24
      subst c24
      have H1 : (lectionarylaw5_same.l1 kj6 a1 x5_1 t444 t447 0 l0_0 l0_1 l0_2 l0_3) = some r := by rw [if_neg (show ¬ (false = true) by decide)] at H; exact H
      clear H
      have H := H1
      clear H1
      have H' := Aside0.mk H
      clear H
      go_wp2
      go_loopg [9] kj6 (fun kq v9 w' => ∃ (x9_3 : Int), v9 = .int .i64 x9_3 ∧ Aside0 (lectionarylaw5_same.l1 kq a1 x5_1 t444 t447 x9_3 l0_0 l0_1 l0_2 l0_3 = some r) ∧ Aside0 (kq ≤ kj6) ∧ Aside0 (Kd.S kOp 31 w' w.heap.size (fun k_ => some k_ ≠ (v449 : Value).ownBlock) (.slice Ao10 t444.length co10) t444) ∧ Aside0 (Kd.R kElem 29 w' w.heap.size (fun _ => True) v449 t447) ∧ Aside0 (w'.heap[gb442]? = some (.cells #[(.slice A0_0 l0_0.length c0_0), (.slice A0_1 l0_1.length c0_1), (.slice A0_2 l0_2.length c0_2), (.slice A0_3 l0_3.length c0_3)] 27 (0, 0))) ∧ Aside0 (Below w.heap.size w w'))
      case atStart => exact ⟨(0), rf, H', ⟨Nat.le_refl _⟩, ⟨by (with_reducible repeat (first | apply Kd.S_alloc | apply Kd.S_drewN | apply Kd.S_drew)); exact HO_6.out⟩, ⟨by (with_reducible repeat (first | apply Kd.R_alloc | apply Kd.R_drewN | apply Kd.R_drew)); exact HO_7.out⟩, ⟨kk BK442⟩, ⟨bw HB⟩⟩
      case round =>
       clear H'
       try clear c24
       obtain ⟨x9_3, rfl, HA, HK3, HO_6, HO_7, BK442, HB⟩ := hrel
       cases gk with
       | zero => exact absurd HA.out (by simp [lectionarylaw5_same.l1])
       | succ k3 =>
        have H := HA.out
        clear HA
        simp only [lectionarylaw5_same.l1] at H
        by_cases c25 : x9_3 < (t447.length : Int)
        ·rw [if_pos c25] at H
         have c25b0 : decide (x9_3 < (t447.length : Int)) = true := decide_eq_true c25
         clear c25
         by_cases c26 : 0 ≤ x9_3
         ·rw [if_pos c26] at H
          have c26b0 : decide (0 ≤ x9_3) = true := decide_eq_true c26
          clear c26
          replace H := Option.bind_eq_some_iff.mp H
          obtain ⟨⟨t458, t461⟩, A270, H⟩ := H
          replace H : ((tree_Place.f k3 t444 ((rd_Elem t447 x9_3).f0) ((rd_Elem t447 x9_3).f1) ((rd_Elem t447 x9_3).f2)).bind fun bt463 => ((lectionarylaw5_num.f t461).bind fun t465 => (if t465 = 0 then ((lectionarylaw5_num.f bt463.2).bind fun t466 => (if t466 = 0 then (if bt463.1 = x9_3 then ((lectionaryref4_Under.f k3 t444 ((rd_Elem t447 x9_3).f0) ((rd_Elem t447 x9_3).f1) ((rd_Elem t447 x9_3).f2)).bind fun t468 => ((lectionaryref0_EqElems.f k3 t458 t468).bind fun t471 => (lectionarylaw5_same.j3 k3 a1 x5_1 t444 t447 x9_3 (!t471) l0_0 l0_1 l0_2 l0_3))) else (lectionarylaw5_same.j3 k3 a1 x5_1 t444 t447 x9_3 true l0_0 l0_1 l0_2 l0_3)) else (lectionarylaw5_same.j3 k3 a1 x5_1 t444 t447 x9_3 true l0_0 l0_1 l0_2 l0_3))) else (lectionarylaw5_same.j3 k3 a1 x5_1 t444 t447 x9_3 true l0_0 l0_1 l0_2 l0_3)))) = some r := H
          have A27 := Aside0.mk A270
          clear A270
          replace H := Option.bind_eq_some_iff.mp H
          obtain ⟨⟨t463, t464⟩, A280, H⟩ := H
          replace H : ((lectionarylaw5_num.f t461).bind fun t465 => (if t465 = 0 then ((lectionarylaw5_num.f t464).bind fun t466 => (if t466 = 0 then (if t463 = x9_3 then ((lectionaryref4_Under.f k3 t444 ((rd_Elem t447 x9_3).f0) ((rd_Elem t447 x9_3).f1) ((rd_Elem t447 x9_3).f2)).bind fun t468 => ((lectionaryref0_EqElems.f k3 t458 t468).bind fun t471 => (lectionarylaw5_same.j3 k3 a1 x5_1 t444 t447 x9_3 (!t471) l0_0 l0_1 l0_2 l0_3))) else (lectionarylaw5_same.j3 k3 a1 x5_1 t444 t447 x9_3 true l0_0 l0_1 l0_2 l0_3)) else (lectionarylaw5_same.j3 k3 a1 x5_1 t444 t447 x9_3 true l0_0 l0_1 l0_2 l0_3))) else (lectionarylaw5_same.j3 k3 a1 x5_1 t444 t447 x9_3 true l0_0 l0_1 l0_2 l0_3))) = some r := H
          have A28 := Aside0.mk A280
          clear A280
          have HC29 := Aside0.mk H
          clear H
          obtain ⟨Ao30, co30, eo30⟩ := Kd.R_slice HO_7.out
          subst eo30
          have p457 : 0 ≤ (x9_3 : Int) := of_decide_eq_true (by first | (with_reducible assumption) | assumption)
          have q457 : x9_3 < (t447.length : Int) := of_decide_eq_true (by first | (with_reducible assumption) | assumption)
          obtain ⟨ad457, e457, hx457_0, hx457_1, hx457_2⟩ := at_Elem (Kd.R_reads' HO_7.out).2.2 x9_3 p457 q457
          cases e457
          replace p457 := eq_true p457
          replace q457 := eq_true q457
          go_upto_region 13 with (first | ((with_reducible refine gate_callee (f := 30) rfl ?_); refine gl (some 54) Tryd.func30 #[.slice Ao10 t444.length co10, .agg #[.int .i64 ((rd_Elem t447 x9_3).f0), .int .i64 ((rd_Elem t447 x9_3).f1), .int .i64 ((rd_Elem t447 x9_3).f2)]] (h := ?_); (with_reducible refine (tree_Under.calls _ _ t444 ((rd_Elem t447 x9_3).f0) ((rd_Elem t447 x9_3).f1) ((rd_Elem t447 x9_3).f2) t458 t461 _ ?side1 ?side2 A27.out).mono ?_); (case side1 => repeat (first | exact (Kd.S_reads' HO_6.out).2.2 | (with_reducible refine Kd.C_alloc ?_ _) | (with_reducible refine Kd.C_drewN ?_ _) | (with_reducible refine Kd.C_drew ?_))); (case side2 => exact (Kd.S_reads' HO_6.out).2.1); rintro e w31 ⟨v459, rfl, ho0, hb⟩; refine ⟨_, rfl, ?_⟩; have HO460 := Aside0.mk (Kd.R_lower (Kd.R_new' ho0 (Kd.R_lt (by (with_reducible repeat (first | apply Kd.R_alloc | apply Kd.R_drewN | apply Kd.R_drew)); exact HO_7.out))) (below_size (bw HB))); replace HO_6 := Aside0.mk (Kd.S_elder' (by (with_reducible repeat (first | apply Kd.S_alloc | apply Kd.S_drewN | apply Kd.S_drew)); exact HO_6.out) (Kd.R_base ho0) hb); replace HO_7 := Aside0.mk (Kd.R_elder' (by (with_reducible repeat (first | apply Kd.R_alloc | apply Kd.R_drewN | apply Kd.R_drew)); exact HO_7.out) (Kd.R_base ho0) hb); replace BK442 := bl BK442 hb; replace HB := bs HB hb; (try clear hb); (try clear hb2); (try clear hk); (try clear hi); (try clear ho0); have p462 : 0 ≤ (x9_3 : Int) := of_decide_eq_true (by first | (with_reducible assumption) | assumption); have q462 : x9_3 < (t447.length : Int) := of_decide_eq_true (by first | (with_reducible assumption) | assumption); obtain ⟨ad462, e462, hx462_0, hx462_1, hx462_2⟩ := at_Elem (Kd.R_reads' HO_7.out).2.2 x9_3 p462 q462; obtain rfl : ad457 = ad462 := (by injection e462); replace p462 := eq_true p462; replace q462 := eq_true q462) | ((with_reducible refine gate_callee (f := 29) rfl ?_); refine gl (some 63) Tryd.func29 #[.slice Ao10 t444.length co10, .agg #[.int .i64 ((rd_Elem t447 x9_3).f0), .int .i64 ((rd_Elem t447 x9_3).f1), .int .i64 ((rd_Elem t447 x9_3).f2)]] (h := ?_); (with_reducible refine (tree_Place.calls k3 _ _ t444 ((rd_Elem t447 x9_3).f0) ((rd_Elem t447 x9_3).f1) ((rd_Elem t447 x9_3).f2) t463 t464 _ ?side1 ?side2 A28.out).mono ?_); (case side1 => repeat (first | exact (Kd.S_reads' HO_6.out).2.2 | (with_reducible refine Kd.C_alloc ?_ _) | (with_reducible refine Kd.C_drewN ?_ _) | (with_reducible refine Kd.C_drew ?_))); (case side2 => exact (Kd.S_reads' HO_6.out).2.1); rintro e w32 ⟨rfl, hb⟩; refine ⟨_, rfl, ?_⟩; replace HO_6 := Aside0.mk (Kd.S_below (by (with_reducible repeat (first | apply Kd.S_alloc | apply Kd.S_drewN | apply Kd.S_drew)); exact HO_6.out) hb); replace HO_7 := Aside0.mk (Kd.R_below (by (with_reducible repeat (first | apply Kd.R_alloc | apply Kd.R_drewN | apply Kd.R_drew)); exact HO_7.out) hb); replace HO460 := Aside0.mk (Kd.R_below (by (with_reducible repeat (first | apply Kd.R_alloc | apply Kd.R_drewN | apply Kd.R_drew)); exact HO460.out) hb); replace BK442 := bl BK442 hb; replace HB := bs HB hb; (try clear hb); (try clear hb2); (try clear hk); (try clear hi)))
          (try simp only [Act.put, List.setIfInBounds_toArray, List.set_cons_zero, List.set_cons_succ])
          go_cut [89] (fun v89 wc => ∃ (kq : Nat) (x89_28 : Bool), v89 = .bool x89_28 ∧ Aside0 (lectionarylaw5_same.j3 kq a1 x5_1 t444 t447 x9_3 x89_28 l0_0 l0_1 l0_2 l0_3 = some r) ∧ Aside0 (kq ≤ k3) ∧ Aside0 (Kd.S kOp 31 wc w.heap.size (fun k_ => some k_ ≠ ((.slice (some ad457) t447.length co30) : Value).ownBlock) (.slice Ao10 t444.length co10) t444) ∧ Aside0 (Kd.R kElem 29 wc w.heap.size (fun _ => True) (.slice (some ad457) t447.length co30) t447) ∧ Aside0 (wc.heap[gb442]? = some (.cells #[(.slice A0_0 l0_0.length c0_0), (.slice A0_1 l0_1.length c0_1), (.slice A0_2 l0_2.length c0_2), (.slice A0_3 l0_3.length c0_3)] 27 (0, 0))) ∧ Aside0 (Below w.heap.size w wc))
          case first =>
           have H := HC29.out
           clear HC29
           replace H := Option.bind_eq_some_iff.mp H
           obtain ⟨t465, A330, H⟩ := H
           replace H : (if t465 = 0 then ((lectionarylaw5_num.f t464).bind fun t466 => (if t466 = 0 then (if t463 = x9_3 then ((lectionaryref4_Under.f k3 t444 ((rd_Elem t447 x9_3).f0) ((rd_Elem t447 x9_3).f1) ((rd_Elem t447 x9_3).f2)).bind fun t468 => ((lectionaryref0_EqElems.f k3 t458 t468).bind fun t471 => (lectionarylaw5_same.j3 k3 a1 x5_1 t444 t447 x9_3 (!t471) l0_0 l0_1 l0_2 l0_3))) else (lectionarylaw5_same.j3 k3 a1 x5_1 t444 t447 x9_3 true l0_0 l0_1 l0_2 l0_3)) else (lectionarylaw5_same.j3 k3 a1 x5_1 t444 t447 x9_3 true l0_0 l0_1 l0_2 l0_3))) else (lectionarylaw5_same.j3 k3 a1 x5_1 t444 t447 x9_3 true l0_0 l0_1 l0_2 l0_3)) = some r := H
           have A33 := Aside0.mk A330
           clear A330
           by_cases c34 : t465 = 0
           ·rw [if_pos c34] at H
            have c34b0 : (t465 == 0) = true := beq_iff_eq.mpr c34
            have c34b1 : (t465 != 0) = false := bne_eq_false_iff_eq.mpr c34
            clear c34
            (first | rw [c34b0] | (simp only [i64_w, i32_w]; rw [c34b0]) | skip)
            replace H := Option.bind_eq_some_iff.mp H
            obtain ⟨t466, A350, H⟩ := H
            replace H : (if t466 = 0 then (if t463 = x9_3 then ((lectionaryref4_Under.f k3 t444 ((rd_Elem t447 x9_3).f0) ((rd_Elem t447 x9_3).f1) ((rd_Elem t447 x9_3).f2)).bind fun t468 => ((lectionaryref0_EqElems.f k3 t458 t468).bind fun t471 => (lectionarylaw5_same.j3 k3 a1 x5_1 t444 t447 x9_3 (!t471) l0_0 l0_1 l0_2 l0_3))) else (lectionarylaw5_same.j3 k3 a1 x5_1 t444 t447 x9_3 true l0_0 l0_1 l0_2 l0_3)) else (lectionarylaw5_same.j3 k3 a1 x5_1 t444 t447 x9_3 true l0_0 l0_1 l0_2 l0_3)) = some r := H
            have A35 := Aside0.mk A350
            clear A350
            by_cases c36 : t466 = 0
            ·rw [if_pos c36] at H
             have c36b0 : (t466 == 0) = true := beq_iff_eq.mpr c36
             have c36b1 : (t466 != 0) = false := bne_eq_false_iff_eq.mpr c36
             clear c36
             by_cases c37 : t463 = x9_3
             ·rw [if_pos c37] at H
              have c37b0 : (t463 == x9_3) = true := beq_iff_eq.mpr c37
              have c37b1 : (t463 != x9_3) = false := bne_eq_false_iff_eq.mpr c37
              clear c37
              replace H := Option.bind_eq_some_iff.mp H
              obtain ⟨t468, A380, H⟩ := H
              replace H : ((lectionaryref0_EqElems.f k3 t458 t468).bind fun t471 => (lectionarylaw5_same.j3 k3 a1 x5_1 t444 t447 x9_3 (!t471) l0_0 l0_1 l0_2 l0_3)) = some r := H
              have A38 := Aside0.mk A380
              clear A380
              replace H := Option.bind_eq_some_iff.mp H
              obtain ⟨t471, A390, H⟩ := H
              replace H : (lectionarylaw5_same.j3 k3 a1 x5_1 t444 t447 x9_3 (!t471) l0_0 l0_1 l0_2 l0_3) = some r := H
              have A39 := Aside0.mk A390
              clear A390
              have H' := Aside0.mk H
              clear H
              go_wp2_with (first | ((with_reducible refine gate_callee (f := 18) rfl ?_); refine gl (some 67) Tryd.func18 #[.int .i64 t461] (h := ?_); (with_reducible refine (lectionarylaw5_num.calls t461 t465 _ A33.out).mono ?_); rintro e w' ⟨rfl, ⟨nd, rfl⟩⟩; refine ⟨_, rfl, ?_⟩) | (go_at_call 18; (with_reducible refine (lectionarylaw5_num.calls t464 t466 _ A35.out).mono ?_); rintro e w' ⟨rfl, ⟨nd, rfl⟩⟩; have p467 : 0 ≤ (x9_3 : Int) := of_decide_eq_true (by first | (with_reducible assumption) | assumption); have q467 : x9_3 < (t447.length : Int) := of_decide_eq_true (by first | (with_reducible assumption) | assumption); obtain ⟨ad467, e467, hx467_0, hx467_1, hx467_2⟩ := at_Elem (Kd.R_reads' HO_7.out).2.2 x9_3 p467 q467; obtain rfl : ad457 = ad467 := (by injection e467); replace p467 := eq_true p467; replace q467 := eq_true q467) | (go_at_call 33; (with_reducible refine (lectionaryref4_Under.calls k3 _ _ t444 ((rd_Elem t447 x9_3).f0) ((rd_Elem t447 x9_3).f1) ((rd_Elem t447 x9_3).f2) t468 _ ?side1 ?side2 ?side3 A38.out).mono ?_); (case side1 => repeat (first | exact (Kd.S_reads' HO_6.out).2.2 | (with_reducible refine Kd.C_alloc ?_ _) | (with_reducible refine Kd.C_drewN ?_ _) | (with_reducible refine Kd.C_drew ?_))); (case side2 => exact (Kd.S_reads' HO_6.out).2.1); (case side3 => exact (hT.below (bw HB))); rintro e w40 ⟨v469, rfl, ho0, hb⟩; have HO470 := Aside0.mk (Kd.R_lower (Kd.R_new' (Kd.R_new' ho0 (Kd.R_lt (by (with_reducible repeat (first | apply Kd.R_alloc | apply Kd.R_drewN | apply Kd.R_drew)); exact HO_7.out))) (Kd.R_lt (by (with_reducible repeat (first | apply Kd.R_alloc | apply Kd.R_drewN | apply Kd.R_drew)); exact HO460.out))) (below_size (bw HB))); replace HO_6 := Aside0.mk (Kd.S_elder' (by (with_reducible repeat (first | apply Kd.S_alloc | apply Kd.S_drewN | apply Kd.S_drew)); exact HO_6.out) (Kd.R_base ho0) hb); replace HO_7 := Aside0.mk (Kd.R_elder' (by (with_reducible repeat (first | apply Kd.R_alloc | apply Kd.R_drewN | apply Kd.R_drew)); exact HO_7.out) (Kd.R_base ho0) hb); replace HO460 := Aside0.mk (Kd.R_elder' (by (with_reducible repeat (first | apply Kd.R_alloc | apply Kd.R_drewN | apply Kd.R_drew)); exact HO460.out) (Kd.R_base ho0) hb); replace BK442 := bl BK442 hb; replace HB := bs HB hb; (try clear hb); (try clear hb2); (try clear hk); (try clear hi); (try clear ho0); obtain ⟨Ao41, co41, eo41⟩ := Kd.R_slice HO460.out; subst eo41; obtain ⟨Ao42, co42, eo42⟩ := Kd.R_slice HO470.out; subst eo42) | (go_at_call 27; (with_reducible refine (lectionaryref0_EqElems.calls k3 _ _ t458 _ _ t468 t471 _ ?side1 ?side2 ?side3 ?side4 A39.out).mono ?_); (case side1 => repeat (first | exact (Kd.R_reads' HO460.out).2.2 | (with_reducible refine Kd.C_alloc ?_ _) | (with_reducible refine Kd.C_drewN ?_ _) | (with_reducible refine Kd.C_drew ?_))); (case side2 => exact (Kd.R_reads' HO460.out).2.1); (case side3 => repeat (first | exact (Kd.R_reads' HO470.out).2.2 | (with_reducible refine Kd.C_alloc ?_ _) | (with_reducible refine Kd.C_drewN ?_ _) | (with_reducible refine Kd.C_drew ?_))); (case side4 => exact (Kd.R_reads' HO470.out).2.1); rintro e w' ⟨rfl, ⟨nd, rfl⟩⟩))
              go_meet
              case rel => exact ⟨_, (!t471), rf, H', ⟨by have := HK1.out; have := HJ6.out; have := HK3.out; first | omega | exact Nat.le_refl _⟩, ⟨by (with_reducible repeat (first | apply Kd.S_alloc | apply Kd.S_drewN | apply Kd.S_drew)); exact Kd.S_mono HO_6.out (fun _ hk => hk.1.1)⟩, ⟨by (with_reducible repeat (first | apply Kd.R_alloc | apply Kd.R_drewN | apply Kd.R_drew)); exact Kd.R_mono HO_7.out (fun _ hk => trivial)⟩, ⟨kk BK442⟩, ⟨bw HB⟩⟩
             rw [if_neg c37] at H
             have c37b0 : (t463 == x9_3) = false := beq_eq_false_iff_ne.mpr c37
             have c37b1 : (t463 != x9_3) = true := bne_iff_ne.mpr c37
             have H' := Aside0.mk H
             clear H
             go_wp2_with (first | ((with_reducible refine gate_callee (f := 18) rfl ?_); refine gl (some 67) Tryd.func18 #[.int .i64 t461] (h := ?_); (with_reducible refine (lectionarylaw5_num.calls t461 t465 _ A33.out).mono ?_); rintro e w' ⟨rfl, ⟨nd, rfl⟩⟩; refine ⟨_, rfl, ?_⟩) | (go_at_call 18; (with_reducible refine (lectionarylaw5_num.calls t464 t466 _ A35.out).mono ?_); rintro e w' ⟨rfl, ⟨nd, rfl⟩⟩))
             go_meet
             case rel => exact ⟨_, (true), rf, H', ⟨by have := HK1.out; have := HJ6.out; have := HK3.out; first | omega | exact Nat.le_refl _⟩, ⟨by (with_reducible repeat (first | apply Kd.S_alloc | apply Kd.S_drewN | apply Kd.S_drew)); exact Kd.S_mono HO_6.out (fun _ hk => hk.1)⟩, ⟨by (with_reducible repeat (first | apply Kd.R_alloc | apply Kd.R_drewN | apply Kd.R_drew)); exact Kd.R_mono HO_7.out (fun _ hk => trivial)⟩, ⟨kk BK442⟩, ⟨bw HB⟩⟩
            rw [if_neg c36] at H
            have c36b0 : (t466 == 0) = false := beq_eq_false_iff_ne.mpr c36
            have c36b1 : (t466 != 0) = true := bne_iff_ne.mpr c36
            have H' := Aside0.mk H
            clear H
            go_wp2_with (first | ((with_reducible refine gate_callee (f := 18) rfl ?_); refine gl (some 67) Tryd.func18 #[.int .i64 t461] (h := ?_); (with_reducible refine (lectionarylaw5_num.calls t461 t465 _ A33.out).mono ?_); rintro e w' ⟨rfl, ⟨nd, rfl⟩⟩; refine ⟨_, rfl, ?_⟩) | (go_at_call 18; (with_reducible refine (lectionarylaw5_num.calls t464 t466 _ A35.out).mono ?_); rintro e w' ⟨rfl, ⟨nd, rfl⟩⟩))
            go_meet
            case rel => exact ⟨_, (true), rf, H', ⟨by have := HK1.out; have := HJ6.out; have := HK3.out; first | omega | exact Nat.le_refl _⟩, ⟨by (with_reducible repeat (first | apply Kd.S_alloc | apply Kd.S_drewN | apply Kd.S_drew)); exact Kd.S_mono HO_6.out (fun _ hk => hk.1)⟩, ⟨by (with_reducible repeat (first | apply Kd.R_alloc | apply Kd.R_drewN | apply Kd.R_drew)); exact Kd.R_mono HO_7.out (fun _ hk => trivial)⟩, ⟨kk BK442⟩, ⟨bw HB⟩⟩
           rw [if_neg c34] at H
           have c34b0 : (t465 == 0) = false := beq_eq_false_iff_ne.mpr c34
           have c34b1 : (t465 != 0) = true := bne_iff_ne.mpr c34
           (first | rw [c34b0] | (simp only [i64_w, i32_w]; rw [c34b0]) | skip)
           have H' := Aside0.mk H
           clear H
           go_wp2_with (first | ((with_reducible refine gate_callee (f := 18) rfl ?_); refine gl (some 67) Tryd.func18 #[.int .i64 t461] (h := ?_); (with_reducible refine (lectionarylaw5_num.calls t461 t465 _ A33.out).mono ?_); rintro e w' ⟨rfl, ⟨nd, rfl⟩⟩; refine ⟨_, rfl, ?_⟩))
           go_meet
           case rel => exact ⟨_, (true), rf, H', ⟨by have := HK1.out; have := HJ6.out; have := HK3.out; first | omega | exact Nat.le_refl _⟩, ⟨by (with_reducible repeat (first | apply Kd.S_alloc | apply Kd.S_drewN | apply Kd.S_drew)); exact Kd.S_mono HO_6.out (fun _ hk => hk.1)⟩, ⟨by (with_reducible repeat (first | apply Kd.R_alloc | apply Kd.R_drewN | apply Kd.R_drew)); exact Kd.R_mono HO_7.out (fun _ hk => trivial)⟩, ⟨kk BK442⟩, ⟨bw HB⟩⟩
          case rest =>
           clear HC29
           try clear c25b0; try clear c26b0; try clear hx457_0; try clear hx457_1; try clear hx457_2; try clear hx462_0; try clear hx462_1; try clear hx462_2; try clear p457; try clear p462; try clear q457; try clear q462
           obtain ⟨kq, x89_28, rfl, HA, HJ28, HO_6, HO_7, BK442, HB⟩ := hcut
           cases kq with
           | zero => exact absurd HA.out (by simp [lectionarylaw5_same.j3])
           | succ kj28 =>
            have H := HA.out
            clear HA
            simp only [lectionarylaw5_same.j3] at H
            by_cases c43 : x89_28 = true
            ·subst c43
             have H1 : (some false) = some r := by rw [if_pos rfl] at H; exact H
             clear H
             have H := H1
             clear H1
             obtain rfl := Option.some.inj H
             go_wp2
             go_ret
             exact ⟨re, bw HB⟩
            replace c43 := Bool.eq_false_iff.mpr c43
            subst c43
            have H1 : (lectionarylaw5_same.l1 kj28 a1 x5_1 t444 t447 (wrap64 (x9_3 + 1)) l0_0 l0_1 l0_2 l0_3) = some r := by rw [if_neg (show ¬ (false = true) by decide)] at H; exact H
            clear H
            have H := H1
            clear H1
            have H' := Aside0.mk H
            clear H
            go_wp2
            go_roundg kj28
            case measure => have := HK1.out; have := HJ6.out; have := HK3.out; have := HJ28.out; omega
            case rel => exact ⟨(wrap64 (x9_3 + 1)), rf, H', ⟨by have := HK1.out; have := HJ6.out; have := HK3.out; have := HJ28.out; omega⟩, ⟨by (with_reducible repeat (first | apply Kd.S_alloc | apply Kd.S_drewN | apply Kd.S_drew)); exact HO_6.out⟩, ⟨by (with_reducible repeat (first | apply Kd.R_alloc | apply Kd.R_drewN | apply Kd.R_drew)); exact HO_7.out⟩, ⟨kk BK442⟩, ⟨bw HB⟩⟩
         rw [if_neg c26] at H
         exact absurd H (by simp)
        rw [if_neg c25] at H
        have c25b0 : decide (x9_3 < (t447.length : Int)) = false := decide_eq_false c25
        clear c25
        have H' := Aside0.mk H
        clear H
        obtain ⟨Ao44, co44, eo44⟩ := Kd.R_slice HO_7.out
        subst eo44
        go_wp2
        go_roundg k3
        case measure => have := HK1.out; have := HJ6.out; have := HK3.out; omega
        case rel => exact ⟨(wrap64 (x5_1 + 3)), rf, H', ⟨by have := HK1.out; have := HJ6.out; have := HK3.out; omega⟩, ⟨kk BK442⟩, ⟨bw HB⟩⟩
   rw [if_neg c4] at H
   have c4b0 : decide (x5_1 ≤ 24) = false := decide_eq_false c4
   clear c4
   replace H := Option.bind_eq_some_iff.mp H
   obtain ⟨t443, A450, H⟩ := H
   replace H : (some t443) = some r := H
   have A45 := Aside0.mk A450
   clear A450
   obtain rfl := Option.some.inj H
   go_wp2_with (first | ((with_reducible refine gate_callee (f := 21) rfl ?_); refine gl (some 90) Tryd.func21 #[] (h := ?_); (with_reducible refine (lectionarylaw5_wakes.calls  t443 _ A45.out).mono ?_); rintro e w46 ⟨rfl, hb⟩; refine ⟨_, rfl, ?_⟩; replace BK442 := bl BK442 hb; replace HB := bs HB hb; (try clear hb); (try clear hb2); (try clear hk); (try clear hi)))
   go_ret
   exact ⟨re, bw HB⟩
def lectionarylaw5_TreeBegins.f (k : Nat) (l0_0 : List (List (SOp))) (l0_1 : List (SElem)) (l0_2 : List (SOp)) (l0_3 : List Int) : Option (Bool) := (lectionarylaw5_same.f k l0_0 l0_1 l0_2 l0_3 0).bind fun t473 => (some t473)
set_option maxHeartbeats 8000000 in
set_option maxRecDepth 100000 in
theorem lectionarylaw5_TreeBegins.calls (k : Nat) (A0_0 : Option Addr) (c0_0 : Nat) (l0_0 : List (List (SOp))) (A0_1 : Option Addr) (c0_1 : Nat) (l0_1 : List (SElem)) (A0_2 : Option Addr) (c0_2 : Nat) (l0_2 : List (SOp)) (A0_3 : Option Addr) (c0_3 : Nat) (l0_3 : List Int) (r : Bool) (w : World) (hr0_0 : Kd.C (Kd.slice 31 kOp) w A0_0 l0_0.length l0_0) (hc0_0 : l0_0.length ≤ c0_0) (hr0_1 : Kd.C kElem w A0_1 l0_1.length l0_1) (hc0_1 : l0_1.length ≤ c0_1) (hr0_2 : Kd.C kOp w A0_2 l0_2.length l0_2) (hc0_2 : l0_2.length ≤ c0_2) (hr0_3 : Kd.C (Kd.int .i64) w A0_3 l0_3.length l0_3) (hc0_3 : l0_3.length ≤ c0_3) (hT : GT w) (h : lectionarylaw5_TreeBegins.f k l0_0 l0_1 l0_2 l0_3 = some r) :
  Calls Tryd.prog 5 #[.agg #[.slice A0_0 l0_0.length c0_0, .slice A0_1 l0_1.length c0_1, .slice A0_2 l0_2.length c0_2, .slice A0_3 l0_3.length c0_3]] w fun e w' => e = .returned (.bool r) ∧ Below w.heap.size w w' := by
 have hu27 := Tryd.underlying27
 have HR0_0 := Aside0.mk hr0_0
 have HC0_0 := Aside0.mk hc0_0
 clear hr0_0 hc0_0
 have HR0_1 := Aside0.mk hr0_1
 have HC0_1 := Aside0.mk hc0_1
 clear hr0_1 hc0_1
 have HR0_2 := Aside0.mk hr0_2
 have HC0_2 := Aside0.mk hc0_2
 clear hr0_2 hc0_2
 have HR0_3 := Aside0.mk hr0_3
 have HC0_3 := Aside0.mk hc0_3
 clear hr0_3 hc0_3
 have HB := Aside0.mk (Below.refl w.heap.size w)
 have H : ((lectionarylaw5_same.f k l0_0 l0_1 l0_2 l0_3 0).bind fun t473 => (some t473)) = some r := h
 clear h
 replace H := Option.bind_eq_some_iff.mp H
 obtain ⟨t473, A20, H⟩ := H
 replace H : (some t473) = some r := H
 have A2 := Aside0.mk A20
 clear A20
 obtain rfl := Option.some.inj H
 go_enter Tryd.func5, Tryd.ntmps5
 go_wp2_with (first | ((with_reducible refine gate_dst (N := 1) rfl ?_); refine bx 1 #[.slice A0_0 l0_0.length c0_0, .slice A0_1 l0_1.length c0_1, .slice A0_2 l0_2.length c0_2, .slice A0_3 l0_3.length c0_3] 27 (h := ?_); intro gb472 hg w3 hbox hb; have BK472 := Aside0.mk (hbox); have GW472 := bz HB hg; have GE472 := bz HB hg; replace HB := bs HB hb; clear hb hbox hg; obtain ⟨hcz4_0, hcz4_1, hcz4_2, hcz4_3, hfz4_0, hfz4_1, hfz4_2, hfz4_3⟩ := kc4 BK472) | ((with_reducible refine gate_callee (f := 36) rfl ?_); refine gl (some 4) Tryd.func36 #[.agg #[.slice A0_0 l0_0.length c0_0, .slice A0_1 l0_1.length c0_1, .slice A0_2 l0_2.length c0_2, .slice A0_3 l0_3.length c0_3], .int .i64 0] (h := ?_); (with_reducible refine (lectionarylaw5_same.calls k _ _ l0_0 _ _ l0_1 _ _ l0_2 _ _ l0_3 0 t473 _ ?side1 ?side2 ?side3 ?side4 ?side5 ?side6 ?side7 ?side8 ?side9 A2.out).mono ?_); (case side1 => repeat (first | exact (Kd.C_below HR0_0.out HB.out) | (with_reducible refine Kd.C_alloc ?_ _) | (with_reducible refine Kd.C_drewN ?_ _) | (with_reducible refine Kd.C_drew ?_))); (case side2 => exact HC0_0.out); (case side3 => repeat (first | exact (Kd.C_below HR0_1.out HB.out) | (with_reducible refine Kd.C_alloc ?_ _) | (with_reducible refine Kd.C_drewN ?_ _) | (with_reducible refine Kd.C_drew ?_))); (case side4 => exact HC0_1.out); (case side5 => repeat (first | exact (Kd.C_below HR0_2.out HB.out) | (with_reducible refine Kd.C_alloc ?_ _) | (with_reducible refine Kd.C_drewN ?_ _) | (with_reducible refine Kd.C_drew ?_))); (case side6 => exact HC0_2.out); (case side7 => repeat (first | exact (Kd.C_below HR0_3.out HB.out) | (with_reducible refine Kd.C_alloc ?_ _) | (with_reducible refine Kd.C_drewN ?_ _) | (with_reducible refine Kd.C_drew ?_))); (case side8 => exact HC0_3.out); (case side9 => exact (hT.below (bw HB))); rintro e w5 ⟨rfl, hb⟩; refine ⟨_, rfl, ?_⟩; replace BK472 := bl BK472 hb; replace HB := bs HB hb; (try clear hb); (try clear hb2); (try clear hk); (try clear hi)))
 go_ret
 exact ⟨re, bw HB⟩
def lectionarylaw5_TreeChains.f (k : Nat) (l0_0 : List (List (SOp))) (l0_1 : List (SElem)) (l0_2 : List (SOp)) (l0_3 : List Int) : Option (Bool) := (lectionarylaw5_same.f k l0_0 l0_1 l0_2 l0_3 1).bind fun t475 => (some t475)
set_option maxHeartbeats 8000000 in
set_option maxRecDepth 100000 in
theorem lectionarylaw5_TreeChains.calls (k : Nat) (A0_0 : Option Addr) (c0_0 : Nat) (l0_0 : List (List (SOp))) (A0_1 : Option Addr) (c0_1 : Nat) (l0_1 : List (SElem)) (A0_2 : Option Addr) (c0_2 : Nat) (l0_2 : List (SOp)) (A0_3 : Option Addr) (c0_3 : Nat) (l0_3 : List Int) (r : Bool) (w : World) (hr0_0 : Kd.C (Kd.slice 31 kOp) w A0_0 l0_0.length l0_0) (hc0_0 : l0_0.length ≤ c0_0) (hr0_1 : Kd.C kElem w A0_1 l0_1.length l0_1) (hc0_1 : l0_1.length ≤ c0_1) (hr0_2 : Kd.C kOp w A0_2 l0_2.length l0_2) (hc0_2 : l0_2.length ≤ c0_2) (hr0_3 : Kd.C (Kd.int .i64) w A0_3 l0_3.length l0_3) (hc0_3 : l0_3.length ≤ c0_3) (hT : GT w) (h : lectionarylaw5_TreeChains.f k l0_0 l0_1 l0_2 l0_3 = some r) :
  Calls Tryd.prog 6 #[.agg #[.slice A0_0 l0_0.length c0_0, .slice A0_1 l0_1.length c0_1, .slice A0_2 l0_2.length c0_2, .slice A0_3 l0_3.length c0_3]] w fun e w' => e = .returned (.bool r) ∧ Below w.heap.size w w' := by
 have hu27 := Tryd.underlying27
 have HR0_0 := Aside0.mk hr0_0
 have HC0_0 := Aside0.mk hc0_0
 clear hr0_0 hc0_0
 have HR0_1 := Aside0.mk hr0_1
 have HC0_1 := Aside0.mk hc0_1
 clear hr0_1 hc0_1
 have HR0_2 := Aside0.mk hr0_2
 have HC0_2 := Aside0.mk hc0_2
 clear hr0_2 hc0_2
 have HR0_3 := Aside0.mk hr0_3
 have HC0_3 := Aside0.mk hc0_3
 clear hr0_3 hc0_3
 have HB := Aside0.mk (Below.refl w.heap.size w)
 have H : ((lectionarylaw5_same.f k l0_0 l0_1 l0_2 l0_3 1).bind fun t475 => (some t475)) = some r := h
 clear h
 replace H := Option.bind_eq_some_iff.mp H
 obtain ⟨t475, A20, H⟩ := H
 replace H : (some t475) = some r := H
 have A2 := Aside0.mk A20
 clear A20
 obtain rfl := Option.some.inj H
 go_enter Tryd.func6, Tryd.ntmps6
 go_wp2_with (first | ((with_reducible refine gate_dst (N := 1) rfl ?_); refine bx 1 #[.slice A0_0 l0_0.length c0_0, .slice A0_1 l0_1.length c0_1, .slice A0_2 l0_2.length c0_2, .slice A0_3 l0_3.length c0_3] 27 (h := ?_); intro gb474 hg w3 hbox hb; have BK474 := Aside0.mk (hbox); have GW474 := bz HB hg; have GE474 := bz HB hg; replace HB := bs HB hb; clear hb hbox hg; obtain ⟨hcz4_0, hcz4_1, hcz4_2, hcz4_3, hfz4_0, hfz4_1, hfz4_2, hfz4_3⟩ := kc4 BK474) | ((with_reducible refine gate_callee (f := 36) rfl ?_); refine gl (some 4) Tryd.func36 #[.agg #[.slice A0_0 l0_0.length c0_0, .slice A0_1 l0_1.length c0_1, .slice A0_2 l0_2.length c0_2, .slice A0_3 l0_3.length c0_3], .int .i64 1] (h := ?_); (with_reducible refine (lectionarylaw5_same.calls k _ _ l0_0 _ _ l0_1 _ _ l0_2 _ _ l0_3 1 t475 _ ?side1 ?side2 ?side3 ?side4 ?side5 ?side6 ?side7 ?side8 ?side9 A2.out).mono ?_); (case side1 => repeat (first | exact (Kd.C_below HR0_0.out HB.out) | (with_reducible refine Kd.C_alloc ?_ _) | (with_reducible refine Kd.C_drewN ?_ _) | (with_reducible refine Kd.C_drew ?_))); (case side2 => exact HC0_0.out); (case side3 => repeat (first | exact (Kd.C_below HR0_1.out HB.out) | (with_reducible refine Kd.C_alloc ?_ _) | (with_reducible refine Kd.C_drewN ?_ _) | (with_reducible refine Kd.C_drew ?_))); (case side4 => exact HC0_1.out); (case side5 => repeat (first | exact (Kd.C_below HR0_2.out HB.out) | (with_reducible refine Kd.C_alloc ?_ _) | (with_reducible refine Kd.C_drewN ?_ _) | (with_reducible refine Kd.C_drew ?_))); (case side6 => exact HC0_2.out); (case side7 => repeat (first | exact (Kd.C_below HR0_3.out HB.out) | (with_reducible refine Kd.C_alloc ?_ _) | (with_reducible refine Kd.C_drewN ?_ _) | (with_reducible refine Kd.C_drew ?_))); (case side8 => exact HC0_3.out); (case side9 => exact (hT.below (bw HB))); rintro e w5 ⟨rfl, hb⟩; refine ⟨_, rfl, ?_⟩; replace BK474 := bl BK474 hb; replace HB := bs HB hb; (try clear hb); (try clear hb2); (try clear hk); (try clear hi)))
 go_ret
 exact ⟨re, bw HB⟩
def lectionarylaw5_TreeForks.f (k : Nat) (l0_0 : List (List (SOp))) (l0_1 : List (SElem)) (l0_2 : List (SOp)) (l0_3 : List Int) : Option (Bool) := (lectionarylaw5_same.f k l0_0 l0_1 l0_2 l0_3 2).bind fun t477 => (some t477)
set_option maxHeartbeats 8000000 in
set_option maxRecDepth 100000 in
theorem lectionarylaw5_TreeForks.calls (k : Nat) (A0_0 : Option Addr) (c0_0 : Nat) (l0_0 : List (List (SOp))) (A0_1 : Option Addr) (c0_1 : Nat) (l0_1 : List (SElem)) (A0_2 : Option Addr) (c0_2 : Nat) (l0_2 : List (SOp)) (A0_3 : Option Addr) (c0_3 : Nat) (l0_3 : List Int) (r : Bool) (w : World) (hr0_0 : Kd.C (Kd.slice 31 kOp) w A0_0 l0_0.length l0_0) (hc0_0 : l0_0.length ≤ c0_0) (hr0_1 : Kd.C kElem w A0_1 l0_1.length l0_1) (hc0_1 : l0_1.length ≤ c0_1) (hr0_2 : Kd.C kOp w A0_2 l0_2.length l0_2) (hc0_2 : l0_2.length ≤ c0_2) (hr0_3 : Kd.C (Kd.int .i64) w A0_3 l0_3.length l0_3) (hc0_3 : l0_3.length ≤ c0_3) (hT : GT w) (h : lectionarylaw5_TreeForks.f k l0_0 l0_1 l0_2 l0_3 = some r) :
  Calls Tryd.prog 7 #[.agg #[.slice A0_0 l0_0.length c0_0, .slice A0_1 l0_1.length c0_1, .slice A0_2 l0_2.length c0_2, .slice A0_3 l0_3.length c0_3]] w fun e w' => e = .returned (.bool r) ∧ Below w.heap.size w w' := by
 have hu27 := Tryd.underlying27
 have HR0_0 := Aside0.mk hr0_0
 have HC0_0 := Aside0.mk hc0_0
 clear hr0_0 hc0_0
 have HR0_1 := Aside0.mk hr0_1
 have HC0_1 := Aside0.mk hc0_1
 clear hr0_1 hc0_1
 have HR0_2 := Aside0.mk hr0_2
 have HC0_2 := Aside0.mk hc0_2
 clear hr0_2 hc0_2
 have HR0_3 := Aside0.mk hr0_3
 have HC0_3 := Aside0.mk hc0_3
 clear hr0_3 hc0_3
 have HB := Aside0.mk (Below.refl w.heap.size w)
 have H : ((lectionarylaw5_same.f k l0_0 l0_1 l0_2 l0_3 2).bind fun t477 => (some t477)) = some r := h
 clear h
 replace H := Option.bind_eq_some_iff.mp H
 obtain ⟨t477, A20, H⟩ := H
 replace H : (some t477) = some r := H
 have A2 := Aside0.mk A20
 clear A20
 obtain rfl := Option.some.inj H
 go_enter Tryd.func7, Tryd.ntmps7
 go_wp2_with (first | ((with_reducible refine gate_dst (N := 1) rfl ?_); refine bx 1 #[.slice A0_0 l0_0.length c0_0, .slice A0_1 l0_1.length c0_1, .slice A0_2 l0_2.length c0_2, .slice A0_3 l0_3.length c0_3] 27 (h := ?_); intro gb476 hg w3 hbox hb; have BK476 := Aside0.mk (hbox); have GW476 := bz HB hg; have GE476 := bz HB hg; replace HB := bs HB hb; clear hb hbox hg; obtain ⟨hcz4_0, hcz4_1, hcz4_2, hcz4_3, hfz4_0, hfz4_1, hfz4_2, hfz4_3⟩ := kc4 BK476) | ((with_reducible refine gate_callee (f := 36) rfl ?_); refine gl (some 4) Tryd.func36 #[.agg #[.slice A0_0 l0_0.length c0_0, .slice A0_1 l0_1.length c0_1, .slice A0_2 l0_2.length c0_2, .slice A0_3 l0_3.length c0_3], .int .i64 2] (h := ?_); (with_reducible refine (lectionarylaw5_same.calls k _ _ l0_0 _ _ l0_1 _ _ l0_2 _ _ l0_3 2 t477 _ ?side1 ?side2 ?side3 ?side4 ?side5 ?side6 ?side7 ?side8 ?side9 A2.out).mono ?_); (case side1 => repeat (first | exact (Kd.C_below HR0_0.out HB.out) | (with_reducible refine Kd.C_alloc ?_ _) | (with_reducible refine Kd.C_drewN ?_ _) | (with_reducible refine Kd.C_drew ?_))); (case side2 => exact HC0_0.out); (case side3 => repeat (first | exact (Kd.C_below HR0_1.out HB.out) | (with_reducible refine Kd.C_alloc ?_ _) | (with_reducible refine Kd.C_drewN ?_ _) | (with_reducible refine Kd.C_drew ?_))); (case side4 => exact HC0_1.out); (case side5 => repeat (first | exact (Kd.C_below HR0_2.out HB.out) | (with_reducible refine Kd.C_alloc ?_ _) | (with_reducible refine Kd.C_drewN ?_ _) | (with_reducible refine Kd.C_drew ?_))); (case side6 => exact HC0_2.out); (case side7 => repeat (first | exact (Kd.C_below HR0_3.out HB.out) | (with_reducible refine Kd.C_alloc ?_ _) | (with_reducible refine Kd.C_drewN ?_ _) | (with_reducible refine Kd.C_drew ?_))); (case side8 => exact HC0_3.out); (case side9 => exact (hT.below (bw HB))); rintro e w5 ⟨rfl, hb⟩; refine ⟨_, rfl, ?_⟩; replace BK476 := bl BK476 hb; replace HB := bs HB hb; (try clear hb); (try clear hb2); (try clear hk); (try clear hi)))
 go_ret
 exact ⟨re, bw HB⟩
def lectionarylaw5_TreeMixed.f (k : Nat) (l0_0 : List (List (SOp))) (l0_1 : List (SElem)) (l0_2 : List (SOp)) (l0_3 : List Int) : Option (Bool) := (lectionarylaw5_same.f k l0_0 l0_1 l0_2 l0_3 5).bind fun t479 => (some t479)
set_option maxHeartbeats 8000000 in
set_option maxRecDepth 100000 in
theorem lectionarylaw5_TreeMixed.calls (k : Nat) (A0_0 : Option Addr) (c0_0 : Nat) (l0_0 : List (List (SOp))) (A0_1 : Option Addr) (c0_1 : Nat) (l0_1 : List (SElem)) (A0_2 : Option Addr) (c0_2 : Nat) (l0_2 : List (SOp)) (A0_3 : Option Addr) (c0_3 : Nat) (l0_3 : List Int) (r : Bool) (w : World) (hr0_0 : Kd.C (Kd.slice 31 kOp) w A0_0 l0_0.length l0_0) (hc0_0 : l0_0.length ≤ c0_0) (hr0_1 : Kd.C kElem w A0_1 l0_1.length l0_1) (hc0_1 : l0_1.length ≤ c0_1) (hr0_2 : Kd.C kOp w A0_2 l0_2.length l0_2) (hc0_2 : l0_2.length ≤ c0_2) (hr0_3 : Kd.C (Kd.int .i64) w A0_3 l0_3.length l0_3) (hc0_3 : l0_3.length ≤ c0_3) (hT : GT w) (h : lectionarylaw5_TreeMixed.f k l0_0 l0_1 l0_2 l0_3 = some r) :
  Calls Tryd.prog 8 #[.agg #[.slice A0_0 l0_0.length c0_0, .slice A0_1 l0_1.length c0_1, .slice A0_2 l0_2.length c0_2, .slice A0_3 l0_3.length c0_3]] w fun e w' => e = .returned (.bool r) ∧ Below w.heap.size w w' := by
 have hu27 := Tryd.underlying27
 have HR0_0 := Aside0.mk hr0_0
 have HC0_0 := Aside0.mk hc0_0
 clear hr0_0 hc0_0
 have HR0_1 := Aside0.mk hr0_1
 have HC0_1 := Aside0.mk hc0_1
 clear hr0_1 hc0_1
 have HR0_2 := Aside0.mk hr0_2
 have HC0_2 := Aside0.mk hc0_2
 clear hr0_2 hc0_2
 have HR0_3 := Aside0.mk hr0_3
 have HC0_3 := Aside0.mk hc0_3
 clear hr0_3 hc0_3
 have HB := Aside0.mk (Below.refl w.heap.size w)
 have H : ((lectionarylaw5_same.f k l0_0 l0_1 l0_2 l0_3 5).bind fun t479 => (some t479)) = some r := h
 clear h
 replace H := Option.bind_eq_some_iff.mp H
 obtain ⟨t479, A20, H⟩ := H
 replace H : (some t479) = some r := H
 have A2 := Aside0.mk A20
 clear A20
 obtain rfl := Option.some.inj H
 go_enter Tryd.func8, Tryd.ntmps8
 go_wp2_with (first | ((with_reducible refine gate_dst (N := 1) rfl ?_); refine bx 1 #[.slice A0_0 l0_0.length c0_0, .slice A0_1 l0_1.length c0_1, .slice A0_2 l0_2.length c0_2, .slice A0_3 l0_3.length c0_3] 27 (h := ?_); intro gb478 hg w3 hbox hb; have BK478 := Aside0.mk (hbox); have GW478 := bz HB hg; have GE478 := bz HB hg; replace HB := bs HB hb; clear hb hbox hg; obtain ⟨hcz4_0, hcz4_1, hcz4_2, hcz4_3, hfz4_0, hfz4_1, hfz4_2, hfz4_3⟩ := kc4 BK478) | ((with_reducible refine gate_callee (f := 36) rfl ?_); refine gl (some 4) Tryd.func36 #[.agg #[.slice A0_0 l0_0.length c0_0, .slice A0_1 l0_1.length c0_1, .slice A0_2 l0_2.length c0_2, .slice A0_3 l0_3.length c0_3], .int .i64 5] (h := ?_); (with_reducible refine (lectionarylaw5_same.calls k _ _ l0_0 _ _ l0_1 _ _ l0_2 _ _ l0_3 5 t479 _ ?side1 ?side2 ?side3 ?side4 ?side5 ?side6 ?side7 ?side8 ?side9 A2.out).mono ?_); (case side1 => repeat (first | exact (Kd.C_below HR0_0.out HB.out) | (with_reducible refine Kd.C_alloc ?_ _) | (with_reducible refine Kd.C_drewN ?_ _) | (with_reducible refine Kd.C_drew ?_))); (case side2 => exact HC0_0.out); (case side3 => repeat (first | exact (Kd.C_below HR0_1.out HB.out) | (with_reducible refine Kd.C_alloc ?_ _) | (with_reducible refine Kd.C_drewN ?_ _) | (with_reducible refine Kd.C_drew ?_))); (case side4 => exact HC0_1.out); (case side5 => repeat (first | exact (Kd.C_below HR0_2.out HB.out) | (with_reducible refine Kd.C_alloc ?_ _) | (with_reducible refine Kd.C_drewN ?_ _) | (with_reducible refine Kd.C_drew ?_))); (case side6 => exact HC0_2.out); (case side7 => repeat (first | exact (Kd.C_below HR0_3.out HB.out) | (with_reducible refine Kd.C_alloc ?_ _) | (with_reducible refine Kd.C_drewN ?_ _) | (with_reducible refine Kd.C_drew ?_))); (case side8 => exact HC0_3.out); (case side9 => exact (hT.below (bw HB))); rintro e w5 ⟨rfl, hb⟩; refine ⟨_, rfl, ?_⟩; replace BK478 := bl BK478 hb; replace HB := bs HB hb; (try clear hb); (try clear hb2); (try clear hk); (try clear hi)))
 go_ret
 exact ⟨re, bw HB⟩
end Go.Proofs.YtdahgnalojekdaaDoor.L
end

section
namespace Go.Proofs.YtdahgnalojekdaaDoor.L
open Go.RowKit Go.Proofs.YtdahgnalojekdaaDoorW.PrintWords Go.Proofs.YtdahgnalojekdaaDoorW.PrintLast Go.Proofs.YtdahgnalojekdaaDoorW.PrintMore
set_option linter.unusedVariables false
set_option linter.unusedSimpArgs false
theorem ref1_Rune_f (r : Int) : lectionaryref1_Rune.f r = some (runeOk r) := by
  unfold lectionaryref1_Rune.f runeOk
  by_cases h10 : r = 10
  · simp [h10]
  · have e10 : (r == 10) = false := by simp [h10]
    rw [if_neg h10, e10, Bool.false_or]
    by_cases h1 : 32 ≤ r <;> by_cases h2 : r ≤ 1114111 <;> by_cases h3 : r = 127 <;> by_cases h4 : r = 65533 <;> by_cases h5 : r ≤ 55295 <;> by_cases h6 : 57344 ≤ r <;> (first | (exfalso; omega) | simp [h1, h2, h3, h4, h5, h6])
theorem decodeN_le (n b0 b1 b2 b3 : Nat) (h : 1 ≤ n) : (Lib.decodeN n b0 b1 b2 b3).2 ≤ n := by
  unfold Lib.decodeN
  repeat' split
  all_goals (simp_all <;> omega)
theorem decode_le (s : ByteArray) (i : Nat) (h : i < s.size) : 1 ≤ (Utf8.decode s i).2 ∧ i + (Utf8.decode s i).2 ≤ s.size := by
  refine ⟨Lib.decode_width_pos s i h, ?_⟩
  rw [Lib.decode_at]
  have := decodeN_le (s.size - i) (s.get! i).toNat (s.get! (i + 1)).toNat (s.get! (i + 2)).toNat (s.get! (i + 3)).toNat (by omega)
  omega
theorem decFrom_more (s : ByteArray) : ∀ d pos f, s.size ≤ pos + d → d ≤ f → decFrom s f pos = decFrom s d pos
  | 0, pos, f, h, _ => by cases f <;> simp [decFrom, Nat.not_lt.2 (show s.size ≤ pos by omega)]
  | d + 1, pos, 0, h, hf => by omega
  | d + 1, pos, f + 1, h, hf => by
    unfold decFrom
    by_cases hp : pos < s.size
    · rw [if_pos hp, if_pos hp, decFrom_more s d _ f (by have := (decode_le s pos hp).1; omega) (by omega)]
    · rw [if_neg hp, if_neg hp]
theorem decFrom_step (s : ByteArray) (pos : Nat) (h : pos < s.size) : decFrom s s.size pos = ((Utf8.decode s pos).1 : Int) :: decFrom s s.size (pos + (Utf8.decode s pos).2) := by
  have hw := decode_le s pos h
  rw [decFrom_more s (s.size - pos) pos s.size (by omega) (by omega), show s.size - pos = (s.size - pos - 1) + 1 by omega]
  conv => lhs; unfold decFrom
  rw [if_pos h, ← decFrom_more s (s.size - pos - 1) (pos + (Utf8.decode s pos).2) s.size (by omega) (by omega)]
theorem decFrom_end (s : ByteArray) (pos : Nat) (h : s.size ≤ pos) : decFrom s s.size pos = [] := by
  rw [decFrom_more s 0 pos s.size (by omega) (by omega)]; rfl
theorem decFrom_len (s : ByteArray) : ∀ f pos, (decFrom s f pos).length ≤ f
  | 0, _ => Nat.le_refl _
  | f + 1, pos => by
    unfold decFrom
    split
    · simp only [List.length_cons]; have := decFrom_len s f (pos + (Utf8.decode s pos).2); omega
    · simp
theorem decodeGo_at (s : ByteArray) (pos : Nat) (h : pos < s.size) : Lib.decodeGo (s.extract pos s.size) = Utf8.decode s pos := by
  unfold Lib.decodeGo
  rw [if_neg (by rw [ByteArray.size_extract]; omega), Lib.tail_decode, Nat.add_zero]
def runesR (s : ByteArray) (acc : List Int) (pos : Nat) : List Int × Bool := if (decFrom s s.size pos).all runeOk = true then (acc ++ decFrom s s.size pos, true) else ([], false)
theorem Runes_loop (s : ByteArray) (hs : s.size ≤ 35184372088000) : ∀ d pos (acc : List Int), s.size ≤ pos + d → pos ≤ s.size → acc.length ≤ pos → Ev (fun k => lectionaryref1_Runes.l0 k s acc (pos : Int)) (runesR s acc pos)
  | 0, pos, acc, h, hp, _ => by
    unfold runesR
    rw [decFrom_end s pos (by omega), List.all_nil, if_pos rfl, List.append_nil]
    exact Ev.step (f := fun _ => some (acc, true)) (fun k => by simp only [lectionaryref1_Runes.l0]; rw [if_neg (by omega)]) (Ev.now _)
  | d + 1, pos, acc, h, hp, ha => by
    by_cases hlt : pos < s.size
    · have hw := decode_le s pos hlt
      have ih := Runes_loop s hs d (pos + (Utf8.decode s pos).2) (acc ++ [((Utf8.decode s pos).1 : Int)]) (by omega) hw.2 (by simp; omega)
      have hf : utf8_DecodeRuneInString.f (s.extract (pos : Int).toNat s.size) = some (((Utf8.decode s pos).1 : Int), ((Utf8.decode s pos).2 : Int)) := by
        unfold utf8_DecodeRuneInString.f
        rw [Int.toNat_natCast, decodeGo_at s pos hlt]
      unfold runesR at ih ⊢
      rw [decFrom_step s pos hlt, List.all_cons]
      cases hr : runeOk ((Utf8.decode s pos).1 : Int)
      · simp only [Bool.false_and, Bool.false_eq_true, if_false]
        refine Ev.step (f := fun _ => some ([], false)) (fun k => ?_) (Ev.now _)
        simp only [lectionaryref1_Runes.l0]
        rw [if_pos (by omega), if_pos (by omega), if_pos (by omega), hf, Option.bind_some, ref1_Rune_f, Option.bind_some, hr]
        rfl
      · simp only [Bool.true_and]
        rw [List.append_assoc, List.singleton_append] at ih
        refine Ev.step (fun k => ?_) ih
        simp only [lectionaryref1_Runes.l0]
        rw [if_pos (by omega), if_pos (by omega), if_pos (by omega), hf, Option.bind_some, ref1_Rune_f, Option.bind_some, hr, if_pos rfl, if_pos (by omega), wrap64_small (by omega) (by omega)]
        simp only [Int.natCast_add]
    · have hpe : pos = s.size := by omega
      unfold runesR
      rw [decFrom_end s pos (by omega), List.all_nil, if_pos rfl, List.append_nil]
      exact Ev.step (f := fun _ => some (acc, true)) (fun k => by simp only [lectionaryref1_Runes.l0]; rw [if_neg (by omega)]) (Ev.now _)
theorem Runes_ev (s : ByteArray) (hs : s.size ≤ 35184372088000) : Ev (fun k => lectionaryref1_Runes.f k s) (if textOk s = true then (runesOf s, true) else ([], false)) :=
  Runes_loop s hs s.size 0 [] (by omega) (Nat.zero_le _) (Nat.le_refl _)
theorem ref4_Begin_f (e : SElem) : lectionaryref4_Begin.f e.f0 e.f1 e.f2 = some (isBegin e) := rfl
theorem ref0_Between_f (a b c : Int) : lectionaryref0_Between.f a b c = some (decide (b ≤ a) && decide (a ≤ c)) := by
  unfold lectionaryref0_Between.f
  by_cases h : b ≤ a <;> simp [h]
theorem ref4_name_f (a b : Int) : lectionaryref4_name.f a b = some (nameOk a b) := by
  unfold lectionaryref4_name.f nameOk
  rw [ref0_Between_f, ref0_Between_f]
  simp only [Option.bind_some]
  cases decide (1 ≤ a) <;> cases decide (a ≤ 8) <;> simp
theorem ref0_Num_f (a b : Int) : lectionaryref0_Num.f a b = some (decide (0 ≤ a) && decide (a ≤ b)) := by
  unfold lectionaryref0_Num.f
  by_cases h : 0 ≤ a <;> simp [h]
theorem ref4_Elem_f (e : SElem) : lectionaryref4_Elem.f e.f0 e.f1 e.f2 = some (elemOk e) := by
  unfold lectionaryref4_Elem.f elemOk
  rw [ref4_Begin_f, ref4_name_f, ref0_Num_f]
  simp only [Option.bind_some]
  have : decide (e.f2 ≤ 11) = decide (e.f2 < 12) := decide_eq_decide.2 (by omega)
  rw [this]
  cases isBegin e <;> cases nameOk e.f0 e.f1 <;> simp
theorem ref4_Less_f (a b : SElem) : lectionaryref4_Less.f a.f0 a.f1 a.f2 b.f0 b.f1 b.f2 = some (elLess a b) := by
  unfold lectionaryref4_Less.f elLess
  by_cases h0 : a.f0 = b.f0
  · by_cases h1 : a.f1 = b.f1
    · simp [h0, h1]
    · have : ¬ b.f0 < b.f0 := by omega
      simp [h0, h1]
  · simp [h0]
theorem ref4_own_f (o : SOp) (e : SElem) : lectionaryref4_own.f o.f0 o.f1 o.f2 o.f3.f0 o.f3.f1 o.f3.f2 o.f4 o.f5 o.f6 o.f7 o.f8 e.f0 e.f1 e.f2 = some (ownEl o e) := by
  unfold lectionaryref4_own.f ownEl
  by_cases h : e.f0 = o.f0 <;> simp [h]
def Sm2 (o : SOp) : Prop := o.f4.size ≤ 35184372088000 ∧ o.f5.length ≤ 1000000000000000
theorem ref4_Op_l0 (o : SOp) (h : Sm2 o) : ∀ d i, i + d = o.f5.length →
    Ev (fun k => lectionaryref4_Op.l0 k (i : Int) o.f0 o.f1 o.f2 o.f3.f0 o.f3.f1 o.f3.f2 o.f4 o.f5 o.f6 o.f7 o.f8) (goneFrom o (if i = 0 then none else some (rd_Elem o.f5 ((i : Int) - 1))) (o.f5.drop i))
  | 0, i, hi => by
    rw [List.drop_eq_nil_of_le (by omega)]
    exact Ev.step (f := fun _ => some true) (fun k => by simp only [lectionaryref4_Op.l0]; rw [if_neg (by omega)]) (Ev.now _)
  | d + 1, i, hi => by
    have hlt : i < o.f5.length := by omega
    have ih := ref4_Op_l0 o h d (i + 1) (by omega)
    have hw : wrap64 ((i : Int) + 1) = ((i + 1 : Nat) : Int) := wrapS hlt (by have := h.2; omega)
    have hw1 : wrap64 ((i : Int) - 1) = (i : Int) - 1 := wrap64_small (by omega) (by have := h.2; omega)
    have hd : o.f5.drop i = rd_Elem o.f5 (i : Int) :: o.f5.drop (i + 1) := by rw [rd_Elem_nat _ _ hlt]; exact List.drop_eq_getElem_cons hlt
    rw [hd]
    generalize hx : rd_Elem o.f5 (i : Int) = x at ih ⊢
    have hp1 : rd_Elem o.f5 (((i + 1 : Nat) : Int) - 1) = x := by rw [show (((i + 1 : Nat) : Int) - 1) = (i : Int) by omega]; exact hx
    rw [if_neg (show ¬ i + 1 = 0 by omega), hp1] at ih
    have unf : ∀ k, lectionaryref4_Op.l0 (k + 1) (i : Int) o.f0 o.f1 o.f2 o.f3.f0 o.f3.f1 o.f3.f2 o.f4 o.f5 o.f6 o.f7 o.f8 =
        (if isBegin x = true then some false else if elemOk x = true then (if ownEl o x = true then some false else if (i : Int) > 0 then
          (if elLess (rd_Elem o.f5 ((i : Int) - 1)) x = true then lectionaryref4_Op.l0 k ((i + 1 : Nat) : Int) o.f0 o.f1 o.f2 o.f3.f0 o.f3.f1 o.f3.f2 o.f4 o.f5 o.f6 o.f7 o.f8 else some false)
          else lectionaryref4_Op.l0 k ((i + 1 : Nat) : Int) o.f0 o.f1 o.f2 o.f3.f0 o.f3.f1 o.f3.f2 o.f4 o.f5 o.f6 o.f7 o.f8) else some false) := by
      intro k
      simp only [lectionaryref4_Op.l0]
      rw [if_pos (by omega), if_pos (by omega), hx, ref4_Begin_f, ref4_Elem_f, ref4_own_f, hw, hw1]
      simp only [Option.bind_some]
      by_cases hi0 : (i : Int) > 0
      · simp only [if_pos hi0]
        rw [if_pos (show (0 : Int) ≤ (i : Int) - 1 by omega), if_pos (show (i : Int) - 1 < (o.f5.length : Int) by omega), ref4_Less_f]
        rfl
      · simp only [if_neg hi0]
    unfold goneFrom
    have no : ∀ c : Bool, c = false → (∀ k, lectionaryref4_Op.l0 (k + 1) (i : Int) o.f0 o.f1 o.f2 o.f3.f0 o.f3.f1 o.f3.f2 o.f4 o.f5 o.f6 o.f7 o.f8 = some false) → Ev (fun k => lectionaryref4_Op.l0 k (i : Int) o.f0 o.f1 o.f2 o.f3.f0 o.f3.f1 o.f3.f2 o.f4 o.f5 o.f6 o.f7 o.f8) c := by
      intro c hc hk; subst hc; exact Ev.step (f := fun _ => some false) hk (Ev.now _)
    cases hb : isBegin x
    · cases he : elemOk x
      · exact no _ (by simp) (fun k => by rw [unf, hb, he]; simp)
      · cases ho : ownEl o x
        · by_cases hi0 : i = 0
          · subst hi0
            simp only [if_true, Bool.not_false, Bool.true_and]
            exact Ev.step (fun k => by rw [unf, hb, he, ho]; simp) ih
          · simp only [if_neg hi0]
            cases hl : elLess (rd_Elem o.f5 ((i : Int) - 1)) x
            · exact no _ (by simp [hl]) (fun k => by rw [unf, hb, he, ho, hl]; simp; omega)
            · simp only [Bool.not_false, Bool.true_and]
              exact Ev.step (fun k => by rw [unf, hb, he, ho, hl]; simp) ih
        · exact no _ (by simp) (fun k => by rw [unf, hb, he, ho]; simp)
    · exact no _ (by simp) (fun k => by rw [unf, hb]; simp)
theorem Op_l0_start (o : SOp) (h : Sm2 o) : Ev (fun k => lectionaryref4_Op.l0 k 0 o.f0 o.f1 o.f2 o.f3.f0 o.f3.f1 o.f3.f2 o.f4 o.f5 o.f6 o.f7 o.f8) (goneFrom o none o.f5) := by
  have := ref4_Op_l0 o h o.f5.length 0 (Nat.zero_add _)
  simpa using this
theorem Op_j1 (o : SOp) (h : Sm2 o) (b : Bool) : Ev (fun k => lectionaryref4_Op.j1 k b o.f0 o.f1 o.f2 o.f3.f0 o.f3.f1 o.f3.f2 o.f4 o.f5 o.f6 o.f7 o.f8) (!b && goneFrom o none o.f5) := by
  cases b
  · simp only [Bool.not_false, Bool.true_and]
    exact Ev.step (fun k => by simp only [lectionaryref4_Op.j1]; rw [if_neg (by decide)]) (Op_l0_start o h)
  · simp only [Bool.not_true, Bool.false_and]
    exact Ev.step (f := fun _ => some false) (fun k => by simp only [lectionaryref4_Op.j1]; rw [if_pos True.intro]) (Ev.now _)
def restOk (o : SOp) : Bool := textOk o.f4 && (decide (sizeOf' o ≤ 12) && (elemOk o.f3 && (!(decide (sizeOf' o = 0) && !isBegin o.f3) && (!ownEl o o.f3 && goneFrom o none o.f5))))
theorem Op_j0 (o : SOp) (h : Sm2 o) (b : Bool) : Ev (fun k => lectionaryref4_Op.j0 k b o.f0 o.f1 o.f2 o.f3.f0 o.f3.f1 o.f3.f2 o.f4 o.f5 o.f6 o.f7 o.f8) (!b && restOk o) := by
  cases b
  · simp only [Bool.not_false, Bool.true_and]
    have hR := Runes_ev o.f4 h.1
    unfold restOk
    obtain ⟨F, hF⟩ : ∃ F : Nat → List Int × Bool → Option Bool, F = (fun k bt => (if bt.2 = true then (if (bt.1.length : Int) > 12 then (lectionaryref4_Op.j1 k true o.f0 o.f1 o.f2 o.f3.f0 o.f3.f1 o.f3.f2 o.f4 o.f5 o.f6 o.f7 o.f8) else ((lectionaryref4_Elem.f o.f3.f0 o.f3.f1 o.f3.f2).bind fun t176 => (if t176 = true then (if (bt.1.length : Int) = 0 then ((lectionaryref4_Begin.f o.f3.f0 o.f3.f1 o.f3.f2).bind fun t177 => (if t177 = true then ((lectionaryref4_own.f o.f0 o.f1 o.f2 o.f3.f0 o.f3.f1 o.f3.f2 o.f4 o.f5 o.f6 o.f7 o.f8 o.f3.f0 o.f3.f1 o.f3.f2).bind fun t178 => (lectionaryref4_Op.j1 k t178 o.f0 o.f1 o.f2 o.f3.f0 o.f3.f1 o.f3.f2 o.f4 o.f5 o.f6 o.f7 o.f8)) else (lectionaryref4_Op.j1 k true o.f0 o.f1 o.f2 o.f3.f0 o.f3.f1 o.f3.f2 o.f4 o.f5 o.f6 o.f7 o.f8))) else ((lectionaryref4_own.f o.f0 o.f1 o.f2 o.f3.f0 o.f3.f1 o.f3.f2 o.f4 o.f5 o.f6 o.f7 o.f8 o.f3.f0 o.f3.f1 o.f3.f2).bind fun t179 => (lectionaryref4_Op.j1 k t179 o.f0 o.f1 o.f2 o.f3.f0 o.f3.f1 o.f3.f2 o.f4 o.f5 o.f6 o.f7 o.f8))) else (lectionaryref4_Op.j1 k true o.f0 o.f1 o.f2 o.f3.f0 o.f3.f1 o.f3.f2 o.f4 o.f5 o.f6 o.f7 o.f8)))) else (lectionaryref4_Op.j1 k true o.f0 o.f1 o.f2 o.f3.f0 o.f3.f1 o.f3.f2 o.f4 o.f5 o.f6 o.f7 o.f8))) := ⟨_, rfl⟩
    refine Ev.step (f := fun k => (lectionaryref1_Runes.f k o.f4).bind (F k)) (fun k => ?_) (Ev.bind hR ?_)
    · simp only [lectionaryref4_Op.j0]; rw [if_neg (by decide), hF]
    · rw [hF]
      have hn : ∀ x : Bool, Ev (fun k => lectionaryref4_Op.j1 k true o.f0 o.f1 o.f2 o.f3.f0 o.f3.f1 o.f3.f2 o.f4 o.f5 o.f6 o.f7 o.f8) (x && false) := fun x => by rw [Bool.and_false]; exact Op_j1 o h true
      simp only [ref4_Elem_f, ref4_own_f, ref4_Begin_f, Option.bind_some]
      cases ht : textOk o.f4
      · simp only [Bool.false_eq_true, if_false, Bool.false_and]
        exact Op_j1 o h true
      · simp only [if_true, Bool.true_and]
        have hl : (runesOf o.f4).length = sizeOf' o := rfl
        rw [hl]
        by_cases h12 : sizeOf' o ≤ 12
        · have e12 : decide (sizeOf' o ≤ 12) = true := decide_eq_true h12
          rw [e12, Bool.true_and]
          have n12 : ¬ ((sizeOf' o : Int) > 12) := by omega
          simp only [if_neg n12]
          cases he : elemOk o.f3
          · simp only [Bool.false_eq_true, if_false, Bool.false_and]
            exact Op_j1 o h true
          · simp only [if_true, Bool.true_and]
            by_cases h0 : sizeOf' o = 0
            · have h0i : (sizeOf' o : Int) = 0 := by omega
              simp only [if_pos h0i, h0, decide_true, Bool.true_and, Bool.not_not]
              cases hb : isBegin o.f3
              · simp only [Bool.false_eq_true, if_false, Bool.false_and]
                exact Op_j1 o h true
              · simp only [if_true, Bool.true_and]
                exact Op_j1 o h _
            · have h0i : ¬ (sizeOf' o : Int) = 0 := by omega
              have e0 : decide (sizeOf' o = 0) = false := decide_eq_false h0
              simp only [if_neg h0i, e0, Bool.false_and, Bool.not_false, Bool.true_and]
              exact Op_j1 o h _
        · have e12 : decide (sizeOf' o ≤ 12) = false := decide_eq_false h12
          rw [e12, Bool.false_and]
          have n12 : (sizeOf' o : Int) > 12 := by omega
          simp only [if_pos n12]
          exact Op_j1 o h true
  · simp only [Bool.not_true, Bool.false_and]
    exact Ev.step (f := fun _ => some false) (fun k => by simp only [lectionaryref4_Op.j0]; rw [if_pos True.intro]) (Ev.now _)
theorem editOk_rest (o : SOp) : editOk o = (o.f6 == 0 && (o.f7 == 0 && (o.f8 == 0 && (decide (o.f5.length ≤ 200) && (!(o.f4.toList.isEmpty && o.f5.isEmpty) && restOk o))))) := by
  unfold editOk restOk goneOk
  have : decide (sizeOf' o = 0) = o.f4.toList.isEmpty := by
    rw [Bool.eq_iff_iff, decide_eq_true_eq]; exact (runesOf_nil o.f4)
  rw [this]
  cases o.f6 == 0 <;> cases o.f7 == 0 <;> cases o.f8 == 0 <;> cases decide (o.f5.length ≤ 200) <;> cases o.f4.toList.isEmpty <;> cases o.f5.isEmpty <;> cases textOk o.f4 <;> cases decide (sizeOf' o ≤ 12) <;> cases elemOk o.f3 <;> cases isBegin o.f3 <;> cases ownEl o o.f3 <;> cases goneFrom o none o.f5 <;> rfl
theorem Op_ev (o : SOp) (h : Sm2 o) : Ev (fun k => lectionaryref4_Op.f k o.f0 o.f1 o.f2 o.f3.f0 o.f3.f1 o.f3.f2 o.f4 o.f5 o.f6 o.f7 o.f8) (opOk o) := by
  unfold lectionaryref4_Op.f opOk
  simp only [ref4_name_f, ref4_Begin_f, ref0_Num_f, Option.bind_some]
  cases nameOk o.f0 o.f1
  · simp only [Bool.false_eq_true, if_false, Bool.false_and]; exact Ev.now _
  · simp only [if_true, Bool.true_and]
    by_cases h2 : o.f2 = 2
    · have h1 : ¬ o.f2 = 1 := by omega
      rw [if_neg h1]
      simp only [h2, if_true, beq_self_eq_true, Bool.true_and]
      unfold toggleOk
      refine Ev.congr (fun k => ?_) (Ev.now _)
      have hl : ((o.f5.length : Int) == 0) = o.f5.isEmpty := isEmpty_len _
      have ht : (o.f4.toList = ([] : List UInt8)) ↔ o.f4.toList.isEmpty = true := toList_isEmpty _
      simp only [hl, ht]
      cases nameOk o.f6 o.f7
      · simp
      · by_cases e6 : o.f6 = o.f0 <;> by_cases e7 : o.f7 = o.f1 <;> by_cases e8 : 0 ≤ o.f8 <;> by_cases e9 : o.f8 ≤ 268435456 <;> cases isBegin o.f3 <;> cases o.f4.toList.isEmpty <;> simp [e6, e7, e8, e9]
    · have e2 : (o.f2 == 2) = false := by simp [h2]
      simp only [if_neg h2]
      by_cases h1 : o.f2 = 1
      · simp only [if_pos h1]
        rw [editOk_rest]
        by_cases e6 : o.f6 = 0
        · simp only [if_pos e6]
          by_cases e7 : o.f7 = 0
          · simp only [if_pos e7]
            by_cases e8 : o.f8 = 0
            · simp only [if_pos e8]
              have b6 : (o.f6 == 0) = true := by simp [e6]
              have b7 : (o.f7 == 0) = true := by simp [e7]
              have b8 : (o.f8 == 0) = true := by simp [e8]
              rw [b6, b7, b8, Bool.true_and, Bool.true_and, Bool.true_and]
              by_cases e5 : o.f5.length ≤ 200
              · have n5 : ¬ (o.f5.length : Int) > 200 := by omega
                have d5 : decide (o.f5.length ≤ 200) = true := decide_eq_true e5
                simp only [if_neg n5, d5, Bool.true_and, isEmpty_len]
                by_cases e4 : o.f4.toList = ([] : List UInt8)
                · simp only [if_pos e4, List.isEmpty_iff.2 e4, Bool.true_and]; exact Op_j0 o h _
                · have : o.f4.toList.isEmpty = false := by cases hh : o.f4.toList.isEmpty; rfl; exact absurd (List.isEmpty_iff.1 hh) e4
                  simp only [if_neg e4, this, Bool.false_and]; exact Op_j0 o h _
              · have n5 : (o.f5.length : Int) > 200 := by omega
                have d5 : decide (o.f5.length ≤ 200) = false := decide_eq_false e5
                simp only [if_pos n5, d5, Bool.false_and]; exact Op_j0 o h _
            · have b8 : (o.f8 == 0) = false := by simp [e8]
              simp only [if_neg e8, b8, Bool.false_and, Bool.and_false]; exact Op_j0 o h _
          · have b7 : (o.f7 == 0) = false := by simp [e7]
            simp only [if_neg e7, b7, Bool.false_and, Bool.and_false]; exact Op_j0 o h _
        · have b6 : (o.f6 == 0) = false := by simp [e6]
          simp only [if_neg e6, b6, Bool.false_and]; exact Op_j0 o h _
      · simp only [if_neg h1, e2, Bool.false_and]; have hh := Op_j0 o h true; simp only [Bool.not_true, Bool.false_and] at hh; exact hh
theorem Find_loop (l : List SOp) (hl : l.length ≤ 1000000000000) (a b : Int) : ∀ d i, i + d = l.length → Ev (fun k => lectionaryref4_Find.l0 k l a b (i : Int)) (firstAt (fun i => nameIs a b (rd_Op l i)) l.length d i)
  | 0, i, h => Ev.step (f := fun _ => some (-1)) (fun k => by simp only [lectionaryref4_Find.l0]; rw [if_neg (by omega)]) (Ev.now _)
  | d + 1, i, h => by
    have ih := Find_loop l hl a b d (i + 1) (by omega)
    unfold firstAt
    rw [if_pos (show i < l.length by omega)]
    by_cases h0 : (rd_Op l (i : Int)).f0 = a
    · by_cases h1 : (rd_Op l (i : Int)).f1 = b
      · rw [if_pos (by unfold nameIs; simp [h0, h1])]
        refine Ev.step (f := fun _ => some (i : Int)) (fun k => ?_) (Ev.now _)
        simp only [lectionaryref4_Find.l0]
        rw [if_pos (by omega), if_pos (by omega), if_pos h0, if_pos h1]
      · rw [if_neg (by unfold nameIs; simp [h1])]
        refine Ev.step (fun k => ?_) ih
        simp only [lectionaryref4_Find.l0]
        rw [if_pos (by omega), if_pos (by omega), if_pos h0, if_neg h1, wrapS (show i < l.length by omega) (by omega)]
    · rw [if_neg (by unfold nameIs; simp [h0])]
      refine Ev.step (fun k => ?_) ih
      simp only [lectionaryref4_Find.l0]
      rw [if_pos (by omega), if_pos (by omega), if_neg h0, wrapS (show i < l.length by omega) (by omega)]
theorem Find_ev (l : List SOp) (hl : l.length ≤ 1000000000000) (a b : Int) : Ev (fun k => lectionaryref4_Find.f k l a b) (findOp l a b) := Find_loop l hl a b l.length 0 (Nat.zero_add _)
def runesN (o : SOp) : Nat := if textOk o.f4 = true then sizeOf' o else 0
theorem RunesO_ev (o : SOp) (h : o.f4.size ≤ 35184372088000) : Ev (fun k => lectionaryref4_Runes.f k o.f0 o.f1 o.f2 o.f3.f0 o.f3.f1 o.f3.f2 o.f4 o.f5 o.f6 o.f7 o.f8) (runesN o : Int) := by
  refine Ev.bind (f := fun _ (bt : List Int × Bool) => some (bt.1.length : Int)) (Runes_ev o.f4 h) ?_
  unfold runesN
  cases textOk o.f4
  · exact Ev.now _
  · exact Ev.now _
theorem opOk_text {o : SOp} (h : opOk o = true) : runesN o = sizeOf' o := by
  unfold runesN
  rcases opOk_kinds h with ⟨_, h2⟩ | ⟨h1, h2⟩
  · unfold editOk at h2; simp only [Bool.and_eq_true] at h2
    rw [if_pos h2.1.1.1.1.1.2]
  · have := (opOk_size2 h).2 h1
    split <;> omega
def writtenN (l : List SOp) (e : SElem) : Bool := isBegin e || (decide (0 ≤ findOp l e.f0 e.f1) && decide (0 ≤ e.f2) && decide (e.f2 < (runesN (rd_Op l (findOp l e.f0 e.f1)) : Int)))
theorem written_ev (l : List SOp) (hl : l.length ≤ 1000000000000) (hs : ∀ o ∈ l, o.f4.size ≤ 35184372088000) (e : SElem) : Ev (fun k => lectionaryref4_written.f k l e.f0 e.f1 e.f2) (writtenN l e) := by
  unfold lectionaryref4_written.f writtenN
  simp only [ref4_Begin_f, Option.bind_some]
  cases isBegin e
  · simp only [Bool.false_eq_true, if_false, Bool.false_or]
    refine Ev.bind (Find_ev l hl e.f0 e.f1) ?_
    rcases findOp_cases l e.f0 e.f1 with ⟨i, hi, _, _, _, ef⟩ | ⟨_, ef⟩
    · rw [ef]
      have h0 : (i : Int) ≥ 0 := by omega
      have d0 : decide ((0 : Int) ≤ (i : Int)) = true := decide_eq_true (by omega)
      simp only [if_pos h0, d0, Bool.true_and]
      by_cases h2 : e.f2 ≥ 0
      · have d2 : decide ((0 : Int) ≤ e.f2) = true := decide_eq_true h2
        have h3 : (i : Int) < (l.length : Int) := by omega
        have h4 : (0 : Int) ≤ (i : Int) := by omega
        simp only [if_pos h2, d2, if_pos h3, if_pos h4, Bool.true_and]
        refine Ev.bind (f := fun _ t => some (decide (e.f2 < t))) (RunesO_ev (rd_Op l (i : Int)) (by rw [rd_Op_nat _ _ hi]; exact hs _ (List.getElem_mem hi))) (Ev.now _)
      · have d2 : decide ((0 : Int) ≤ e.f2) = false := decide_eq_false (by omega)
        simp only [if_neg h2, d2, Bool.false_and]; exact Ev.now _
    · rw [ef]
      have h0 : ¬ (-1 : Int) ≥ 0 := by omega
      simp only [if_neg h0]; exact Ev.now _
  · simp only [if_true, Bool.true_or]; exact Ev.now _
theorem countS_take (l : List SOp) (a : Int) (i : Nat) (h : i < l.length) : countS (l.take (i + 1)) a = countS (l.take i) a + if l[i].f0 = a then 1 else 0 := by
  rw [List.take_succ_eq_append_getElem h, countS_app]
theorem Many_loop (l : List SOp) (hl : l.length ≤ 1000000000000) (a : Int) : ∀ d i, i + d = l.length → Ev (fun k => lectionaryref4_Many.l0 k l a (countS (l.take i) a : Int) (i : Int)) (countS l a : Int)
  | 0, i, h => by
    rw [List.take_of_length_le (by omega)]
    exact Ev.step (f := fun _ => some (countS l a : Int)) (fun k => by simp only [lectionaryref4_Many.l0]; rw [if_neg (by omega)]) (Ev.now _)
  | d + 1, i, h => by
    have ih := Many_loop l hl a d (i + 1) (by omega)
    have hlt : i < l.length := by omega
    have hc : countS (l.take i) a ≤ i := Nat.le_trans (countS_le _ _) (by rw [List.length_take]; omega)
    rw [countS_take l a i hlt] at ih
    refine Ev.step (fun k => ?_) ih
    simp only [lectionaryref4_Many.l0]
    rw [if_pos (by omega), if_pos (by omega), rd_Op_nat _ _ hlt, wrapS hlt (by omega), wrap64_small (i := (countS (l.take i) a : Int) + 1) (by omega) (by omega)]
    by_cases h0 : l[i].f0 = a
    · rw [if_pos h0, if_pos h0]; rfl
    · rw [if_neg h0, if_neg h0]; rfl
theorem Many_ev (l : List SOp) (hl : l.length ≤ 1000000000000) (a : Int) : Ev (fun k => lectionaryref4_Many.f k l a) (countS l a : Int) := Many_loop l hl a l.length 0 (Nat.zero_add _)
def editN (l : List SOp) (a b : Int) : Bool := decide (0 ≤ findOp l a b) && ((rd_Op l (findOp l a b)).f2 == 1)
theorem Edit_ev (l : List SOp) (hl : l.length ≤ 1000000000000) (a b : Int) : Ev (fun k => lectionaryref4_Edit.f k l a b) (editN l a b) := by
  refine Ev.bind (f := fun _ t => if t ≥ 0 then (if 0 ≤ t then (if t < (l.length : Int) then some ((rd_Op l t).f2 == 1) else none) else none) else some false) (Find_ev l hl a b) ?_
  unfold editN
  rcases findOp_cases l a b with ⟨i, hi, _, _, _, ef⟩ | ⟨_, ef⟩
  · rw [ef]
    refine Ev.congr (fun k => ?_) (Ev.now _)
    rw [if_pos (by omega), if_pos (by omega), if_pos (by omega), decide_eq_true (show (0 : Int) ≤ (i : Int) by omega), Bool.true_and]
  · rw [ef]; exact Ev.now _
structure SmL (l : List SOp) : Prop where
  len : l.length ≤ 1000000000000
  ops : ∀ o ∈ l, Sm2 o
theorem SmL.take {l : List SOp} (h : SmL l) (n : Nat) : SmL (l.take n) := ⟨by have := h.len; rw [List.length_take]; omega, fun o ho => h.ops o (List.mem_of_mem_take ho)⟩
def goesN (l : List SOp) (o : SOp) : Bool := opOk o && (decide (o.f1 = (countS l o.f0 : Int) + 1) && (writtenN l o.f3 && (o.f5.all (writtenN l) && (o.f2 == 1 || editN l o.f6 o.f7))))
theorem Goes_l0 (l : List SOp) (hl : SmL l) (o : SOp) (h : Sm2 o) : ∀ d i, i + d = o.f5.length → Ev (fun k => lectionaryref4_Goes.l0 k l (i : Int) o.f0 o.f1 o.f2 o.f3.f0 o.f3.f1 o.f3.f2 o.f4 o.f5 o.f6 o.f7 o.f8) ((o.f5.drop i).all (writtenN l) && (o.f2 == 1 || editN l o.f6 o.f7))
  | 0, i, hi => by
    rw [List.drop_eq_nil_of_le (by omega)]
    simp only [List.all_nil, Bool.true_and]
    by_cases h1 : o.f2 = 1
    · have : (o.f2 == 1) = true := by simp [h1]
      rw [this, Bool.true_or]
      exact Ev.step (f := fun _ => some true) (fun k => by simp only [lectionaryref4_Goes.l0]; rw [if_neg (by omega), if_pos h1]) (Ev.now _)
    · have : (o.f2 == 1) = false := by simp [h1]
      rw [this, Bool.false_or]
      refine Ev.step (f := fun k => (lectionaryref4_Edit.f k l o.f6 o.f7).bind fun t => some t) (fun k => by simp only [lectionaryref4_Goes.l0]; rw [if_neg (by omega), if_neg h1]) (Ev.bind (f := fun _ t => some t) (Edit_ev l hl.len o.f6 o.f7) (Ev.now _))
  | d + 1, i, hi => by
    have hlt : i < o.f5.length := by omega
    have ih := Goes_l0 l hl o h d (i + 1) (by omega)
    rw [List.drop_eq_getElem_cons hlt, List.all_cons]
    have hw := written_ev l hl.len (fun o ho => (hl.ops o ho).1) o.f5[i]
    refine Ev.step (f := fun k => (lectionaryref4_written.f k l o.f5[i].f0 o.f5[i].f1 o.f5[i].f2).bind fun t => if t = true then lectionaryref4_Goes.l0 k l ((i + 1 : Nat) : Int) o.f0 o.f1 o.f2 o.f3.f0 o.f3.f1 o.f3.f2 o.f4 o.f5 o.f6 o.f7 o.f8 else some false) (fun k => ?_) (Ev.bind (f := fun k t => if t = true then lectionaryref4_Goes.l0 k l ((i + 1 : Nat) : Int) o.f0 o.f1 o.f2 o.f3.f0 o.f3.f1 o.f3.f2 o.f4 o.f5 o.f6 o.f7 o.f8 else some false) hw ?_)
    · simp only [lectionaryref4_Goes.l0]
      rw [if_pos (by omega), if_pos (by omega), rd_Elem_nat _ _ hlt, wrapS hlt (by have := h.2; omega)]
    · cases writtenN l o.f5[i]
      · simp only [Bool.false_and, Bool.false_eq_true, if_false]; exact Ev.now _
      · simp only [Bool.true_and, if_true]; exact ih
theorem Goes_ev (l : List SOp) (hl : SmL l) (o : SOp) (h : Sm2 o) : Ev (fun k => lectionaryref4_Goes.f k l o.f0 o.f1 o.f2 o.f3.f0 o.f3.f1 o.f3.f2 o.f4 o.f5 o.f6 o.f7 o.f8) (goesN l o) := by
  have hj : ∀ b : Bool, Ev (fun k => lectionaryref4_Goes.j0 k l b o.f0 o.f1 o.f2 o.f3.f0 o.f3.f1 o.f3.f2 o.f4 o.f5 o.f6 o.f7 o.f8) (!b && (o.f5.all (writtenN l) && (o.f2 == 1 || editN l o.f6 o.f7))) := by
    intro b
    cases b
    · simp only [Bool.not_false, Bool.true_and]
      exact Ev.step (fun k => by simp only [lectionaryref4_Goes.j0]; rw [if_neg (by decide)]; rfl) (Goes_l0 l hl o h o.f5.length 0 (Nat.zero_add _))
    · simp only [Bool.not_true, Bool.false_and]
      exact Ev.step (f := fun _ => some false) (fun k => by simp only [lectionaryref4_Goes.j0]; rw [if_pos True.intro]) (Ev.now _)
  have hjt := hj true
  simp only [Bool.not_true, Bool.false_and] at hjt
  unfold lectionaryref4_Goes.f goesN
  refine Ev.bind (Op_ev o h) ?_
  cases opOk o
  · simp only [Bool.false_eq_true, if_false, Bool.false_and]; exact hjt
  · simp only [if_true, Bool.true_and]
    refine Ev.bind (Many_ev l hl.len o.f0) ?_
    have hc := countS_le l o.f0
    have hlen := hl.len
    simp only [wrap64_small (show -9223372036854775808 ≤ (countS l o.f0 : Int) + 1 by omega) (show (countS l o.f0 : Int) + 1 ≤ 9223372036854775807 by omega)]
    by_cases hq : o.f1 = (countS l o.f0 : Int) + 1
    · simp only [if_pos hq, decide_eq_true hq, Bool.true_and]
      refine Ev.bind (written_ev l hl.len (fun o ho => (hl.ops o ho).1) o.f3) ?_
      have := hj (!writtenN l o.f3)
      rw [Bool.not_not] at this
      exact this
    · simp only [if_neg hq, decide_eq_false hq, Bool.false_and]; exact hjt
def totalN (l : List SOp) : Nat := (l.map runesN).sum
theorem totalN_take (l : List SOp) (i : Nat) (h : i < l.length) : totalN (l.take (i + 1)) = totalN (l.take i) + runesN l[i] := by
  unfold totalN; rw [List.take_succ_eq_append_getElem h, List.map_append, List.sum_append]; simp
theorem sizeOf_le (o : SOp) : sizeOf' o ≤ o.f4.size := decFrom_len _ _ _
theorem Fits_loop (l : List SOp) (h40 : l.length ≤ 40) (hl : SmL l) : ∀ d i, i + d = l.length → totalN (l.take i) ≤ i * 35184372088000 → Ev (fun k => lectionaryref4_Fits.l0 k l (totalN (l.take i) : Int) (i : Int)) (decide (totalN l ≤ 200))
  | 0, i, h, _ => by
    rw [List.take_of_length_le (by omega)]
    have : decide ((totalN l : Int) ≤ 200) = decide (totalN l ≤ 200) := decide_eq_decide.2 (by omega)
    exact Ev.step (f := fun _ => some (decide (totalN l ≤ 200))) (fun k => by simp only [lectionaryref4_Fits.l0]; rw [if_neg (by omega), if_pos (by omega), this]) (Ev.now _)
  | d + 1, i, h, ht => by
    have hlt : i < l.length := by omega
    have hr : runesN l[i] ≤ 35184372088000 := by
      have := (hl.ops _ (List.getElem_mem hlt)).1
      have := sizeOf_le l[i]
      unfold runesN; split <;> omega
    have e := totalN_take l i hlt
    have ih := Fits_loop l h40 hl d (i + 1) (by omega) (by rw [e]; omega)
    rw [e] at ih
    have hR := RunesO_ev l[i] (hl.ops _ (List.getElem_mem hlt)).1
    refine Ev.step (fun k => ?_) (Ev.bind (f := fun k t => lectionaryref4_Fits.l0 k l (wrap64 ((totalN (l.take i) : Int) + t)) ((i + 1 : Nat) : Int)) hR ?_)
    · simp only [lectionaryref4_Fits.l0]
      rw [if_pos (by omega), if_pos (by omega), if_pos (by omega), rd_Op_nat _ _ hlt, wrapS hlt (by omega)]
    · rw [wrap64_small (by omega) (by omega)]
      exact ih
theorem Fits_ev (l : List SOp) (h40 : l.length ≤ 40) (hl : SmL l) : Ev (fun k => lectionaryref4_Fits.f k l) (decide (totalN l ≤ 200)) := by
  have h := Fits_loop l h40 hl l.length 0 (Nat.zero_add _) (by rw [List.take_zero]; exact Nat.zero_le _)
  have e : totalN (l.take 0) = 0 := by rw [List.take_zero]; rfl
  rw [e] at h
  exact h
def rowR (l : List SOp) (i : Nat) : Bool := (List.range' i (l.length - i)).all (fun j => goesN (l.take j) (rd_Op l (j : Int))) && decide (totalN l ≤ 200)
theorem Row_loop (l : List SOp) (h40 : l.length ≤ 40) (hl : SmL l) : ∀ d i, i + d = l.length → Ev (fun k => lectionaryref4_Row.l0 k l (i : Int)) (rowR l i)
  | 0, i, h => by
    unfold rowR
    rw [show l.length - i = 0 by omega]
    simp only [List.range'_zero, List.all_nil, Bool.true_and]
    refine Ev.step (fun k => by simp only [lectionaryref4_Row.l0]; rw [if_neg (by omega)]) (Ev.bind (f := fun _ t => some t) (Fits_ev l h40 hl) (Ev.now _))
  | d + 1, i, h => by
    have hlt : i < l.length := by omega
    have ih := Row_loop l h40 hl d (i + 1) (by omega)
    have hG := Goes_ev (l.take i) (hl.take i) l[i] (hl.ops _ (List.getElem_mem hlt))
    unfold rowR at ih ⊢
    rw [show l.length - i = (l.length - (i + 1)) + 1 by omega, List.range'_succ, List.all_cons, rd_Op_nat _ _ hlt]
    refine Ev.step (fun k => ?_) (Ev.bind (f := fun k t => if t = true then lectionaryref4_Row.l0 k l ((i + 1 : Nat) : Int) else some false) hG ?_)
    · simp only [lectionaryref4_Row.l0]
      rw [if_pos (by omega), if_pos (by omega), if_pos (by omega), rd_Op_nat _ _ hlt, Int.toNat_natCast, wrapS hlt (by omega)]
    · cases goesN (l.take i) l[i]
      · simp only [Bool.false_and, Bool.false_eq_true, if_false]; exact Ev.now _
      · simp only [Bool.true_and, if_true]; exact ih
theorem writtenN_wr {l : List SOp} (hr : RowOk l) (e : SElem) : writtenN l e = true ↔ wr l e := by
  unfold writtenN wr
  rw [Bool.or_eq_true]
  refine or_congr Iff.rfl ?_
  simp only [Bool.and_eq_true, decide_eq_true_eq]
  constructor
  · rintro ⟨⟨h0, h1⟩, h2⟩
    rcases findOp_cases l e.f0 e.f1 with ⟨i, hi, e0, e1, _, ef⟩ | ⟨_, ef⟩
    · rw [ef, rd_Op_nat _ _ hi, opOk_text (hr.oks _ (List.getElem_mem hi))] at h2
      exact ⟨h1, l[i], List.getElem_mem hi, e0, e1, h2⟩
    · omega
  · rintro ⟨h1, p, hp, e0, e1, h2⟩
    obtain ⟨i, hi, ef, ei⟩ := findOp_mem hr hp
    rw [← e0, ← e1, ef, rd_Op_nat _ _ hi, ei, opOk_text (hr.oks p hp)]
    exact ⟨⟨by omega, h1⟩, h2⟩
theorem editN_iff {l : List SOp} (hr : RowOk l) (a b : Int) : editN l a b = true ↔ ∃ p ∈ l, p.f2 = 1 ∧ p.f0 = a ∧ p.f1 = b := by
  unfold editN
  simp only [Bool.and_eq_true, decide_eq_true_eq, beq_iff_eq]
  constructor
  · rintro ⟨h0, h1⟩
    rcases findOp_cases l a b with ⟨i, hi, e0, e1, _, ef⟩ | ⟨_, ef⟩
    · rw [ef, rd_Op_nat _ _ hi] at h1; exact ⟨l[i], List.getElem_mem hi, h1, e0, e1⟩
    · omega
  · rintro ⟨p, hp, h2, rfl, rfl⟩
    obtain ⟨i, hi, ef, ei⟩ := findOp_mem hr hp
    rw [ef, rd_Op_nat _ _ hi, ei]
    exact ⟨by omega, h2⟩
theorem goesN_iff {l : List SOp} (hr : RowOk l) (o : SOp) : goesN l o = true ↔ GoesR l o := by
  unfold goesN
  simp only [Bool.and_eq_true, decide_eq_true_eq, Bool.or_eq_true, beq_iff_eq, List.all_eq_true, writtenN_wr hr, editN_iff hr]
  constructor
  · rintro ⟨h1, h2, h3, h4, h5⟩
    exact ⟨h1, h2, h3, h4, fun e => h5.elim (fun e1 => by omega) id⟩
  · intro h
    refine ⟨h.ok, h.seq, h.after, h.gone, ?_⟩
    rcases opOk_kinds h.ok with ⟨e, _⟩ | ⟨e, _⟩
    · exact .inl e
    · exact .inr (h.tog e)
theorem totalN_eq {l : List SOp} (h : ∀ o ∈ l, opOk o = true) : totalN l = total l := by
  unfold totalN total
  rw [List.map_congr_left (fun o ho => opOk_text (h o ho))]
theorem rowR_iff (l : List SOp) (h40 : l.length ≤ 40) : rowR l 0 = true ↔ RowOk l := by
  unfold rowR
  rw [Nat.sub_zero]
  simp only [Bool.and_eq_true, decide_eq_true_eq, List.all_eq_true, List.mem_range'_1]
  constructor
  · rintro ⟨h1, h2⟩
    have key : ∀ n, n ≤ l.length → (∀ i (h : i < l.length), i < n → GoesR (l.take i) l[i]) ∧ (∀ o ∈ l.take n, opOk o = true) ∧ RowOk (l.take n) := by
      intro n
      induction n with
      | zero => intro _; exact ⟨fun i _ h => by omega, fun o ho => by simp at ho, by simpa using RowOk.nil⟩
      | succ n ih =>
        intro hn
        obtain ⟨a, b, c⟩ := ih (by omega)
        have hlt : n < l.length := by omega
        have g := h1 n ⟨Nat.zero_le _, by omega⟩
        rw [rd_Op_nat _ _ hlt] at g
        have g' := (goesN_iff c l[n]).1 g
        have b' : ∀ o ∈ l.take (n + 1), opOk o = true := by
          rw [List.take_succ_eq_append_getElem hlt]
          intro o ho
          rcases List.mem_append.1 ho with ho | ho
          · exact b o ho
          · simp at ho; subst ho; exact g'.ok
        refine ⟨fun i hi hin => ?_, b', ?_⟩
        · by_cases e : i = n
          · subst e; exact g'
          · exact a i hi (by omega)
        · rw [List.take_succ_eq_append_getElem hlt]
          refine .snoc c ⟨by rw [List.length_take]; omega, g'.ok, g'.seq, g'.after, g'.gone, g'.tog, ?_⟩
          have t1 := totalN_eq b'
          rw [List.take_succ_eq_append_getElem hlt, total_app] at t1
          have t2 : totalN (l.take (n + 1)) ≤ totalN l := by
            have : totalN (l.take (n + 1)) + totalN (l.drop (n + 1)) = totalN l := by
              unfold totalN; rw [← List.sum_append, ← List.map_append, List.take_append_drop]
            omega
          rw [List.take_succ_eq_append_getElem hlt] at t2
          omega
    have := (key l.length (Nat.le_refl _)).2.2
    rwa [List.take_length] at this
  · intro h
    refine ⟨fun j hj => ?_, by rw [totalN_eq h.oks]; exact h.sums.2⟩
    rw [rd_Op_nat _ _ (by omega)]
    exact (goesN_iff (h.take j) _).2 (((RowOk_iff l).1 h).2.2 j (by omega))
theorem Row_ev (l : List SOp) (hl : SmL l) : Ev (fun k => lectionaryref4_Row.f k l) (mayB l) := by
  unfold lectionaryref4_Row.f
  by_cases h40 : l.length ≤ 40
  · have n40 : ¬ (l.length : Int) > 40 := by omega
    simp only [if_neg n40]
    have : mayB l = rowR l 0 := by rw [Bool.eq_iff_iff, mayB_iff, rowR_iff l h40]
    rw [this]
    exact Row_loop l h40 hl l.length 0 (Nat.zero_add _)
  · have n40 : (l.length : Int) > 40 := by omega
    simp only [if_pos n40]
    have : mayB l = false := by unfold mayB; simp [h40]
    rw [this]; exact Ev.now _
end Go.Proofs.YtdahgnalojekdaaDoor.L
end

section
namespace Go.Proofs.YtdahgnalojekdaaDoor.L
open Go.RowKit Go.Proofs.YtdahgnalojekdaaDoorW.PrintWords Go.Proofs.YtdahgnalojekdaaDoorW.PrintLast Go.Proofs.YtdahgnalojekdaaDoorW.PrintMore
set_option linter.unusedVariables false
set_option linter.unusedSimpArgs false
def hungC (l : List SOp) (e : SElem) (k : Nat) : Bool := !(rd_Op l (k : Int)).f4.toList.isEmpty && decide (key3 (rd_Op l (k : Int)).f3 = key3 e)
def hungR (l : List SOp) (e : SElem) (i : Nat) : List SElem := ((List.range i).reverse.filter (hungC l e)).map (fun k : Nat => (⟨(rd_Op l (k : Int)).f0, (rd_Op l (k : Int)).f1, 0⟩ : SElem))
def tailR (l : List SOp) (e : SElem) : List SElem := if isBegin e then [] else if writtenN l ⟨e.f0, e.f1, wrap64 (e.f2 + 1)⟩ then [⟨e.f0, e.f1, wrap64 (e.f2 + 1)⟩] else []
theorem hungR_succ (l : List SOp) (e : SElem) (i : Nat) : hungR l e (i + 1) = (if hungC l e i = true then [⟨(rd_Op l (i : Int)).f0, (rd_Op l (i : Int)).f1, 0⟩] else []) ++ hungR l e i := by
  unfold hungR
  rw [List.range_succ, List.reverse_append, List.reverse_cons, List.reverse_nil, List.nil_append, List.singleton_append, List.filter_cons]
  cases hungC l e i <;> rfl
theorem hungR_len (l : List SOp) (e : SElem) (i : Nat) : (hungR l e i).length ≤ i := by
  unfold hungR
  rw [List.length_map]
  exact Nat.le_trans (List.length_filter_le _ _) (by simp)
theorem eqK_iff (x : SElem) (a b c : Int) : (x.f0 == a && (x.f1 == b && (x.f2 == c))) = decide (key3 x = key3 ⟨a, b, c⟩) := by
  rw [eqE_iff, decide_eq_decide]
  exact ⟨fun h => by rw [h], fun h => key3_inj h⟩
theorem Under_loop (l : List SOp) (hl : SmL l) (hn : l.length ≤ 1000000) (e : SElem) : ∀ i (x : List SElem), i ≤ l.length → x.length + i ≤ 1000000 → Ev (fun k => lectionaryref4_Under.l0 k l x ((i : Int) - 1) e.f0 e.f1 e.f2) (x ++ (hungR l e i ++ tailR l e))
  | 0, x, hi, hx => by
    have e0 : hungR l e 0 = [] := rfl
    rw [e0, List.nil_append]
    unfold tailR
    refine Ev.step (f := fun k => (some (isBegin e)).bind fun t => if t = true then some x else (lectionaryref4_written.f k l e.f0 e.f1 (wrap64 (e.f2 + 1))).bind fun t => if t = true then (if x.length < 5864062014805 then some (x ++ [(⟨e.f0, e.f1, wrap64 (e.f2 + 1)⟩ : SElem)]) else none) else some x) (fun k => ?_) ?_
    · simp only [lectionaryref4_Under.l0]
      rw [if_neg (by omega), ref4_Begin_f]
    · simp only [Option.bind_some]
      cases isBegin e
      · simp only [Bool.false_eq_true, if_false]
        refine Ev.bind (written_ev l hl.len (fun o ho => (hl.ops o ho).1) ⟨e.f0, e.f1, wrap64 (e.f2 + 1)⟩) ?_
        cases writtenN l ⟨e.f0, e.f1, wrap64 (e.f2 + 1)⟩
        · simp only [Bool.false_eq_true, if_false, List.append_nil]; exact Ev.now _
        · have hx' : x.length < 5864062014805 := by omega
          simp only [if_true, if_pos hx']; exact Ev.now _
      · simp only [if_true, List.append_nil]; exact Ev.now _
  | i + 1, x, hi, hx => by
    have hlt : i < l.length := by omega
    have hw : wrap64 ((((i + 1 : Nat) : Int) - 1) - 1) = (i : Int) - 1 := by rw [wrap64_small (by omega) (by omega)]; omega
    have hr : rd_Op l (((i + 1 : Nat) : Int) - 1) = rd_Op l (i : Int) := by rw [show ((i + 1 : Nat) : Int) - 1 = (i : Int) by omega]
    rw [hungR_succ]
    have hk := eqK_iff (rd_Op l (i : Int)).f3 e.f0 e.f1 e.f2
    have he : (⟨e.f0, e.f1, e.f2⟩ : SElem) = e := rfl
    rw [he] at hk
    by_cases hz : (rd_Op l (i : Int)).f4.toList = []
    · have hc : hungC l e i = false := by unfold hungC; rw [hz]; rfl
      rw [hc]
      simp only [Bool.false_eq_true, if_false, List.nil_append]
      refine Ev.step (fun k => ?_) (Under_loop l hl hn e i x (by omega) (by omega))
      simp only [lectionaryref4_Under.l0]
      rw [if_pos (by omega), if_pos (by omega), if_pos (by omega), hr, hw, if_pos hz]
    · have hz' : (rd_Op l (i : Int)).f4.toList.isEmpty = false := by
        cases hq : (rd_Op l (i : Int)).f4.toList with
        | nil => exact absurd hq hz
        | cons => rfl
      have hc : hungC l e i = decide (key3 (rd_Op l (i : Int)).f3 = key3 e) := by unfold hungC; rw [hz']; rfl
      rw [hc]
      by_cases hq : key3 (rd_Op l (i : Int)).f3 = key3 e
      · have ih := Under_loop l hl hn e i (x ++ [⟨(rd_Op l (i : Int)).f0, (rd_Op l (i : Int)).f1, 0⟩]) (by omega) (by simp; omega)
        rw [if_pos (decide_eq_true hq)]
        rw [List.append_assoc] at ih ⊢
        refine Ev.step (fun k => ?_) ih
        simp only [lectionaryref4_Under.l0]
        rw [if_pos (by omega), if_pos (by omega), if_pos (by omega), hr, hw, if_neg hz, hk, if_pos (decide_eq_true hq), if_pos (by omega)]
      · rw [if_neg (by simp [hq]), List.nil_append]
        refine Ev.step (fun k => ?_) (Under_loop l hl hn e i x (by omega) (by omega))
        simp only [lectionaryref4_Under.l0]
        rw [if_pos (by omega), if_pos (by omega), if_pos (by omega), hr, hw, if_neg hz, hk, if_neg (by simp [hq])]
theorem under_eq {l : List SOp} (h : RowOk l) {e : SElem} (he : e = bgE ∨ e ∈ ordL l) : hungR l e l.length ++ tailR l e = chl l e := by
  rw [chl_under h he]
  unfold underR hungR tailR
  congr 1
  rcases he with rfl | he
  · rfl
  · have hp := ordL_pos h he
    obtain ⟨p, hp', e0, e1, h2, h3⟩ := (mem_ordL h e).1 he
    have hsz := (opOk_size2 (h.oks p hp')).1
    rw [wrap64_small (by omega) (by omega)]
    have hb : isBegin (⟨e.f0, e.f1, e.f2 + 1⟩ : SElem) = false := by
      unfold isBegin
      have : (e.f0 == 0) = false := by simp; omega
      rw [this]; rfl
    have : writtenN l ⟨e.f0, e.f1, e.f2 + 1⟩ = writtenB l ⟨e.f0, e.f1, e.f2 + 1⟩ := by
      unfold writtenN writtenB
      rw [hb, Bool.false_or]
      rcases findOp_cases l e.f0 e.f1 with ⟨i, hi, _, _, _, ef⟩ | ⟨_, ef⟩
      · simp only [ef, rd_Op_nat _ _ hi, opOk_text (h.oks _ (List.getElem_mem hi))]
      · simp only [ef]; rfl
    rw [this]
theorem Under_ev {l : List SOp} (hl : SmL l) (h : RowOk l) {e : SElem} (he : e = bgE ∨ e ∈ ordL l) : Ev (fun k => lectionaryref4_Under.f k l e.f0 e.f1 e.f2) (chl l e) := by
  have h40 := h.sums.1
  have := Under_loop l hl (by omega) e l.length [] (Nat.le_refl _) (by simp; omega)
  rw [List.nil_append, under_eq h he] at this
  unfold lectionaryref4_Under.f
  rw [wrap64_small (by omega) (by omega)]
  exact this
theorem Order_push (l : List SOp) (x u : List SElem) {r : List SElem} : ∀ i (t : List SElem), i ≤ u.length → t.length + i ≤ 1000000000 → Ev (fun k => lectionaryref4_Order.l0 k l x (t ++ (u.take i).reverse)) r → Ev (fun k => lectionaryref4_Order.l1 k l x t u ((i : Int) - 1)) r
  | 0, t, hi, ht, h => by
    rw [List.take_zero, List.reverse_nil, List.append_nil] at h
    refine Ev.step (fun k => ?_) h
    simp only [lectionaryref4_Order.l1]
    rw [if_neg (by omega)]
  | i + 1, t, hi, ht, h => by
    have hlt : i < u.length := by omega
    have hw : wrap64 ((((i + 1 : Nat) : Int) - 1) - 1) = (i : Int) - 1 := by rw [wrap64_small (by omega) (by omega)]; omega
    have hr : rd_Elem u (((i + 1 : Nat) : Int) - 1) = u[i] := by rw [show ((i + 1 : Nat) : Int) - 1 = (i : Int) by omega, rd_Elem_nat _ _ hlt]
    have ih := Order_push l x u (r := r) i (t ++ [u[i]]) (by omega) (by simp; omega) (by
      rw [List.take_succ_eq_append_getElem hlt, List.reverse_append, List.reverse_singleton, List.singleton_append] at h
      rw [List.append_assoc, List.singleton_append]; exact h)
    refine Ev.step (fun k => ?_) ih
    simp only [lectionaryref4_Order.l1]
    rw [if_pos (by omega), if_pos (by omega), if_pos (by omega), if_pos (by omega), hr, hw]
theorem Order_one {l : List SOp} (hl : SmL l) (h : RowOk l) {e : SElem} (he : e = bgE ∨ e ∈ ordL l) (x t : List SElem) {r : List SElem} (ht : t.length + (chl l e).length ≤ 1000000000) (hx : x.length ≤ 1000000000)
    (k : Ev (fun k => lectionaryref4_Order.l0 k l (if isBegin e = true then x else x ++ [e]) (t ++ (chl l e).reverse)) r) : Ev (fun k => lectionaryref4_Order.l0 k l x (t ++ [e])) r := by
  have hlen : (t ++ [e]).length = t.length + 1 := by simp
  have hr : rd_Elem (t ++ [e]) (t.length : Int) = e := by rw [rd_Elem_nat _ _ (by simp)]; simp
  have hj : ∀ y : List SElem, Ev (fun k => lectionaryref4_Order.l0 k l y (t ++ (chl l e).reverse)) r → Ev (fun k => lectionaryref4_Order.j1 k l y t e.f0 e.f1 e.f2) r := by
    intro y hy
    refine Ev.step (f := fun k => (lectionaryref4_Under.f k l e.f0 e.f1 e.f2).bind fun t366 => lectionaryref4_Order.l1 k l y t t366 (wrap64 ((t366.length : Int) - 1))) (fun k => by simp only [lectionaryref4_Order.j1]) (Ev.bind (f := fun k t366 => lectionaryref4_Order.l1 k l y t t366 (wrap64 ((t366.length : Int) - 1))) (Under_ev hl h he) ?_)
    rw [wrap64_small (by omega) (by omega)]
    refine Order_push l y (chl l e) (chl l e).length t (Nat.le_refl _) ht ?_
    rw [List.take_length]; exact hy
  have h1 : wrap64 (((t ++ [e]).length : Int) - 1) = (t.length : Int) := by rw [hlen, wrap64_small (by omega) (by omega)]; omega
  have hT : (t ++ [e]).take ((t.length : Int)).toNat = t := by rw [Int.toNat_natCast]; simp
  refine Ev.step (f := fun k => if isBegin e = true then lectionaryref4_Order.j1 k l x t e.f0 e.f1 e.f2 else lectionaryref4_Order.j1 k l (x ++ [e]) t e.f0 e.f1 e.f2) (fun k => ?_) ?_
  · simp only [lectionaryref4_Order.l0]
    rw [h1, if_pos (by omega), if_pos (by omega), if_pos (by omega), if_pos (by omega), hT, Option.bind_some, hr, ref4_Begin_f, Option.bind_some, if_pos (show x.length < 5864062014805 by omega)]
  · cases hb : isBegin e
    · rw [hb] at k
      simp only [Bool.false_eq_true, if_false] at k ⊢
      exact hj _ k
    · rw [hb] at k
      simp only [if_true] at k ⊢
      exact hj _ k
theorem walk_len {ch : SElem → List SElem} {xs L : List SElem} (h : WalkL ch xs L) : xs.length ≤ L.length := by
  induction h with
  | nil => exact Nat.le_refl _
  | cons h1 h2 ih1 ih2 => simp only [List.length_cons, List.length_append]; omega
theorem Order_walk {l : List SOp} (hl : SmL l) (h : RowOk l) {r : List SElem} {xs L : List SElem} (hw : WalkL (chl l) xs L) : ∀ (x t : List SElem), (∀ e ∈ L, e ∈ ordL l) → x.length + L.length ≤ 1000000 → t.length + L.length ≤ 1000000 →
    Ev (fun k => lectionaryref4_Order.l0 k l (x ++ L) t) r → Ev (fun k => lectionaryref4_Order.l0 k l x (t ++ xs.reverse)) r := by
  induction hw with
  | nil => intro x t _ _ _ k; simpa using k
  | cons h1 h2 ih1 ih2 =>
    rename_i e xs L1 L2
    intro x t hm hx ht k
    simp only [List.length_cons, List.length_append] at hx ht
    have w1 := walk_len h1
    have w2 := walk_len h2
    have he : e ∈ ordL l := hm e List.mem_cons_self
    have hb : isBegin e = false := by
      cases hb : isBegin e
      · rfl
      · have := (isBegin_iff e).1 hb
        have hp := ordL_pos h he
        rw [this] at hp; simp [bgE] at hp
    rw [List.reverse_cons, ← List.append_assoc]
    refine Order_one hl h (.inr he) x (t ++ xs.reverse) (by simp; omega) (by omega) ?_
    rw [hb]
    simp only [Bool.false_eq_true, if_false]
    refine ih1 (x ++ [e]) (t ++ xs.reverse) (fun y hy => hm y (by simp [hy])) (by simp; omega) (by simp; omega) ?_
    refine ih2 (x ++ [e] ++ L1) t (fun y hy => hm y (by simp [hy])) (by simp; omega) (by omega) ?_
    have : x ++ [e] ++ L1 ++ L2 = x ++ e :: (L1 ++ L2) := by simp
    rw [this]; exact k
theorem Order_ev {l : List SOp} (hl : SmL l) (h : RowOk l) : Ev (fun k => lectionaryref4_Order.f k l) (ordL l) := by
  have hlen : (ordL l).length ≤ 200 := by rw [(ordL_nodup h).2]; exact h.sums.2
  have hw := ordL_walk h
  have w := walk_len hw
  refine Order_one (e := bgE) hl h (.inl rfl) [] [] (by simp; omega) (by simp) ?_
  have hb : isBegin bgE = true := rfl
  rw [if_pos hb]
  refine Order_walk hl h hw [] [] (fun e he => he) (by simp; omega) (by simp; omega) ?_
  rw [List.nil_append]
  refine Ev.step (f := fun _ => some (ordL l)) (fun k => ?_) (Ev.now _)
  simp only [lectionaryref4_Order.l0]
  rw [if_neg (by simp)]
theorem Index_loop (l : List SElem) (hl : l.length ≤ 1000000000) (a b c : Int) : ∀ d i, i + d = l.length → Ev (fun k => api_Elem.l0 k l (l.length : Int) (i : Int) a b c) (firstAt (fun i => decide (rd_Elem l (i : Int) = ⟨a, b, c⟩)) l.length d i)
  | 0, i, h => Ev.step (f := fun _ => some (-1)) (fun k => by simp only [api_Elem.l0]; rw [if_neg (by omega)]) (Ev.now _)
  | d + 1, i, h => by
    have ih := Index_loop l hl a b c d (i + 1) (by omega)
    have hq : (a == (rd_Elem l (i : Int)).f0 && (b == (rd_Elem l (i : Int)).f1 && (c == (rd_Elem l (i : Int)).f2))) = decide (rd_Elem l (i : Int) = ⟨a, b, c⟩) := by
      rw [← eqE_iff, Bool.beq_comm, Bool.beq_comm (a := b), Bool.beq_comm (a := c)]
    unfold firstAt
    rw [if_pos (show i < l.length by omega)]
    by_cases he : rd_Elem l (i : Int) = ⟨a, b, c⟩
    · rw [if_pos (by simp [he])]
      refine Ev.step (f := fun _ => some (i : Int)) (fun k => ?_) (Ev.now _)
      simp only [api_Elem.l0, hq]
      rw [if_pos (by omega), if_pos (by omega), if_pos (by omega), if_pos (by simp [he])]
    · rw [if_neg (by simp [he])]
      refine Ev.step (fun k => ?_) ih
      simp only [api_Elem.l0, hq]
      rw [if_pos (by omega), if_pos (by omega), if_pos (by omega), if_neg (by simp [he]), wrapS (show i < l.length by omega) (by omega)]
theorem Index_ev (l : List SElem) (hl : l.length ≤ 1000000000) (e : SElem) : Ev (fun k => api_Elem.f k l e.f0 e.f1 e.f2) (idxE l e) := Index_loop l hl e.f0 e.f1 e.f2 l.length 0 (Nat.zero_add _)
theorem Place_ev {l : List SOp} (hs : smalls l = true) (h : RowOk l) (e : SElem) : Ev (fun k => tree_Place.f k l e.f0 e.f1 e.f2) (if writtenB l e = true then (idxE (ordL l) e, 0) else (0, 3)) := by
  have hlen : (ordL l).length ≤ 200 := by rw [(ordL_nodup h).2]; exact h.sums.2
  refine Ev.congr (f := fun k => if writtenB l e = true then (api_Elem.f k (ordL l) e.f0 e.f1 e.f2).bind fun t402 => some (t402, 0) else some (0, 3)) (fun k => ?_) ?_
  · unfold tree_Place.f
    rw [tree_May_f hs, (mayB_iff l).2 h, Option.bind_some, if_pos rfl, tree_Written_f hs, Option.bind_some]
    cases writtenB l e
    · rfl
    · simp only [if_true]; rw [tree_All_f hs h, Option.bind_some]
  · cases writtenB l e
    · exact Ev.now _
    · simp only [if_true]
      exact Ev.bind (f := fun _ t => some (t, 0)) (Index_ev _ (by omega) e) (Ev.now _)
theorem idxE_at {l : List SElem} (hn : l.Nodup) {i : Nat} (hi : i < l.length) : idxE l l[i] = (i : Int) := by
  rcases idxE_cases l l[i] with ⟨j, hj, he, _, e'⟩ | ⟨hn', _⟩
  · rw [e', (List.getElem_inj hn).1 he]
  · exact absurd (List.getElem_mem hi) hn'
theorem Under_ok {l : List SOp} (hs : smalls l = true) (h : RowOk l) {e : SElem} (he : e ∈ ordL l) : tree_Under.f l e.f0 e.f1 e.f2 = some (chl l e, 0) := by
  unfold tree_Under.f underC
  rw [if_pos hs, if_pos ((mayB_iff l).2 h), if_pos]
  · rfl
  · show (isBegin e || writtenB l e) = true
    rw [(mem_written h e).2 he, Bool.or_true]
end Go.Proofs.YtdahgnalojekdaaDoor.L
end

section
namespace Go.Proofs.YtdahgnalojekdaaDoor.L
open Go.RowKit Go.Proofs.YtdahgnalojekdaaDoorW.PrintWords Go.Proofs.YtdahgnalojekdaaDoorW.PrintLast Go.Proofs.YtdahgnalojekdaaDoorW.PrintMore
set_option linter.unusedVariables false
set_option linter.unusedSimpArgs false
theorem wakesS_f : lectionarylaw5_wakes.f = some true := by decide +kernel
def texts : List ByteArray := [(⟨#[97]⟩ : ByteArray), (⟨#[98, 99]⟩ : ByteArray), (⟨#[100, 101, 102]⟩ : ByteArray)]
def texT (i : Nat) : ByteArray := rdOf ByteArray.empty texts ((i % 3 : Nat) : Int)
def opB (a : Nat → SElem) (i : Nat) : SOp := ⟨((1 + i % 3 : Nat) : Int), ((1 + i / 3 : Nat) : Int), 1, a i, texT i, [], 0, 0, 0⟩
def rowB (a : Nat → SElem) (n : Nat) : List SOp := (List.range n).map (opB a)
def AftOk (a : Nat → SElem) : Prop := ∀ i, a i = bgE ∨ ∃ j z : Nat, j < i ∧ z < 1 + j % 3 ∧ a i = ⟨((1 + j % 3 : Nat) : Int), ((1 + j / 3 : Nat) : Int), (z : Int)⟩
theorem rowB_succ (a : Nat → SElem) (n : Nat) : rowB a (n + 1) = rowB a n ++ [opB a n] := by simp [rowB, List.range_succ]
theorem rowB_len (a : Nat → SElem) (n : Nat) : (rowB a n).length = n := by simp [rowB]
theorem rowB_at (a : Nat → SElem) (n j : Nat) (h : j < n) : rd_Op (rowB a n) (j : Int) = opB a j := by
  rw [rd_Op_nat _ _ (by rw [rowB_len]; exact h)]
  simp [rowB]
theorem texT_all (i : Nat) : (texT i).size = 1 + i % 3 ∧ (texT i).toList.isEmpty = false ∧ textOk (texT i) = true ∧ (runesOf (texT i)).length = 1 + i % 3 := by
  have h : i % 3 = 0 ∨ i % 3 = 1 ∨ i % 3 = 2 := by omega
  unfold texT
  rcases h with h | h | h <;> rw [h] <;> decide +kernel
theorem opB_size (a : Nat → SElem) (i : Nat) : sizeOf' (opB a i) = 1 + i % 3 := (texT_all i).2.2.2
theorem rowB_total (a : Nat → SElem) : ∀ n, total (rowB a n) ≤ 3 * n
  | 0 => Nat.le_refl _
  | n + 1 => by
    have := rowB_total a n
    rw [rowB_succ, total_app, opB_size]; omega
theorem rowB_count (a : Nat → SElem) (s : Nat) (hs : s < 3) : ∀ n, countS (rowB a n) ((1 + s : Nat) : Int) = (n + 2 - s) / 3
  | 0 => by show (0 : Nat) = _; omega
  | n + 1 => by
    rw [rowB_succ, countS_app, rowB_count a s hs n]
    have e : (opB a n).f0 = ((1 + n % 3 : Nat) : Int) := rfl
    rw [e]
    split <;> omega
theorem opB_ok {a : Nat → SElem} (ha : AftOk a) (i : Nat) (hi : i < 24) : opOk (opB a i) = true := by
  obtain ⟨t1, t2, t3, t4⟩ := texT_all i
  have hE : elemOk (a i) = true ∧ ownEl (opB a i) (a i) = false := by
    rcases ha i with h | ⟨j, z, hj, hz, h⟩
    · rw [h]
      refine ⟨rfl, ?_⟩
      unfold ownEl
      have : (bgE.f0 == (opB a i).f0) = false := by
        show ((0 : Int) == ((1 + i % 3 : Nat) : Int)) = false
        simp; omega
      rw [this]; rfl
    · rw [h]
      constructor
      · unfold elemOk nameOk
        simp only [Bool.or_eq_true, Bool.and_eq_true, decide_eq_true_eq]
        exact .inr ⟨⟨⟨⟨⟨by omega, by omega⟩, by omega⟩, by omega⟩, by omega⟩, by omega⟩
      · unfold ownEl
        show (((1 + j % 3 : Nat) : Int) == ((1 + i % 3 : Nat) : Int) && ((1 + j / 3 : Nat) : Int) == ((1 + i / 3 : Nat) : Int)) = false
        simp only [Bool.and_eq_false_iff, beq_eq_false_iff_ne]
        by_cases h3 : j % 3 = i % 3
        · right; omega
        · left; omega
  have hN : nameOk (opB a i).f0 (opB a i).f1 = true := by
    show nameOk ((1 + i % 3 : Nat) : Int) ((1 + i / 3 : Nat) : Int) = true
    unfold nameOk
    simp only [Bool.and_eq_true, decide_eq_true_eq]
    exact ⟨⟨⟨by omega, by omega⟩, by omega⟩, by omega⟩
  have hS : decide (sizeOf' (opB a i) ≤ 12) = true := by rw [opB_size]; exact decide_eq_true (by omega)
  have hG : goneOk (opB a i) = true := rfl
  have e3 : (opB a i).f3 = a i := rfl
  have e4 : (opB a i).f4 = texT i := rfl
  have hEd : editOk (opB a i) = true := by
    unfold editOk
    rw [hS, hG, e3, e4, hE.1, hE.2, t2, t3]
    rfl
  unfold opOk
  rw [hN, if_pos (show (opB a i).f2 = 1 from rfl), hEd]; rfl
theorem rowB_ok {a : Nat → SElem} (ha : AftOk a) : ∀ n, n ≤ 24 → RowOk (rowB a n)
  | 0, _ => RowOk.nil
  | n + 1, hn => by
    rw [rowB_succ]
    refine .snoc (rowB_ok ha n (by omega)) ⟨by rw [rowB_len]; omega, opB_ok ha n (by omega), ?_, ?_, fun e he => (by cases he), fun h => absurd h (by show ¬ ((1 : Int) = 2); decide), ?_⟩
    · show ((1 + n / 3 : Nat) : Int) = (countS (rowB a n) ((1 + n % 3 : Nat) : Int) : Int) + 1
      rw [rowB_count a (n % 3) (by omega) n]; omega
    · show wr (rowB a n) (a n)
      rcases ha n with h | ⟨j, z, hj, hz, h⟩
      · rw [h]; exact .inl rfl
      · rw [h]
        refine .inr ⟨by show (0 : Int) ≤ (z : Int); omega, opB a j, List.mem_map.2 ⟨j, List.mem_range.2 hj, rfl⟩, rfl, rfl, ?_⟩
        rw [opB_size]; show (z : Int) < _; omega
    · have := rowB_total a n
      rw [opB_size]; omega
theorem rowB_mem {a : Nat → SElem} {n : Nat} {o : SOp} (ho : o ∈ rowB a n) : o.f4.size ≤ 3 ∧ o.f5 = [] := by
  unfold rowB at ho
  obtain ⟨i, _, rfl⟩ := List.mem_map.1 ho
  exact ⟨by show (texT i).size ≤ 3; rw [(texT_all i).1]; omega, rfl⟩
theorem rowB_smalls (a : Nat → SElem) (n : Nat) (h : n ≤ 24) : smalls (rowB a n) = true :=
  good_smalls ⟨by rw [rowB_len]; omega, fun o ho => by have := rowB_mem ho; rw [this.2]; exact ⟨by omega, by simp⟩⟩
theorem rowB_SmL (a : Nat → SElem) (n : Nat) (h : n ≤ 24) : SmL (rowB a n) :=
  ⟨by rw [rowB_len]; omega, fun o ho => by have := rowB_mem ho; unfold Sm2; rw [this.2]; exact ⟨by omega, by simp⟩⟩
section
variable {l0 : List (List SOp)} {l1 : List SElem} {l2 : List SOp} {l3 : List Int}
def RowSteps (l0 : List (List SOp)) (l1 : List SElem) (l2 : List SOp) (l3 : List Int) (kind : Int) (a : Nat → SElem) : Prop :=
  ∀ (n i k : Nat), i < n → n ≤ 24 → lectionarylaw5_row.l0 (k + 1) (n : Int) kind (rowB a i) (i : Int) l0 l1 l2 l3 = lectionarylaw5_row.l0 k (n : Int) kind (rowB a (i + 1)) ((i + 1 : Nat) : Int) l0 l1 l2 l3
theorem row_loop {kind : Int} {a : Nat → SElem} (hS : RowSteps l0 l1 l2 l3 kind a) (n : Nat) (hn : n ≤ 24) : ∀ d i, i + d = n → Ev (fun k => lectionarylaw5_row.l0 k (n : Int) kind (rowB a i) (i : Int) l0 l1 l2 l3) (rowB a n)
  | 0, i, h => by
    obtain rfl : i = n := by omega
    refine Ev.step (f := fun _ => some (rowB a i)) (fun k => ?_) (Ev.now _)
    simp only [lectionarylaw5_row.l0]
    rw [if_neg (by omega)]
  | d + 1, i, h => Ev.step (fun k => hS n i k (by omega) hn) (row_loop hS n hn d (i + 1) (by omega))
theorem row_ev {kind : Int} {a : Nat → SElem} (hS : RowSteps l0 l1 l2 l3 kind a) (n : Nat) (hn : n ≤ 24) : Ev (fun k => lectionarylaw5_row.f k l0 l1 l2 l3 (n : Int) kind) (rowB a n) := row_loop hS n hn n 0 (Nat.zero_add _)
theorem row_words (i : Nat) (h : i < 24) : Int.tmod (i : Int) 3 = ((i % 3 : Nat) : Int) ∧ wrap64 (1 + ((i % 3 : Nat) : Int)) = ((1 + i % 3 : Nat) : Int) ∧ wrap64 (1 + (wrap64 (Int.tdiv (i : Int) 3))) = ((1 + i / 3 : Nat) : Int) := by
  refine ⟨by rw [Int.tmod_eq_emod_of_nonneg (by omega)]; omega, ?_, ?_⟩
  · rw [wrap64_small (by omega) (by omega)]; omega
  · rw [Int.tdiv_eq_ediv_of_nonneg (by omega), wrap64_small (i := (i : Int) / 3) (by omega) (by omega), wrap64_small (by omega) (by omega)]; omega
theorem row_push (a : Nat → SElem) (i : Nat) (e : SElem) (he : a i = e) : rowB a i ++ [(⟨((1 + i % 3 : Nat) : Int), ((1 + i / 3 : Nat) : Int), 1, e, rdOf ByteArray.empty texts ((i % 3 : Nat) : Int), ([] : List (SElem)), 0, 0, 0⟩ : SOp)] = rowB a (i + 1) := by
  rw [rowB_succ, ← he]; rfl
def after0 (_ : Nat) : SElem := bgE
def after1 (i : Nat) : SElem := if i = 0 then bgE else ⟨((1 + (i - 1) % 3 : Nat) : Int), ((1 + (i - 1) / 3 : Nat) : Int), 0⟩
def afterK (m kind i : Nat) : SElem := if i = 0 then bgE else ⟨((1 + ((i * kind + m) % i) % 3 : Nat) : Int), ((1 + ((i * kind + m) % i) / 3 : Nat) : Int), (((i * kind + m) % i % 3 : Nat) : Int)⟩
theorem after0_ok : AftOk after0 := fun i => .inl rfl
theorem after1_ok : AftOk after1 := fun i => by
  by_cases h : i = 0
  · exact .inl (by unfold after1; rw [if_pos h])
  · exact .inr ⟨i - 1, 0, by omega, by omega, by unfold after1; rw [if_neg h]; rfl⟩
theorem afterK_ok (m kind : Nat) : AftOk (afterK m kind) := fun i => by
  by_cases h : i = 0
  · exact .inl (by unfold afterK; rw [if_pos h])
  · exact .inr ⟨(i * kind + m) % i, (i * kind + m) % i % 3, Nat.mod_lt _ (by omega), by omega, by unfold afterK; rw [if_neg h]⟩
theorem steps0 : RowSteps l0 l1 l2 l3 0 after0 := by
  intro n i k hi hn
  obtain ⟨w1, w2, w3⟩ := row_words i (by omega)
  have hp := row_push after0 i bgE rfl
  simp only [lectionarylaw5_row.l0]
  rw [if_pos (by omega), Option.bind_some, w1, w2, w3, rowB_len, wrapS hi (by omega), if_pos (by omega), if_pos (show ((i % 3 : Nat) : Int) < ((([(⟨#[97]⟩ : ByteArray), (⟨#[98, 99]⟩ : ByteArray), (⟨#[100, 101, 102]⟩ : ByteArray)] : List ByteArray).length : Nat) : Int) by show ((i % 3 : Nat) : Int) < (3 : Int); omega), if_pos True.intro, if_pos (show i < 1256584717458 by omega)]
  by_cases h0 : (i : Int) > 0
  · rw [if_pos h0, if_neg (by omega)]
    rw [← hp]; rfl
  · rw [if_neg h0]
    rw [← hp]; rfl
theorem steps1 : RowSteps l0 l1 l2 l3 1 after1 := by
  intro n i k hi hn
  obtain ⟨w1, w2, w3⟩ := row_words i (by omega)
  simp only [lectionarylaw5_row.l0]
  rw [if_pos (by omega), Option.bind_some, w1, w2, w3, rowB_len, wrapS hi (by omega), if_pos (by omega), if_pos (show ((i % 3 : Nat) : Int) < ((([(⟨#[97]⟩ : ByteArray), (⟨#[98, 99]⟩ : ByteArray), (⟨#[100, 101, 102]⟩ : ByteArray)] : List ByteArray).length : Nat) : Int) by show ((i % 3 : Nat) : Int) < (3 : Int); omega), if_pos (show i < 1256584717458 by omega), if_neg (show ¬ (1 : Int) = 0 by decide), if_pos True.intro]
  by_cases h0 : (i : Int) > 0
  · have hw : wrap64 ((i : Int) - 1) = ((i - 1 : Nat) : Int) := by rw [wrap64_small (by omega) (by omega)]; omega
    have hp := row_push after1 i ⟨((1 + (i - 1) % 3 : Nat) : Int), ((1 + (i - 1) / 3 : Nat) : Int), 0⟩ (by unfold after1; rw [if_neg (by omega)])
    rw [if_pos h0, if_neg (by omega), hw, if_pos (by omega), if_pos (by omega), rowB_at _ _ _ (by omega), if_pos (show i < 1256584717458 by omega)]
    rw [← hp]; rfl
  · have hp := row_push after1 i bgE (by unfold after1; rw [if_pos (by omega)])
    rw [if_neg h0]
    rw [← hp]; rfl
theorem stepsK (kind : Nat) (h2 : 2 ≤ kind) (h5 : kind ≤ 5) (hm : l3.length ≤ 140737488351232) (hm1 : l1.length ≤ 140737488351232) : RowSteps l0 l1 l2 l3 (kind : Int) (afterK (l3.length + l1.length) kind) := by
  intro n i k hi hn
  obtain ⟨w1, w2, w3⟩ := row_words i (by omega)
  simp only [lectionarylaw5_row.l0]
  rw [if_pos (by omega), Option.bind_some, w1, w2, w3, rowB_len, wrapS hi (by omega), if_pos (by omega), if_pos (show ((i % 3 : Nat) : Int) < ((([(⟨#[97]⟩ : ByteArray), (⟨#[98, 99]⟩ : ByteArray), (⟨#[100, 101, 102]⟩ : ByteArray)] : List ByteArray).length : Nat) : Int) by show ((i % 3 : Nat) : Int) < (3 : Int); omega), if_pos (show i < 1256584717458 by omega), if_neg (show ¬ (kind : Int) = 0 by omega), if_neg (show ¬ (kind : Int) = 1 by omega)]
  by_cases h0 : (i : Int) > 0
  · have hmul : i * kind ≤ 24 * 5 := Nat.mul_le_mul (by omega) h5
    have hk : Int.tmod (wrap64 ((wrap64 ((wrap64 ((i : Int) * (kind : Int))) + (l3.length : Int))) + (l1.length : Int))) (i : Int) = (((i * kind + (l3.length + l1.length)) % i : Nat) : Int) := by
      rw [← Int.natCast_mul]
      generalize i * kind = m at hmul ⊢
      rw [wrap64_small (i := (m : Int)) (by omega) (by omega), wrap64_small (i := (m : Int) + (l3.length : Int)) (by omega) (by omega), wrap64_small (by omega) (by omega), Int.tmod_eq_emod_of_nonneg (by omega), Int.natCast_emod]
      congr 1
      omega
    have hlt : (i * kind + (l3.length + l1.length)) % i < i := Nat.mod_lt _ (by omega)
    have hp := row_push (afterK (l3.length + l1.length) kind) i ⟨((1 + ((i * kind + (l3.length + l1.length)) % i) % 3 : Nat) : Int), ((1 + ((i * kind + (l3.length + l1.length)) % i) / 3 : Nat) : Int), (((i * kind + (l3.length + l1.length)) % i % 3 : Nat) : Int)⟩ (by unfold afterK; rw [if_neg (by omega)])
    rw [if_pos h0, if_neg (by omega), hk]
    generalize (i * kind + (l3.length + l1.length)) % i = j at hlt hp ⊢
    have hz : wrap64 ((((opB (afterK (l3.length + l1.length) kind) j).f4.size : Nat) : Int) - 1) = ((j % 3 : Nat) : Int) := by
      have : (opB (afterK (l3.length + l1.length) kind) j).f4.size = 1 + j % 3 := (texT_all j).1
      rw [this, wrap64_small (by omega) (by omega)]; omega
    rw [if_pos (by omega), if_pos (by omega), rowB_at _ _ _ hlt, hz, if_pos (show i < 1256584717458 by omega)]
    rw [← hp]; rfl
  · have hp := row_push (afterK (l3.length + l1.length) kind) i bgE (by unfold afterK; rw [if_pos (by omega)])
    rw [if_neg h0]
    rw [← hp]; rfl
theorem num5_f (a : Int) : lectionarylaw5_num.f a = some a := rfl
theorem same_l1 {R : List SOp} (hs : smalls R = true) (hl : SmL R) (h : RowOk R) {kind x5 : Int} (hk : Ev (fun k => lectionarylaw5_same.l0 k kind (wrap64 (x5 + 3)) l0 l1 l2 l3) true) : ∀ d i, i + d = (ordL R).length → Ev (fun k => lectionarylaw5_same.l1 k kind x5 R (ordL R) (i : Int) l0 l1 l2 l3) true
  | 0, i, hi => by
    refine Ev.step (fun k => ?_) hk
    simp only [lectionarylaw5_same.l1]
    rw [if_neg (by omega)]
  | d + 1, i, hi => by
    have hlt : i < (ordL R).length := by omega
    have hlen : (ordL R).length ≤ 200 := by rw [(ordL_nodup h).2]; exact h.sums.2
    have ih := same_l1 hs hl h hk d (i + 1) (by omega)
    have hm : (ordL R)[i] ∈ ordL R := List.getElem_mem hlt
    have hU := Under_ev hl h (.inr hm)
    have hP := Place_ev hs h (ordL R)[i]
    rw [if_pos ((mem_written h _).2 hm), idxE_at (ordL_nodup h).1 hlt] at hP
    have hch : (chl R (ordL R)[i]).length ≤ 1000000000 := by
      have h40 := h.sums.1
      rw [← under_eq h (.inr hm), List.length_append]
      have a1 := hungR_len R (ordL R)[i] R.length
      have a2 : (tailR R (ordL R)[i]).length ≤ 1 := by unfold tailR; split <;> (try split) <;> simp
      omega
    have hE := EqElems_ev (chl R (ordL R)[i]) (chl R (ordL R)[i]) hch
    rw [decide_eq_true rfl] at hE
    have hj : Ev (fun k => lectionarylaw5_same.j3 k kind x5 R (ordL R) (i : Int) (!true) l0 l1 l2 l3) true := by
      refine Ev.step (fun k => ?_) ih
      simp only [lectionarylaw5_same.j3]
      rw [if_neg (by decide), wrapS hlt (by omega)]
    refine Ev.step (f := fun k => (tree_Place.f k R (ordL R)[i].f0 (ordL R)[i].f1 (ordL R)[i].f2).bind fun bt => if bt.2 = 0 then (if bt.1 = (i : Int) then ((lectionaryref4_Under.f k R (ordL R)[i].f0 (ordL R)[i].f1 (ordL R)[i].f2).bind fun t468 => ((lectionaryref0_EqElems.f k (chl R (ordL R)[i]) t468).bind fun t471 => (lectionarylaw5_same.j3 k kind x5 R (ordL R) (i : Int) (!t471) l0 l1 l2 l3))) else (lectionarylaw5_same.j3 k kind x5 R (ordL R) (i : Int) true l0 l1 l2 l3)) else (lectionarylaw5_same.j3 k kind x5 R (ordL R) (i : Int) true l0 l1 l2 l3)) (fun k => ?_) (Ev.bind (f := fun k (bt : Int × Int) => if bt.2 = 0 then (if bt.1 = (i : Int) then ((lectionaryref4_Under.f k R (ordL R)[i].f0 (ordL R)[i].f1 (ordL R)[i].f2).bind fun t468 => ((lectionaryref0_EqElems.f k (chl R (ordL R)[i]) t468).bind fun t471 => (lectionarylaw5_same.j3 k kind x5 R (ordL R) (i : Int) (!t471) l0 l1 l2 l3))) else (lectionarylaw5_same.j3 k kind x5 R (ordL R) (i : Int) true l0 l1 l2 l3)) else (lectionarylaw5_same.j3 k kind x5 R (ordL R) (i : Int) true l0 l1 l2 l3)) hP ?_)
    · simp only [lectionarylaw5_same.l1]
      rw [if_pos (by omega), if_pos (by omega), rd_Elem_nat _ _ hlt, Under_ok hs h hm, Option.bind_some]
      simp only [num5_f, Option.bind_some, if_true]
    · simp only [if_true]
      exact Ev.bind (f := fun k t468 => (lectionaryref0_EqElems.f k (chl R (ordL R)[i]) t468).bind fun t471 => (lectionarylaw5_same.j3 k kind x5 R (ordL R) (i : Int) (!t471) l0 l1 l2 l3)) hU (Ev.bind (f := fun k t471 => lectionarylaw5_same.j3 k kind x5 R (ordL R) (i : Int) (!t471) l0 l1 l2 l3) hE hj)
theorem same_l0 {kind : Int} {a : Nat → SElem} (ha : AftOk a) (hS : RowSteps l0 l1 l2 l3 kind a) : ∀ d m, m + d = 9 → Ev (fun k => lectionarylaw5_same.l0 k kind ((3 * m : Nat) : Int) l0 l1 l2 l3) true
  | 0, m, hm => by
    refine Ev.step (f := fun _ => some true) (fun k => ?_) (Ev.now _)
    simp only [lectionarylaw5_same.l0]
    rw [if_neg (by omega), wakesS_f]
    rfl
  | d + 1, m, hm => by
    have h24 : 3 * m ≤ 24 := by omega
    have ih := same_l0 ha hS d (m + 1) (by omega)
    have hr := row_ev hS (3 * m) h24
    have hok := rowB_ok ha (3 * m) h24
    have hs := rowB_smalls a (3 * m) h24
    have hl := rowB_SmL a (3 * m) h24
    generalize rowB a (3 * m) = R at hr hok hs hl
    have hlen : (ordL R).length ≤ 200 := by rw [(ordL_nodup hok).2]; exact hok.sums.2
    have hw : wrap64 (((3 * m : Nat) : Int) + 3) = ((3 * (m + 1) : Nat) : Int) := by rw [wrap64_small (by omega) (by omega)]; omega
    have h1 := same_l1 (l0 := l0) (l1 := l1) (l2 := l2) (l3 := l3) hs hl hok (kind := kind) (x5 := ((3 * m : Nat) : Int)) (by rw [hw]; exact ih) (ordL R).length 0 (Nat.zero_add _)
    have hj : Ev (fun k => lectionarylaw5_same.j1 k kind ((3 * m : Nat) : Int) R (ordL R) (!true) l0 l1 l2 l3) true := by
      refine Ev.step (fun k => ?_) h1
      simp only [lectionarylaw5_same.j1]
      rw [if_neg (by decide)]
      rfl
    have hR := Row_ev R hl
    rw [(mayB_iff R).2 hok] at hR
    have hE := EqElems_ev (ordL R) (ordL R) (by omega)
    rw [decide_eq_true rfl] at hE
    refine Ev.step (fun k => by simp only [lectionarylaw5_same.l0]; rw [if_pos (by omega)]) (Ev.bind hr ?_)
    simp only [tree_Order_ok hs hok, Option.bind_some]
    refine Ev.bind hR ?_
    simp only [if_true, num5_f, Option.bind_some]
    exact Ev.bind (Order_ev hl hok) (Ev.bind hE hj)
theorem same_ev {kind : Int} {a : Nat → SElem} (ha : AftOk a) (hS : RowSteps l0 l1 l2 l3 kind a) : Ev (fun k => lectionarylaw5_same.f k l0 l1 l2 l3 kind) true := same_l0 ha hS 9 0 (Nat.zero_add _)
end
end Go.Proofs.YtdahgnalojekdaaDoor.L
end

section
namespace Go.Proofs.YtdahgnalojekdaaDoor.L
open Go.RowKit Go.Proofs.YtdahgnalojekdaaDoorW.PrintWords Go.Proofs.YtdahgnalojekdaaDoorW.PrintLast Go.Proofs.YtdahgnalojekdaaDoorW.PrintMore
set_option linter.unusedVariables false
theorem PureTreeBegins (l0 : List (List SOp)) (l1 : List SElem) (l2 : List SOp) (l3 : List Int) (hg : GoodAsk l0 l1 l2 l3) : ∃ k, lectionarylaw5_TreeBegins.f k l0 l1 l2 l3 = some true :=
  Ev.rounds (Ev.bind (f := fun _ t => some t) (same_ev after0_ok steps0) (Ev.now _))
end Go.Proofs.YtdahgnalojekdaaDoor.L
end

section
namespace Go.Proofs.YtdahgnalojekdaaDoor.L
open Go.RowKit Go.Proofs.YtdahgnalojekdaaDoorW.PrintWords Go.Proofs.YtdahgnalojekdaaDoorW.PrintLast Go.Proofs.YtdahgnalojekdaaDoorW.PrintMore
set_option linter.unusedVariables false
theorem PureTreeChains (l0 : List (List SOp)) (l1 : List SElem) (l2 : List SOp) (l3 : List Int) (hg : GoodAsk l0 l1 l2 l3) : ∃ k, lectionarylaw5_TreeChains.f k l0 l1 l2 l3 = some true :=
  Ev.rounds (Ev.bind (f := fun _ t => some t) (same_ev after1_ok steps1) (Ev.now _))
end Go.Proofs.YtdahgnalojekdaaDoor.L
end

section
namespace Go.Proofs.YtdahgnalojekdaaDoor.L
open Go.RowKit Go.Proofs.YtdahgnalojekdaaDoorW.PrintWords Go.Proofs.YtdahgnalojekdaaDoorW.PrintLast Go.Proofs.YtdahgnalojekdaaDoorW.PrintMore
set_option linter.unusedVariables false
theorem PureTreeForks (l0 : List (List SOp)) (l1 : List SElem) (l2 : List SOp) (l3 : List Int) (hg : GoodAsk l0 l1 l2 l3) : ∃ k, lectionarylaw5_TreeForks.f k l0 l1 l2 l3 = some true :=
  Ev.rounds (Ev.bind (f := fun _ t => some t) (same_ev (afterK_ok _ 2) (stepsK 2 (by omega) (by omega) hg.n3 hg.n1)) (Ev.now _))
end Go.Proofs.YtdahgnalojekdaaDoor.L
end

section
namespace Go.Proofs.YtdahgnalojekdaaDoor.L
open Go.RowKit Go.Proofs.YtdahgnalojekdaaDoorW.PrintWords Go.Proofs.YtdahgnalojekdaaDoorW.PrintLast Go.Proofs.YtdahgnalojekdaaDoorW.PrintMore
set_option linter.unusedVariables false
theorem PureTreeMixed (l0 : List (List SOp)) (l1 : List SElem) (l2 : List SOp) (l3 : List Int) (hg : GoodAsk l0 l1 l2 l3) : ∃ k, lectionarylaw5_TreeMixed.f k l0 l1 l2 l3 = some true :=
  Ev.rounds (Ev.bind (f := fun _ t => some t) (same_ev (afterK_ok _ 5) (stepsK 5 (by omega) (by omega) hg.n3 hg.n1)) (Ev.now _))
end Go.Proofs.YtdahgnalojekdaaDoor.L
end
