/- Part 9 of the proof that for every argument the laws TreeBegins, TreeChains, TreeForks and TreeMixed answer true: where all is written behind the begin, each into the last one, some behind the same elements, or here and there, the order is the page's, by rows made here; the cards tie the two tables of unicode/utf8 that are laid -/
import Derived.Test.YtdahgnalojekdaaDoorZTO8
import Derived.Test.YtdahgnalojekdaaDoorRows
import Derived.Test.YtdahgnalojekdaaDoorTie
import Derived.Test.YtdahgnalojekdaaDoorCards
import Derived.Lib.LaidIn
import Derived.Lib.LaidU8
import Derived.Deep.DeepHandedRow
import Derived.Deep.DeepWitnessRowRef
import Derived.SevenTiedAt
import Derived.WalkKit
import Derived.ProofKit
import Derived.OpenShut
import Derived.ChangeOld
import Derived.Below
import Derived.SizedLaws
import Derived.JoinedCond
section
namespace Go.Proofs.YtdahgnalojekdaaDoor.L
open Go.RowKit Go.Proofs.YtdahgnalojekdaaDoorW.PrintWords Go.Proofs.YtdahgnalojekdaaDoorW.PrintLast Go.Proofs.YtdahgnalojekdaaDoorW.PrintMore
attribute [local go_sem] max2_int min2_int max_two min_two max_three min_three max_four min_four
set_option linter.unusedVariables false
set_option linter.unusedSimpArgs false
attribute [local go_sem high] eqAElem
mutual
def lectionaryref4_Order.l0 : Nat → List (SOp) → List (SElem) → List (SElem) → Option ((List (SElem)))
 | 0, _, _, _ => none
 | k + 1, x0, x3, x4 => if (x4.length : Int) > 0 then (if 0 ≤ (wrap64 ((x4.length : Int) - 1)) then (if (wrap64 ((x4.length : Int) - 1)) < (x4.length : Int) then (if (wrap64 ((x4.length : Int) - 1)) ≤ (x4.length : Int) then ((some (x4.take ((wrap64 ((x4.length : Int) - 1)) : Int).toNat : List (SElem))).bind fun y359 => ((lectionaryref4_Begin.f ((rd_Elem x4 (wrap64 ((x4.length : Int) - 1))).f0) ((rd_Elem x4 (wrap64 ((x4.length : Int) - 1))).f1) ((rd_Elem x4 (wrap64 ((x4.length : Int) - 1))).f2)).bind fun t362 => (if t362 = true then (lectionaryref4_Order.j1 k x0 x3 y359 ((rd_Elem x4 (wrap64 ((x4.length : Int) - 1))).f0) ((rd_Elem x4 (wrap64 ((x4.length : Int) - 1))).f1) ((rd_Elem x4 (wrap64 ((x4.length : Int) - 1))).f2)) else (if x3.length < 5864062014805 then (lectionaryref4_Order.j1 k x0 (x3 ++ [(⟨(rd_Elem x4 (wrap64 ((x4.length : Int) - 1))).f0, (rd_Elem x4 (wrap64 ((x4.length : Int) - 1))).f1, (rd_Elem x4 (wrap64 ((x4.length : Int) - 1))).f2⟩ : SElem)]) y359 ((rd_Elem x4 (wrap64 ((x4.length : Int) - 1))).f0) ((rd_Elem x4 (wrap64 ((x4.length : Int) - 1))).f1) ((rd_Elem x4 (wrap64 ((x4.length : Int) - 1))).f2)) else (none))))) else (none)) else (none)) else (none)) else (some x3)
def lectionaryref4_Order.j1 : Nat → List (SOp) → List (SElem) → List (SElem) → Int → Int → Int → Option ((List (SElem)))
 | 0, _, _, _, _, _, _ => none
 | k + 1, x0, x3, x4, x359000, x359001, x359002 => (lectionaryref4_Under.f k x0 x359000 x359001 x359002).bind fun t366 => (lectionaryref4_Order.l1 k x0 x3 x4 t366 (wrap64 ((t366.length : Int) - 1)))
def lectionaryref4_Order.l1 : Nat → List (SOp) → List (SElem) → List (SElem) → List (SElem) → Int → Option ((List (SElem)))
 | 0, _, _, _, _, _ => none
 | k + 1, x0, x3, x4, x6, x7 => if x7 ≥ 0 then (if 0 ≤ x7 then (if x7 < (x6.length : Int) then (if x4.length < 5864062014805 then (lectionaryref4_Order.l1 k x0 x3 (x4 ++ [(⟨(rd_Elem x6 x7).f0, (rd_Elem x6 x7).f1, (rd_Elem x6 x7).f2⟩ : SElem)]) x6 (wrap64 (x7 - 1))) else (none)) else (none)) else (none)) else (lectionaryref4_Order.l0 k x0 x3 x4)
end
def lectionaryref4_Order.f (k : Nat) (l0 : List (SOp)) : Option ((List (SElem))) := lectionaryref4_Order.l0 k l0 ([] : List (SElem)) (([(⟨0, 0, 0⟩ : SElem)] : List (SElem)))
set_option maxHeartbeats 8000000 in
set_option maxRecDepth 100000 in
theorem lectionaryref4_Order.calls (k : Nat) (A0 : Option Addr) (c0 : Nat) (l0 : List (SOp)) (r : List (SElem)) (w : World) (hr0 : Kd.C kOp w A0 l0.length l0) (hc0 : l0.length ≤ c0) (hT : GT w) (h : lectionaryref4_Order.f k l0 = some r) :
  Calls Tryd.prog 26 #[.slice A0 l0.length c0] w fun e w' => ∃ v0_ : Value, e = .returned (v0_) ∧ Kd.R kElem 29 w' w.heap.size (fun _ => True) v0_ r ∧ Below w.heap.size w w' := by
 have hu29 := Tryd.underlying29
 have HR0 := Aside0.mk hr0
 have HC0 := Aside0.mk hc0
 clear hr0 hc0
 have HB := Aside0.mk (Below.refl w.heap.size w)
 have H : (lectionaryref4_Order.l0 k l0 ([] : List (SElem)) (([(⟨0, 0, 0⟩ : SElem)] : List (SElem)))) = some r := h
 clear h
 obtain ⟨y354, hy354⟩ : ∃ y_ : List (SElem), y_ = (([(⟨0, 0, 0⟩ : SElem)] : List (SElem))) := ⟨_, rfl⟩
 replace H : (lectionaryref4_Order.l0 k l0 ([] : List (SElem)) y354) = some r := by first | (rw [hy354]; with_reducible exact H) | (have H2_ := (Option.bind_some _ _).symm.trans H; rw [hy354]; with_reducible exact H2_) | (have H2_ := (Option.bind_some _ _).symm.trans H; with_reducible exact H2_) | with_reducible exact H | (rw [hy354]; exact H) | exact H
 have Ny354 := Aside0.mk hy354
 clear hy354
 have H' := Aside0.mk H
 clear H
 go_enter Tryd.func26, Tryd.ntmps26
 go_wp2_with (first | ((with_reducible refine gate_dst (N := 9) rfl ?_); refine Kd.R_lit kElem _ 29 ?hg (N := 9) ?hd (xs := ([(⟨0, 0, 0⟩ : SElem)] : List (SElem))) (inner := [.int .i64 0, .int .i64 0, .int .i64 0]) (ok := fun _ => True) (okp := fun _ => True) ?hr ?hp (fun _ hk => hk) trivial (Below.refl _ _) (Nat.le_refl _) (by simp) ?_; (case hd => rfl); (case hg => rfl); (case hr => first | (go_simp; done) | (go_simp; rfl)); (case hp => exact (Reps.c3 (show Kd.M kElem _ _ _ (⟨0, 0, 0⟩ : SElem) [.int .i64 0, .int .i64 0, .int .i64 0] from (kElem_mkM _ _ _ (⟨0, 0, 0⟩ : SElem) )) (Reps.none _ _))); intro v355 w2 ho3 hb hg_ hnew_; clear hg_ hnew_; (first | rw [← Ny354.out] at ho3 | (simp only [Int.reduceToNat] at ho3; rw [← Ny354.out] at ho3)); have HO356 := Aside0.mk (Kd.R_lower ho3 (below_size (bw HB))); replace HB := bs HB hb; clear hb ho3))
 go_loopg [3, 4] k (fun kq v3 v4 w' => ∃ (x3_1 : List (SElem)) (x4_1 : List (SElem)), Aside0 (lectionaryref4_Order.l0 kq l0 x3_1 x4_1 = some r) ∧ Aside0 (kq ≤ k) ∧ Aside0 (Kd.R kElem 29 w' w.heap.size (fun k_ => some k_ ≠ (v4 : Value).ownBlock) v3 x3_1) ∧ Aside0 (Kd.R kElem 29 w' w.heap.size (fun k_ => some k_ ≠ (v3 : Value).ownBlock) v4 x4_1) ∧ Aside0 (Below w.heap.size w w'))
 case atStart => exact ⟨(([] : List (SElem))), (y354), H', ⟨Nat.le_refl _⟩, ⟨by first | exact Kd.R_nil _ _ _ _ _ | exact Kd.N_nil _ _ _ _ _ | exact Kd.V_nil _ _ _ _ _ | exact Kd.Q_nil _ _ _ _ _ | exact Kd.S_nil _ _ _ _ _⟩, ⟨by (with_reducible repeat (first | apply Kd.R_alloc | apply Kd.R_drewN | apply Kd.R_drew)); exact Kd.R_mono HO356.out (fun _ hk => (by simp [Value.ownBlock]))⟩, ⟨bw HB⟩⟩
 case round =>
  clear H'
  obtain ⟨x3_1, x4_1, HA, HK1, HO_3, HO_4, HB⟩ := hrel
  cases gk with
  | zero => exact absurd HA.out (by simp [lectionaryref4_Order.l0])
  | succ k1 =>
   have H := HA.out
   clear HA
   simp only [lectionaryref4_Order.l0] at H
   by_cases c4 : (x4_1.length : Int) > 0
   ·rw [if_pos c4] at H
    have c4b0 : decide (0 < (x4_1.length : Int)) = true := decide_eq_true c4
    have c4b1 : decide (0 < x4_1.length) = true := decide_eq_true (by omega)
    clear c4
    obtain ⟨ji5, hji5⟩ : ∃ j_ : Int, (wrap64 ((x4_1.length : Int) - 1)) = j_ := ⟨_, rfl⟩
    replace H : (if 0 ≤ (ji5) then (if (ji5) < (x4_1.length : Int) then (if (ji5) ≤ (x4_1.length : Int) then ((some (x4_1.take ((ji5) : Int).toNat : List (SElem))).bind fun y359 => ((lectionaryref4_Begin.f ((rd_Elem x4_1 (ji5)).f0) ((rd_Elem x4_1 (ji5)).f1) ((rd_Elem x4_1 (ji5)).f2)).bind fun t362 => (if t362 = true then (lectionaryref4_Order.j1 k1 l0 x3_1 y359 ((rd_Elem x4_1 (ji5)).f0) ((rd_Elem x4_1 (ji5)).f1) ((rd_Elem x4_1 (ji5)).f2)) else (if x3_1.length < 5864062014805 then (lectionaryref4_Order.j1 k1 l0 (x3_1 ++ [(⟨(rd_Elem x4_1 (ji5)).f0, (rd_Elem x4_1 (ji5)).f1, (rd_Elem x4_1 (ji5)).f2⟩ : SElem)]) y359 ((rd_Elem x4_1 (ji5)).f0) ((rd_Elem x4_1 (ji5)).f1) ((rd_Elem x4_1 (ji5)).f2)) else (none))))) else (none)) else (none)) else (none)) = some r := by first | (rw [hji5] at H; exact H) | (simp only [hji5] at H ⊢; exact H)
    have hji5w : (IntKind.i64.wrap ((x4_1.length : Int) - 1)) = ji5 := (i64_w _).trans hji5
    by_cases c6 : 0 ≤ (ji5)
    ·rw [if_pos c6] at H
     have c6b0 : decide (0 ≤ (ji5)) = true := decide_eq_true c6
     clear c6
     by_cases c7 : (ji5) < (x4_1.length : Int)
     ·rw [if_pos c7] at H
      have c7b0 : decide ((ji5) < (x4_1.length : Int)) = true := decide_eq_true c7
      clear c7
      by_cases c8 : (ji5) ≤ (x4_1.length : Int)
      ·rw [if_pos c8] at H
       have c8b0 := eq_true c8
       have c8b1 : decide ((ji5) ≤ (x4_1.length : Int)) = true := decide_eq_true c8
       clear c8
       obtain ⟨y359, hy359⟩ : ∃ y_ : List (SElem), y_ = (x4_1.take ((ji5) : Int).toNat) := ⟨_, rfl⟩
       replace H : ((lectionaryref4_Begin.f ((rd_Elem x4_1 (ji5)).f0) ((rd_Elem x4_1 (ji5)).f1) ((rd_Elem x4_1 (ji5)).f2)).bind fun t362 => (if t362 = true then (lectionaryref4_Order.j1 k1 l0 x3_1 y359 ((rd_Elem x4_1 (ji5)).f0) ((rd_Elem x4_1 (ji5)).f1) ((rd_Elem x4_1 (ji5)).f2)) else (if x3_1.length < 5864062014805 then (lectionaryref4_Order.j1 k1 l0 (x3_1 ++ [(⟨(rd_Elem x4_1 (ji5)).f0, (rd_Elem x4_1 (ji5)).f1, (rd_Elem x4_1 (ji5)).f2⟩ : SElem)]) y359 ((rd_Elem x4_1 (ji5)).f0) ((rd_Elem x4_1 (ji5)).f1) ((rd_Elem x4_1 (ji5)).f2)) else (none)))) = some r := by first | (rw [hy359]; with_reducible exact H) | (have H2_ := (Option.bind_some _ _).symm.trans H; rw [hy359]; with_reducible exact H2_) | (have H2_ := (Option.bind_some _ _).symm.trans H; with_reducible exact H2_) | with_reducible exact H | (rw [hy359]; exact H) | exact H
       have Ny359 := Aside0.mk hy359
       clear hy359
       replace H := Option.bind_eq_some_iff.mp H
       obtain ⟨t362, A90, H⟩ := H
       replace H : (if t362 = true then (lectionaryref4_Order.j1 k1 l0 x3_1 y359 ((rd_Elem x4_1 (ji5)).f0) ((rd_Elem x4_1 (ji5)).f1) ((rd_Elem x4_1 (ji5)).f2)) else (if x3_1.length < 5864062014805 then (lectionaryref4_Order.j1 k1 l0 (x3_1 ++ [(⟨(rd_Elem x4_1 (ji5)).f0, (rd_Elem x4_1 (ji5)).f1, (rd_Elem x4_1 (ji5)).f2⟩ : SElem)]) y359 ((rd_Elem x4_1 (ji5)).f0) ((rd_Elem x4_1 (ji5)).f1) ((rd_Elem x4_1 (ji5)).f2)) else (none))) = some r := H
       have A9 := Aside0.mk A90
       clear A90
       have HC10 := Aside0.mk H
       clear H
       obtain ⟨Ao11, co11, eo11⟩ := Kd.R_slice HO_4.out
       subst eo11
       have p357 : 0 ≤ ((ji5) : Int) := of_decide_eq_true (by first | (with_reducible assumption) | assumption)
       have q357 : (ji5) < (x4_1.length : Int) := of_decide_eq_true (by first | (with_reducible assumption) | assumption)
       obtain ⟨ad357, e357, hx357_0, hx357_1, hx357_2⟩ := at_Elem (Kd.R_reads' HO_4.out).2.2 (ji5) p357 q357
       cases e357
       replace p357 := eq_true p357
       replace q357 := eq_true q357
       go_upto_if 26 with (first | ((with_reducible refine gate_dst (N := 5) rfl ?_); refine bx 5 #[.int .i64 0, .int .i64 0, .int .i64 0] 29 (h := ?_); intro gb358 hg w12 hbox hb; have BK358 := Aside0.mk (hbox); have GW358 := bz HB hg; have GE358 := bz HB hg; replace HO_3 := Aside0.mk (Kd.R_below (Kd.R_elderB (by (with_reducible repeat (first | apply Kd.R_alloc | apply Kd.R_drewN | apply Kd.R_drew)); exact HO_3.out) gb358 (Nat.le_of_eq hg.symm)) hb); replace HO_4 := Aside0.mk (Kd.R_below (Kd.R_elderB (by (with_reducible repeat (first | apply Kd.R_alloc | apply Kd.R_drewN | apply Kd.R_drew)); exact HO_4.out) gb358 (Nat.le_of_eq hg.symm)) hb); replace HB := bs HB hb; clear hb hbox hg; obtain ⟨hcz13_0, hcz13_1, hcz13_2, hfz13_0, hfz13_1, hfz13_2⟩ := kc3 BK358) | ((with_reducible refine gate_store (t := 29) (p := 5) rfl ?_); refine store_event (t := 29) (p := 5) (v := ?vo_w14) (w1 := (((w12.setCell ⟨gb358, 0, none⟩ (.int .i64 ((rd_Elem x4_1 (ji5)).f0))).setCell ⟨gb358, 1, none⟩ (.int .i64 ((rd_Elem x4_1 (ji5)).f1))).setCell ⟨gb358, 2, none⟩ (.int .i64 ((rd_Elem x4_1 (ji5)).f2)))) ?hg ?ho ?hn ?hr ?_; (case ho => rfl); (case hg => rfl); (case hn => rfl); (case hr => first | (go_simp; done) | (go_simp; rfl)); intro w14 hw; have n0_ : Aside0 (Kd.R kElem 29 w14 w.heap.size (fun k_ => some k_ ≠ (.slice (some ad357) x4_1.length co11 : Value).ownBlock ∧ k_ ≠ gb358) u3 x3_1) := ⟨(by rw [hw]; exact (by (with_reducible repeat (first | apply Kd.R_alloc | apply Kd.R_drewN | apply Kd.R_drew)); exact Kd.R_mono (Kd.R_far (p := ⟨gb358, 2, none⟩) (Kd.R_far (p := ⟨gb358, 1, none⟩) (Kd.R_far (p := ⟨gb358, 0, none⟩) (Kd.R_mono HO_3.out (fun k_ hk => (⟨hk, hk.2⟩ : _ ∧ k_ ≠ gb358))) (fun _ hk => hk.2) (.int .i64 ((rd_Elem x4_1 (ji5)).f0))) (fun _ hk => hk.2) (.int .i64 ((rd_Elem x4_1 (ji5)).f1))) (fun _ hk => hk.2) (.int .i64 ((rd_Elem x4_1 (ji5)).f2))) (fun _ hk => ⟨hk.1.1, hk.1.2⟩)))⟩; have n1_ : Aside0 (Kd.R kElem 29 w14 w.heap.size (fun k_ => some k_ ≠ (u3 : Value).ownBlock ∧ k_ ≠ gb358) (.slice (some ad357) x4_1.length co11) x4_1) := ⟨(by rw [hw]; exact (by (with_reducible repeat (first | apply Kd.R_alloc | apply Kd.R_drewN | apply Kd.R_drew)); exact Kd.R_mono (Kd.R_far (p := ⟨gb358, 2, none⟩) (Kd.R_far (p := ⟨gb358, 1, none⟩) (Kd.R_far (p := ⟨gb358, 0, none⟩) (Kd.R_mono HO_4.out (fun k_ hk => (⟨hk, hk.2⟩ : _ ∧ k_ ≠ gb358))) (fun _ hk => hk.2) (.int .i64 ((rd_Elem x4_1 (ji5)).f0))) (fun _ hk => hk.2) (.int .i64 ((rd_Elem x4_1 (ji5)).f1))) (fun _ hk => hk.2) (.int .i64 ((rd_Elem x4_1 (ji5)).f2))) (fun _ hk => ⟨hk.1.1, hk.1.2⟩)))⟩; have n2_ : Aside0 (w14.heap[gb358]? = some (.cells #[.int .i64 ((rd_Elem x4_1 (ji5)).f0), .int .i64 ((rd_Elem x4_1 (ji5)).f1), .int .i64 ((rd_Elem x4_1 (ji5)).f2)] 29 (0, 0))) := ⟨(by rw [hw]; exact (bp (bp (bp (kk BK358) 0) 1) 2))⟩; have n3_ : Aside0 (Below w.heap.size w w14) := ⟨(by rw [hw]; exact (bw HB))⟩; clear hw; clear HO_3; clear HO_4; clear BK358; clear HB; have HO_3 := n0_; have HO_4 := n1_; have BK358 := n2_; have HB := n3_; clear n0_ n1_ n2_ n3_; have q15 : ((ji5) : Int) ≤ ((x4_1.length : Int) : Int) := of_decide_eq_true (by first | (with_reducible assumption) | assumption); obtain ⟨i015, hi015, _, hsz15, _⟩ := info_parts info29; have hcut15 := cut_to (P := Tryd.prog) 23 29 .i64 Tryd.underlying23 hi015 (some ad357) x4_1.length co11 (ji5) (of_decide_eq_true (by first | (with_reducible assumption) | assumption)) q15 (Kd.R_reads' HO_4.out).2.1; have hr15 := Kd.R_take (m := ((ji5) : Int).toNat) HO_4.out (by omega); have hy15 : y359.length = ((ji5) : Int).toNat := (by rw [Ny359.out, List.length_take]; omega); rw [← Ny359.out] at hr15; rw [← hy15] at hr15 hcut15; clear hy15 hi015 hsz15 HO_4; have HO361 := Aside0.mk hr15; clear hr15; replace q15 := eq_true q15; obtain ⟨hcz16_0, hcz16_1, hcz16_2, hfz16_0, hfz16_1, hfz16_2⟩ := kc3 BK358) | ((with_reducible refine gate_callee (f := 77) rfl ?_); refine goesL_ (some 25) rfl rfl Tryd.func77 (by kernel_rfl) rfl #[.agg #[.int .i64 ((rd_Elem x4_1 (ji5)).f0), .int .i64 ((rd_Elem x4_1 (ji5)).f1), .int .i64 ((rd_Elem x4_1 (ji5)).f2)]] rfl (by (try simp only [List.map_toArray, List.map_cons, List.map_nil]); first | done | (simp only [hji5]; rfl) | rfl | (simp only [List.length_drop, List.length_take]; rfl)) ?_; (with_reducible refine (lectionaryref4_Begin.calls ((rd_Elem x4_1 (ji5)).f0) ((rd_Elem x4_1 (ji5)).f1) ((rd_Elem x4_1 (ji5)).f2) t362 _ A9.out).mono ?_); rintro e w17 ⟨rfl, hb⟩; refine ⟨_, rfl, ?_⟩; replace HO_3 := Aside0.mk (Kd.R_below (by (with_reducible repeat (first | apply Kd.R_alloc | apply Kd.R_drewN | apply Kd.R_drew)); exact HO_3.out) hb); replace HO361 := Aside0.mk (Kd.R_below (by (with_reducible repeat (first | apply Kd.R_alloc | apply Kd.R_drewN | apply Kd.R_drew)); exact HO361.out) hb); replace BK358 := bl BK358 hb; replace HB := bs HB hb; (try clear hb); (try clear hb2); (try clear hk); (try clear hi)))
       (try simp only [Act.put, List.setIfInBounds_toArray, List.set_cons_zero, List.set_cons_succ])
       go_cut [3] (fun v3 wc => ∃ (kq : Nat) (x3_9 : List (SElem)), Aside0 (lectionaryref4_Order.j1 kq l0 x3_9 y359 ((rd_Elem x4_1 (ji5)).f0) ((rd_Elem x4_1 (ji5)).f1) ((rd_Elem x4_1 (ji5)).f2) = some r) ∧ Aside0 (kq ≤ k1) ∧ Aside0 (Kd.R kElem 29 wc w.heap.size (fun k_ => some k_ ≠ ((.slice (some ad357) y359.length co11) : Value).ownBlock ∧ k_ ≠ gb358) v3 x3_9) ∧ Aside0 (Kd.R kElem 29 wc w.heap.size (fun k_ => some k_ ≠ (v3 : Value).ownBlock ∧ k_ ≠ gb358) (.slice (some ad357) y359.length co11) y359) ∧ Aside0 (wc.heap[gb358]? = some (.cells #[.int .i64 ((rd_Elem x4_1 (ji5)).f0), .int .i64 ((rd_Elem x4_1 (ji5)).f1), .int .i64 ((rd_Elem x4_1 (ji5)).f2)] 29 (0, 0))) ∧ Aside0 (Below w.heap.size w wc))
       case first =>
        have H := HC10.out
        clear HC10
        by_cases c18 : t362 = true
        ·subst c18
         have H1 : (lectionaryref4_Order.j1 k1 l0 x3_1 y359 ((rd_Elem x4_1 (ji5)).f0) ((rd_Elem x4_1 (ji5)).f1) ((rd_Elem x4_1 (ji5)).f2)) = some r := by rw [if_pos rfl] at H; exact H
         clear H
         have H := H1
         clear H1
         have H' := Aside0.mk H
         clear H
         go_wp2
         go_meet
         case rel => exact ⟨_, (x3_1), H', ⟨by have := HK1.out; first | omega | exact Nat.le_refl _⟩, ⟨by (with_reducible repeat (first | apply Kd.R_alloc | apply Kd.R_drewN | apply Kd.R_drew)); exact HO_3.out⟩, ⟨by (with_reducible repeat (first | apply Kd.R_alloc | apply Kd.R_drewN | apply Kd.R_drew)); exact HO361.out⟩, ⟨kk BK358⟩, ⟨bw HB⟩⟩
        replace c18 := Bool.eq_false_iff.mpr c18
        subst c18
        have H1 : (if x3_1.length < 5864062014805 then (lectionaryref4_Order.j1 k1 l0 (x3_1 ++ [(⟨(rd_Elem x4_1 (ji5)).f0, (rd_Elem x4_1 (ji5)).f1, (rd_Elem x4_1 (ji5)).f2⟩ : SElem)]) y359 ((rd_Elem x4_1 (ji5)).f0) ((rd_Elem x4_1 (ji5)).f1) ((rd_Elem x4_1 (ji5)).f2)) else (none)) = some r := by rw [if_neg (show ¬ (false = true) by decide)] at H; exact H
        clear H
        have H := H1
        clear H1
        by_cases c19 : x3_1.length < 5864062014805
        ·rw [if_pos c19] at H
         have LMc19 := Aside0.mk c19
         clear c19
         obtain ⟨y363, hy363⟩ : ∃ y_ : List (SElem), y_ = (x3_1 ++ [(⟨(rd_Elem x4_1 (ji5)).f0, (rd_Elem x4_1 (ji5)).f1, (rd_Elem x4_1 (ji5)).f2⟩ : SElem)]) := ⟨_, rfl⟩
         replace H : (lectionaryref4_Order.j1 k1 l0 y363 y359 ((rd_Elem x4_1 (ji5)).f0) ((rd_Elem x4_1 (ji5)).f1) ((rd_Elem x4_1 (ji5)).f2)) = some r := by first | (rw [hy363]; with_reducible exact H) | (have H2_ := (Option.bind_some _ _).symm.trans H; rw [hy363]; with_reducible exact H2_) | (have H2_ := (Option.bind_some _ _).symm.trans H; with_reducible exact H2_) | with_reducible exact H | (rw [hy363]; exact H) | exact H
         have Ny363 := Aside0.mk hy363
         clear hy363
         have H' := Aside0.mk H
         clear H
         obtain ⟨hcz20_0, hcz20_1, hcz20_2, hfz20_0, hfz20_1, hfz20_2⟩ := kc3 BK358
         go_wp2_with (first | ((with_reducible refine gate_builtin (b := .append) (xs := #[.tmp 27, .tmp 29]) rfl ?_); at_builtin; refine Kd.R_append kElem (w0 := w) w.heap.size rfl (.tmp 27) (.tmp 29) 23 29 (.agg #[(.int .i64 0), (.int .i64 0), (.int .i64 0)]) 24 rfl Tryd.underlying23 info29 rfl (by decide) (by omega) u3 x3_1 (⟨(rd_Elem x4_1 (ji5)).f0, (rd_Elem x4_1 (ji5)).f1, (rd_Elem x4_1 (ji5)).f2⟩ : SElem) [.int .i64 ((rd_Elem x4_1 (ji5)).f0), .int .i64 ((rd_Elem x4_1 (ji5)).f1), .int .i64 ((rd_Elem x4_1 (ji5)).f2)] (fun k_ => some k_ ≠ (.slice (some ad357) y359.length co11 : Value).ownBlock ∧ k_ ≠ gb358) (fun _ => False) rfl rfl ?aP (fun _ hk => hk.elim) ?aF ?aO ?aB ?aS ?aL ?_; (case aP => exact kElem_mkM _ _ _ (⟨(rd_Elem x4_1 (ji5)).f0, (rd_Elem x4_1 (ji5)).f1, (rd_Elem x4_1 (ji5)).f2⟩ : SElem)); (case aB => exact (bw HB)); (case aF => exact (fun k_ hk => ⟨Kd.fresh' (Kd.R_lt (by (with_reducible repeat (first | apply Kd.R_alloc | apply Kd.R_drewN | apply Kd.R_drew)); exact HO361.out)) k_ hk, Kd.freshB (kk BK358) k_ hk⟩)); (case aO => exact (by (with_reducible repeat (first | apply Kd.R_alloc | apply Kd.R_drewN | apply Kd.R_drew)); exact HO_3.out)); (case aS => exact (below_size (bw HB))); (case aL => have := LMc19.out; omega); intro v364 w21 ho hb hg hat; rw [← Ny363.out] at ho; have n0_ := Aside0.mk (Kd.R_after (ok := (fun k_ => k_ ≠ gb358)) (by (with_reducible repeat (first | apply Kd.R_alloc | apply Kd.R_drewN | apply Kd.R_drew)); exact Kd.R_mono HO361.out (fun _ hk => ⟨hk.2, hk.1⟩)) hg hat); have n1_ := Aside0.mk (blk_grown (kk BK358) hg (Kd.R_away HO_3.out (fun _ hk => hk.2))); have n2_ := Aside0.mk (hb); have n3_ := Aside0.mk (ho); clear HO361; clear BK358; clear HB; clear HO_3; have HO361 := n0_; have BK358 := n1_; have HB := n2_; have HO365 := n3_; clear n0_ n1_ n2_ n3_; clear ho hb hg hat))
         go_meet
         case rel => exact ⟨_, (y363), H', ⟨by have := HK1.out; first | omega | exact Nat.le_refl _⟩, ⟨by (with_reducible repeat (first | apply Kd.R_alloc | apply Kd.R_drewN | apply Kd.R_drew)); exact HO365.out⟩, ⟨by (with_reducible repeat (first | apply Kd.R_alloc | apply Kd.R_drewN | apply Kd.R_drew)); exact Kd.R_mono HO361.out (fun _ hk => ⟨hk.2, hk.1⟩)⟩, ⟨kk BK358⟩, ⟨bw HB⟩⟩
        rw [if_neg c19] at H
        exact absurd H (by simp)
       case rest =>
        clear HC10
        try clear c4b0; try clear c4b1; try clear c6b0; try clear c7b0; try clear c8b0; try clear c8b1; try clear q15; try clear hcz13_0; try clear hcz13_1; try clear hcz13_2; try clear hcz16_0; try clear hcz16_1; try clear hcz16_2; try clear hfz13_0; try clear hfz13_1; try clear hfz13_2; try clear hfz16_0; try clear hfz16_1; try clear hfz16_2; try clear hx357_0; try clear hx357_1; try clear hx357_2; try clear p357; try clear q15; try clear q357
        obtain ⟨kq, x3_9, HA, HJ9, HO_3, HO_4, BK358, HB⟩ := hcut
        cases kq with
        | zero => exact absurd HA.out (by simp [lectionaryref4_Order.j1])
        | succ kj9 =>
         have H := HA.out
         clear HA
         simp only [lectionaryref4_Order.j1] at H
         replace H := Option.bind_eq_some_iff.mp H
         obtain ⟨t366, A220, H⟩ := H
         replace H : (lectionaryref4_Order.l1 kj9 l0 x3_9 y359 t366 (wrap64 ((t366.length : Int) - 1))) = some r := H
         have A22 := Aside0.mk A220
         clear A220
         have H' := Aside0.mk H
         clear H
         obtain ⟨hcz23_0, hcz23_1, hcz23_2, hfz23_0, hfz23_1, hfz23_2⟩ := kc3 BK358
         go_wp2_with (first | ((with_reducible refine gate_callee (f := 33) rfl ?_); refine goesL_ (some 33) rfl rfl Tryd.func33 (by kernel_rfl) rfl #[.slice A0 l0.length c0, .agg #[.int .i64 ((rd_Elem x4_1 (ji5)).f0), .int .i64 ((rd_Elem x4_1 (ji5)).f1), .int .i64 ((rd_Elem x4_1 (ji5)).f2)]] rfl (by (try simp only [List.map_toArray, List.map_cons, List.map_nil]); first | done | (simp only [hji5]; rfl) | rfl | (simp only [List.length_drop, List.length_take]; rfl)) ?_; (with_reducible refine (lectionaryref4_Under.calls kj9 _ _ l0 ((rd_Elem x4_1 (ji5)).f0) ((rd_Elem x4_1 (ji5)).f1) ((rd_Elem x4_1 (ji5)).f2) t366 _ ?side1 ?side2 ?side3 A22.out).mono ?_); (case side1 => repeat (first | exact (Kd.C_below HR0.out HB.out) | (with_reducible refine Kd.C_alloc ?_ _) | (with_reducible refine Kd.C_drewN ?_ _) | (with_reducible refine Kd.C_drew ?_))); (case side2 => exact HC0.out); (case side3 => exact (hT.below (bw HB))); rintro e w24 ⟨v367, rfl, ho0, hb⟩; refine ⟨_, rfl, ?_⟩; have HO368 := Aside0.mk (Kd.R_lower (Kd.R_newB (Kd.R_new' (Kd.R_new' ho0 (Kd.R_lt (by (with_reducible repeat (first | apply Kd.R_alloc | apply Kd.R_drewN | apply Kd.R_drew)); exact HO_3.out))) (Kd.R_lt (by (with_reducible repeat (first | apply Kd.R_alloc | apply Kd.R_drewN | apply Kd.R_drew)); exact HO_4.out))) (kk BK358)) (below_size (bw HB))); replace HO_3 := Aside0.mk (Kd.R_elder' (by (with_reducible repeat (first | apply Kd.R_alloc | apply Kd.R_drewN | apply Kd.R_drew)); exact HO_3.out) (Kd.R_base ho0) hb); replace HO_4 := Aside0.mk (Kd.R_elder' (by (with_reducible repeat (first | apply Kd.R_alloc | apply Kd.R_drewN | apply Kd.R_drew)); exact HO_4.out) (Kd.R_base ho0) hb); replace BK358 := bl BK358 hb; replace HB := bs HB hb; (try clear hb); (try clear hb2); (try clear hk); (try clear hi); (try clear ho0); obtain ⟨Ao25, co25, eo25⟩ := Kd.R_slice HO368.out; subst eo25))
         go_loopg [4, 7] kj9 (fun kq v4 v7 w' => ∃ (x4_3 : List (SElem)) (x7_3 : Int), v7 = .int .i64 x7_3 ∧ Aside0 (lectionaryref4_Order.l1 kq l0 x3_9 x4_3 t366 x7_3 = some r) ∧ Aside0 (kq ≤ kj9) ∧ Aside0 (Kd.R kElem 29 w' w.heap.size (fun k_ => some k_ ≠ (v4 : Value).ownBlock ∧ some k_ ≠ ((.slice Ao25 t366.length co25) : Value).ownBlock ∧ k_ ≠ gb358) u3 x3_9) ∧ Aside0 (Kd.R kElem 29 w' w.heap.size (fun k_ => some k_ ≠ (u3 : Value).ownBlock ∧ some k_ ≠ ((.slice Ao25 t366.length co25) : Value).ownBlock ∧ k_ ≠ gb358) v4 x4_3) ∧ Aside0 (Kd.R kElem 29 w' w.heap.size (fun k_ => some k_ ≠ (u3 : Value).ownBlock ∧ some k_ ≠ (v4 : Value).ownBlock ∧ k_ ≠ gb358) (.slice Ao25 t366.length co25) t366) ∧ Aside0 (w'.heap[gb358]? = some (.cells #[.int .i64 ((rd_Elem x4_1 (ji5)).f0), .int .i64 ((rd_Elem x4_1 (ji5)).f1), .int .i64 ((rd_Elem x4_1 (ji5)).f2)] 29 (0, 0))) ∧ Aside0 (Below w.heap.size w w'))
         case atStart => exact ⟨(y359), (wrap64 ((t366.length : Int) - 1)), rf, H', ⟨Nat.le_refl _⟩, ⟨by (with_reducible repeat (first | apply Kd.R_alloc | apply Kd.R_drewN | apply Kd.R_drew)); exact Kd.R_mono HO_3.out (fun _ hk => ⟨hk.1.1, ⟨hk.2, hk.1.2⟩⟩)⟩, ⟨by (with_reducible repeat (first | apply Kd.R_alloc | apply Kd.R_drewN | apply Kd.R_drew)); exact Kd.R_mono HO_4.out (fun _ hk => ⟨hk.1.1, ⟨hk.2, hk.1.2⟩⟩)⟩, ⟨by (with_reducible repeat (first | apply Kd.R_alloc | apply Kd.R_drewN | apply Kd.R_drew)); exact Kd.R_mono HO368.out (fun _ hk => ⟨hk.1.1.2, ⟨hk.1.2, hk.2⟩⟩)⟩, ⟨kk BK358⟩, ⟨bw HB⟩⟩
         case round =>
          clear H'
          try clear hcz23_0; try clear hcz23_1; try clear hcz23_2; try clear hfz23_0; try clear hfz23_1; try clear hfz23_2
          obtain ⟨x4_3, x7_3, rfl, HA, HK3, HO_3, HO_4, HO_6, BK358, HB⟩ := hrel
          cases gk with
          | zero => exact absurd HA.out (by simp [lectionaryref4_Order.l1])
          | succ k3 =>
           have H := HA.out
           clear HA
           simp only [lectionaryref4_Order.l1] at H
           by_cases c26 : x7_3 ≥ 0
           ·rw [if_pos c26] at H
            have c26b0 : decide (0 ≤ x7_3) = true := decide_eq_true c26
            clear c26
            by_cases c27 : 0 ≤ x7_3
            ·rw [if_pos c27] at H
             have c27b0 : decide (0 ≤ x7_3) = true := decide_eq_true c27
             clear c27
             by_cases c28 : x7_3 < (t366.length : Int)
             ·rw [if_pos c28] at H
              have c28b0 : decide (x7_3 < (t366.length : Int)) = true := decide_eq_true c28
              clear c28
              by_cases c29 : x4_3.length < 5864062014805
              ·rw [if_pos c29] at H
               have LMc29 := Aside0.mk c29
               clear c29
               obtain ⟨y370, hy370⟩ : ∃ y_ : List (SElem), y_ = (x4_3 ++ [(⟨(rd_Elem t366 x7_3).f0, (rd_Elem t366 x7_3).f1, (rd_Elem t366 x7_3).f2⟩ : SElem)]) := ⟨_, rfl⟩
               replace H : (lectionaryref4_Order.l1 k3 l0 x3_9 y370 t366 (wrap64 (x7_3 - 1))) = some r := by first | (rw [hy370]; with_reducible exact H) | (have H2_ := (Option.bind_some _ _).symm.trans H; rw [hy370]; with_reducible exact H2_) | (have H2_ := (Option.bind_some _ _).symm.trans H; with_reducible exact H2_) | with_reducible exact H | (rw [hy370]; exact H) | exact H
               have Ny370 := Aside0.mk hy370
               clear hy370
               have H' := Aside0.mk H
               clear H
               have p369 : 0 ≤ (x7_3 : Int) := of_decide_eq_true (by first | (with_reducible assumption) | assumption)
               have q369 : x7_3 < (t366.length : Int) := of_decide_eq_true (by first | (with_reducible assumption) | assumption)
               obtain ⟨ad369, e369, hx369_0, hx369_1, hx369_2⟩ := at_Elem (Kd.R_reads' HO_6.out).2.2 x7_3 p369 q369
               cases e369
               replace p369 := eq_true p369
               replace q369 := eq_true q369
               go_wp2_with (first | ((with_reducible refine gate_builtin (b := .append) (xs := #[.tmp 41, .tmp 46]) rfl ?_); at_builtin; refine Kd.R_append kElem (w0 := w) w.heap.size rfl (.tmp 41) (.tmp 46) 23 29 (.agg #[(.int .i64 0), (.int .i64 0), (.int .i64 0)]) 24 rfl Tryd.underlying23 info29 rfl (by decide) (by omega) u4 x4_3 (⟨(rd_Elem t366 x7_3).f0, (rd_Elem t366 x7_3).f1, (rd_Elem t366 x7_3).f2⟩ : SElem) [.int .i64 ((rd_Elem t366 x7_3).f0), .int .i64 ((rd_Elem t366 x7_3).f1), .int .i64 ((rd_Elem t366 x7_3).f2)] (fun k_ => some k_ ≠ (u3 : Value).ownBlock ∧ some k_ ≠ (.slice (some ad369) t366.length co25 : Value).ownBlock ∧ k_ ≠ gb358) (fun _ => False) rfl rfl ?aP (fun _ hk => hk.elim) ?aF ?aO ?aB ?aS ?aL ?_; (case aP => exact kElem_mkM _ _ _ (⟨(rd_Elem t366 x7_3).f0, (rd_Elem t366 x7_3).f1, (rd_Elem t366 x7_3).f2⟩ : SElem)); (case aB => exact (bw HB)); (case aF => exact (fun k_ hk => ⟨Kd.fresh' (Kd.R_lt (by (with_reducible repeat (first | apply Kd.R_alloc | apply Kd.R_drewN | apply Kd.R_drew)); exact HO_3.out)) k_ hk, Kd.fresh' (Kd.R_lt (by (with_reducible repeat (first | apply Kd.R_alloc | apply Kd.R_drewN | apply Kd.R_drew)); exact HO_6.out)) k_ hk, Kd.freshB (kk BK358) k_ hk⟩)); (case aO => exact (by (with_reducible repeat (first | apply Kd.R_alloc | apply Kd.R_drewN | apply Kd.R_drew)); exact HO_4.out)); (case aS => exact (below_size (bw HB))); (case aL => have := LMc29.out; omega); intro v371 w30 ho hb hg hat; rw [← Ny370.out] at ho; have n0_ := Aside0.mk (Kd.R_after (ok := (fun k_ => some k_ ≠ (.slice (some ad369) t366.length co25 : Value).ownBlock ∧ k_ ≠ gb358)) (by (with_reducible repeat (first | apply Kd.R_alloc | apply Kd.R_drewN | apply Kd.R_drew)); exact Kd.R_mono HO_3.out (fun _ hk => ⟨⟨hk.2.1, hk.2.2⟩, hk.1⟩)) hg hat); have n1_ := Aside0.mk (Kd.R_after (ok := (fun k_ => some k_ ≠ (u3 : Value).ownBlock ∧ k_ ≠ gb358)) (by (with_reducible repeat (first | apply Kd.R_alloc | apply Kd.R_drewN | apply Kd.R_drew)); exact Kd.R_mono HO_6.out (fun _ hk => ⟨⟨hk.1, hk.2.2⟩, hk.2.1⟩)) hg hat); have n2_ := Aside0.mk (blk_grown (kk BK358) hg (Kd.R_away HO_4.out (fun _ hk => hk.2.2))); have n3_ := Aside0.mk (hb); have n4_ := Aside0.mk (ho); clear HO_3; clear HO_6; clear BK358; clear HB; clear HO_4; have HO_3 := n0_; have HO_6 := n1_; have BK358 := n2_; have HB := n3_; have HO372 := n4_; clear n0_ n1_ n2_ n3_ n4_; clear ho hb hg hat))
               go_roundg k3
               case measure => have := HK1.out; have := HJ9.out; have := HK3.out; omega
               case rel => exact ⟨(y370), (wrap64 (x7_3 - 1)), rf, H', ⟨by have := HK1.out; have := HJ9.out; have := HK3.out; omega⟩, ⟨by (with_reducible repeat (first | apply Kd.R_alloc | apply Kd.R_drewN | apply Kd.R_drew)); exact Kd.R_mono HO_3.out (fun _ hk => ⟨hk.2, ⟨hk.1.1, hk.1.2⟩⟩)⟩, ⟨by (with_reducible repeat (first | apply Kd.R_alloc | apply Kd.R_drewN | apply Kd.R_drew)); exact HO372.out⟩, ⟨by (with_reducible repeat (first | apply Kd.R_alloc | apply Kd.R_drewN | apply Kd.R_drew)); exact Kd.R_mono HO_6.out (fun _ hk => ⟨hk.1.1, ⟨hk.2, hk.1.2⟩⟩)⟩, ⟨kk BK358⟩, ⟨bw HB⟩⟩
              rw [if_neg c29] at H
              exact absurd H (by simp)
             rw [if_neg c28] at H
             exact absurd H (by simp)
            rw [if_neg c27] at H
            exact absurd H (by simp)
           rw [if_neg c26] at H
           have c26b0 : decide (0 ≤ x7_3) = false := decide_eq_false c26
           clear c26
           have H' := Aside0.mk H
           clear H
           go_wp2
           go_roundg k3
           case measure => have := HK1.out; have := HJ9.out; have := HK3.out; omega
           case rel => exact ⟨(x3_9), (x4_3), H', ⟨by have := HK1.out; have := HJ9.out; have := HK3.out; omega⟩, ⟨by (with_reducible repeat (first | apply Kd.R_alloc | apply Kd.R_drewN | apply Kd.R_drew)); exact Kd.R_mono HO_3.out (fun _ hk => hk.1)⟩, ⟨by (with_reducible repeat (first | apply Kd.R_alloc | apply Kd.R_drewN | apply Kd.R_drew)); exact Kd.R_mono HO_4.out (fun _ hk => hk.1)⟩, ⟨bw HB⟩⟩
      rw [if_neg c8] at H
      exact absurd H (by simp)
     rw [if_neg c7] at H
     exact absurd H (by simp)
    rw [if_neg c6] at H
    exact absurd H (by simp)
   rw [if_neg c4] at H
   have c4b0 : decide (0 < (x4_1.length : Int)) = false := decide_eq_false c4
   have c4b1 : decide (0 < x4_1.length) = false := decide_eq_false (by omega)
   clear c4
   obtain rfl := Option.some.inj H
   obtain ⟨Ao31, co31, eo31⟩ := Kd.R_slice HO_4.out
   subst eo31
   go_wp2
   go_ret
   exact ⟨_, re, by (with_reducible repeat (first | apply Kd.R_alloc | apply Kd.R_drewN | apply Kd.R_drew)); exact Kd.R_mono HO_3.out (fun _ hk => trivial), bw HB⟩
def lectionaryref0_EqElems.l0 : Nat → List (SElem) → List (SElem) → Int → Option (Bool)
 | 0, _, _, _ => none
 | k + 1, x0, x1, x5 => if x5 < (x0.length : Int) then (if 0 ≤ x5 then (if x5 < (x1.length : Int) then (if (!(((rd_Elem x0 x5).f0) == ((rd_Elem x1 x5).f0)) || (!(((rd_Elem x0 x5).f1) == ((rd_Elem x1 x5).f1)) || (!(((rd_Elem x0 x5).f2) == ((rd_Elem x1 x5).f2))))) = true then (some false) else (lectionaryref0_EqElems.l0 k x0 x1 (wrap64 (x5 + 1)))) else (none)) else (none)) else (some true)
def lectionaryref0_EqElems.f (k : Nat) (l0 : List (SElem)) (l1 : List (SElem)) : Option (Bool) := if (l0.length : Int) = (l1.length : Int) then (lectionaryref0_EqElems.l0 k l0 l1 0) else (some false)
set_option maxHeartbeats 8000000 in
set_option maxRecDepth 100000 in
theorem lectionaryref0_EqElems.calls (k : Nat) (A0 : Option Addr) (c0 : Nat) (l0 : List (SElem)) (A1 : Option Addr) (c1 : Nat) (l1 : List (SElem)) (r : Bool) (w : World) (hr0 : Kd.C kElem w A0 l0.length l0) (hc0 : l0.length ≤ c0) (hr1 : Kd.C kElem w A1 l1.length l1) (hc1 : l1.length ≤ c1) (h : lectionaryref0_EqElems.f k l0 l1 = some r) :
  Calls Tryd.prog 27 #[.slice A0 l0.length c0, .slice A1 l1.length c1] w fun e w' => e = .returned (.bool r) ∧ Drawn0 w w' := by
 have hu29 := Tryd.underlying29
 have HR0 := Aside0.mk hr0
 have HC0 := Aside0.mk hc0
 clear hr0 hc0
 have HR1 := Aside0.mk hr1
 have HC1 := Aside0.mk hc1
 clear hr1 hc1
 have H : (if (l0.length : Int) = (l1.length : Int) then (lectionaryref0_EqElems.l0 k l0 l1 0) else (some false)) = some r := h
 clear h
 by_cases c3 : (l0.length : Int) = (l1.length : Int)
 ·rw [if_pos c3] at H
  have c3b0 : ((l0.length : Int) == (l1.length : Int)) = true := beq_iff_eq.mpr c3
  have c3b1 : ((l0.length : Int) != (l1.length : Int)) = false := bne_eq_false_iff_eq.mpr c3
  have c3b2 : (l0.length == l1.length) = true := by first | simpa using c3 | (simp at c3 ⊢; omega)
  clear c3
  have H' := Aside0.mk H
  clear H
  go_enter Tryd.func27, Tryd.ntmps27
  go_wp2
  repeat (go_quiet (fail); try go_wp2)
  go_loopg [5] k (fun kq v5 w' => ∃ (x5_1 : Int), v5 = .int .i64 x5_1 ∧ Aside0 (lectionaryref0_EqElems.l0 kq l0 l1 x5_1 = some r) ∧ Aside0 (kq ≤ k) ∧ Drawn0 w w')
  case atStart => exact ⟨(0), rf, H', ⟨Nat.le_refl _⟩, by repeat (first | exact Drawn0.refl _ | apply Drawn0.step)⟩
  case round =>
   clear H'
   try clear c1; try clear c3b0; try clear c3b1; try clear c3b2
   obtain ⟨x5_1, rfl, HA, HK1, ⟨m1, rfl⟩⟩ := hrel
   cases gk with
   | zero => exact absurd HA.out (by simp [lectionaryref0_EqElems.l0])
   | succ k1 =>
    have H := HA.out
    clear HA
    simp only [lectionaryref0_EqElems.l0] at H
    by_cases c4 : x5_1 < (l0.length : Int)
    ·rw [if_pos c4] at H
     have c4b0 : decide (x5_1 < (l0.length : Int)) = true := decide_eq_true c4
     clear c4
     by_cases c5 : 0 ≤ x5_1
     ·rw [if_pos c5] at H
      have c5b0 : decide (0 ≤ x5_1) = true := decide_eq_true c5
      clear c5
      by_cases c6 : x5_1 < (l1.length : Int)
      ·rw [if_pos c6] at H
       have c6b0 : decide (x5_1 < (l1.length : Int)) = true := decide_eq_true c6
       clear c6
       by_cases c7 : (!(((rd_Elem l0 x5_1).f0) == ((rd_Elem l1 x5_1).f0)) || (!(((rd_Elem l0 x5_1).f1) == ((rd_Elem l1 x5_1).f1)) || (!(((rd_Elem l0 x5_1).f2) == ((rd_Elem l1 x5_1).f2))))) = true
       ·rw [if_pos c7] at H
        have c7b0 : (!(((rd_Elem l0 x5_1).f0) == ((rd_Elem l1 x5_1).f0)) || (!(((rd_Elem l0 x5_1).f1) == ((rd_Elem l1 x5_1).f1)) || (!(((rd_Elem l0 x5_1).f2) == ((rd_Elem l1 x5_1).f2))))) = true := c7
        clear c7
        obtain rfl := Option.some.inj H
        have p373 : 0 ≤ (x5_1 : Int) := of_decide_eq_true (by first | (with_reducible assumption) | assumption)
        have q373 : x5_1 < (l0.length : Int) := of_decide_eq_true (by first | (with_reducible assumption) | assumption)
        obtain ⟨ad373, e373, hx373_0, hx373_1, hx373_2⟩ := at_Elem HR0.out x5_1 p373 q373
        cases e373
        replace p373 := eq_true p373
        replace q373 := eq_true q373
        have p374 : 0 ≤ (x5_1 : Int) := of_decide_eq_true (by first | (with_reducible assumption) | assumption)
        have q374 : x5_1 < (l1.length : Int) := of_decide_eq_true (by first | (with_reducible assumption) | assumption)
        obtain ⟨ad374, e374, hx374_0, hx374_1, hx374_2⟩ := at_Elem HR1.out x5_1 p374 q374
        cases e374
        replace p374 := eq_true p374
        replace q374 := eq_true q374
        go_wp2
        repeat (go_quiet (fail); try go_wp2)
        go_ret
        exact ⟨rf, by repeat (first | exact Drawn0.refl _ | apply Drawn0.step)⟩
       rw [if_neg c7] at H
       have c7b0 : (!(((rd_Elem l0 x5_1).f0) == ((rd_Elem l1 x5_1).f0)) || (!(((rd_Elem l0 x5_1).f1) == ((rd_Elem l1 x5_1).f1)) || (!(((rd_Elem l0 x5_1).f2) == ((rd_Elem l1 x5_1).f2))))) = false := by simpa using c7
       clear c7
       have H' := Aside0.mk H
       clear H
       have p373 : 0 ≤ (x5_1 : Int) := of_decide_eq_true (by first | (with_reducible assumption) | assumption)
       have q373 : x5_1 < (l0.length : Int) := of_decide_eq_true (by first | (with_reducible assumption) | assumption)
       obtain ⟨ad373, e373, hx373_0, hx373_1, hx373_2⟩ := at_Elem HR0.out x5_1 p373 q373
       cases e373
       replace p373 := eq_true p373
       replace q373 := eq_true q373
       have p374 : 0 ≤ (x5_1 : Int) := of_decide_eq_true (by first | (with_reducible assumption) | assumption)
       have q374 : x5_1 < (l1.length : Int) := of_decide_eq_true (by first | (with_reducible assumption) | assumption)
       obtain ⟨ad374, e374, hx374_0, hx374_1, hx374_2⟩ := at_Elem HR1.out x5_1 p374 q374
       cases e374
       replace p374 := eq_true p374
       replace q374 := eq_true q374
       go_wp2
       repeat (go_quiet (fail); try go_wp2)
       go_roundg k1
       case measure => have := HK1.out; omega
       case rel => exact ⟨(wrap64 (x5_1 + 1)), rf, H', ⟨by have := HK1.out; omega⟩, by repeat (first | exact Drawn0.refl _ | apply Drawn0.step)⟩
      rw [if_neg c6] at H
      exact absurd H (by simp)
     rw [if_neg c5] at H
     exact absurd H (by simp)
    rw [if_neg c4] at H
    have c4b0 : decide (x5_1 < (l0.length : Int)) = false := decide_eq_false c4
    clear c4
    obtain rfl := Option.some.inj H
    go_wp2
    repeat (go_quiet (fail); try go_wp2)
    go_ret
    exact ⟨rf, by repeat (first | exact Drawn0.refl _ | apply Drawn0.step)⟩
 rw [if_neg c3] at H
 have c3b0 : ((l0.length : Int) == (l1.length : Int)) = false := beq_eq_false_iff_ne.mpr c3
 have c3b1 : ((l0.length : Int) != (l1.length : Int)) = true := bne_iff_ne.mpr c3
 have c3b2 : (l0.length == l1.length) = false := by first | simpa using c3 | (simp at c3 ⊢; omega)
 obtain rfl := Option.some.inj H
 go_enter Tryd.func27, Tryd.ntmps27
 go_wp2
 repeat (go_quiet (fail); try go_wp2)
 go_ret
 exact ⟨rf, by repeat (first | exact Drawn0.refl _ | apply Drawn0.step)⟩
end Go.Proofs.YtdahgnalojekdaaDoor.L
end

section
namespace Go.Proofs.YtdahgnalojekdaaDoor.L
open Go.RowKit Go.Proofs.YtdahgnalojekdaaDoorW.PrintWords Go.Proofs.YtdahgnalojekdaaDoorW.PrintLast Go.Proofs.YtdahgnalojekdaaDoorW.PrintMore
set_option linter.unusedVariables false
set_option linter.unusedSimpArgs false
structure GoodAsk (l0 : List (List SOp)) (l1 : List SElem) (l2 : List SOp) (l3 : List Int) : Prop where
  n0 : l0.length ≤ 140737488351232
  r0 : ∀ x ∈ l0, x.length ≤ 140737488351232 ∧ ∀ o ∈ x, o.f4.size ≤ 140737488351232 ∧ o.f5.length ≤ 140737488351232
  n1 : l1.length ≤ 140737488351232
  n2 : l2.length ≤ 140737488351232
  r2 : ∀ o ∈ l2, o.f4.size ≤ 140737488351232 ∧ o.f5.length ≤ 140737488351232
  n3 : l3.length ≤ 140737488351232
theorem wrapS {i n : Nat} (h : i < n) (hn : n ≤ 4611686018427387904) : wrap64 ((i : Int) + 1) = ((i + 1 : Nat) : Int) := by
  rw [wrap64_small (by omega) (by omega)]; omega
theorem good_smalls {l : List SOp} (h : l.length ≤ 140737488351232 ∧ ∀ o ∈ l, o.f4.size ≤ 140737488351232 ∧ o.f5.length ≤ 140737488351232) : smalls l = true := by
  unfold smalls SmB
  simp only [Bool.and_eq_true, decide_eq_true_eq, List.all_eq_true]
  exact ⟨by omega, fun o ho => by have := h.2 o ho; omega⟩
theorem tree_May_f {l : List SOp} (h : smalls l = true) : tree_May.f l = some (mayB l) := by unfold tree_May.f; rw [if_pos h]
theorem tree_Order_ok {l : List SOp} (h : smalls l = true) (hr : RowOk l) : tree_Order.f l = some (ordL l, 0) := by
  unfold tree_Order.f
  rw [tree_May_f h, (mayB_iff l).2 hr, Option.bind_some, if_pos rfl, tree_All_f h hr]
  rfl
def idxE (l : List SElem) (e : SElem) : Int := firstAt (fun i => decide (rd_Elem l (i : Int) = e)) l.length l.length 0
theorem eqE_iff (x : SElem) (a b c : Int) : (x.f0 == a && (x.f1 == b && (x.f2 == c))) = decide (x = ⟨a, b, c⟩) := by
  rw [Bool.eq_iff_iff]
  simp only [Bool.and_eq_true, beq_iff_eq, decide_eq_true_eq]
  exact ⟨fun h => SElem.ext3 h.1 h.2.1 h.2.2, fun h => by subst h; exact ⟨rfl, rfl, rfl⟩⟩
theorem idxE_cases (l : List SElem) (e : SElem) : (∃ i, ∃ h : i < l.length, l[i] = e ∧ (∀ j (hj : j < i), l[j]'(by omega) ≠ e) ∧ idxE l e = (i : Int)) ∨ (e ∉ l ∧ idxE l e = -1) := by
  unfold idxE
  rcases firstAt_cases (fun i => decide (rd_Elem l (i : Int) = e)) l.length with ⟨i, h1, h2, h3, h4⟩ | ⟨h1, h2⟩
  · refine .inl ⟨i, h1, ?_, fun j hj => ?_, h4⟩
    · rw [rd_Elem_nat _ _ h1] at h2; simpa using h2
    · have := h3 j hj
      rw [rd_Elem_nat _ _ (by omega)] at this; simpa using this
  · refine .inr ⟨fun hm => ?_, h2⟩
    obtain ⟨i, hi, rfl⟩ := List.getElem_of_mem hm
    have := h1 i hi
    rw [rd_Elem_nat _ _ hi] at this; simp at this
theorem EqElems_loop (a b : List SElem) (hab : a.length = b.length) (hl : a.length ≤ 1000000000) : ∀ d i, i + d = a.length → Ev (fun k => lectionaryref0_EqElems.l0 k a b (i : Int)) (decide (a.drop i = b.drop i))
  | 0, i, h => by
    rw [List.drop_eq_nil_of_le (by omega), List.drop_eq_nil_of_le (by omega)]
    exact Ev.step (f := fun _ => some true) (fun k => by simp only [lectionaryref0_EqElems.l0]; rw [if_neg (by omega)]) (Ev.now _)
  | d + 1, i, h => by
    have ih := EqElems_loop a b hab hl d (i + 1) (by omega)
    have ha : i < a.length := by omega
    have hb : i < b.length := by omega
    rw [List.drop_eq_getElem_cons ha, List.drop_eq_getElem_cons hb]
    have hc : (!(((rd_Elem a (i : Int)).f0) == ((rd_Elem b (i : Int)).f0)) || (!(((rd_Elem a (i : Int)).f1) == ((rd_Elem b (i : Int)).f1)) || (!(((rd_Elem a (i : Int)).f2) == ((rd_Elem b (i : Int)).f2))))) = !decide (a[i] = b[i]) := by
      rw [rd_Elem_nat _ _ ha, rd_Elem_nat _ _ hb]
      have := eqE_iff a[i] b[i].f0 b[i].f1 b[i].f2
      rw [← this]
      cases a[i].f0 == b[i].f0 <;> cases a[i].f1 == b[i].f1 <;> cases a[i].f2 == b[i].f2 <;> rfl
    by_cases he : a[i] = b[i]
    · have : decide (a[i] :: a.drop (i + 1) = b[i] :: b.drop (i + 1)) = decide (a.drop (i + 1) = b.drop (i + 1)) := decide_eq_decide.2 (by rw [List.cons.injEq]; exact ⟨fun h => h.2, fun h => ⟨he, h⟩⟩)
      rw [this]
      refine Ev.step (fun k => ?_) ih
      simp only [lectionaryref0_EqElems.l0, hc]
      rw [if_pos (by omega), if_pos (by omega), if_pos (by omega), if_neg (by simp [he]), wrapS ha (by omega)]
    · have : decide (a[i] :: a.drop (i + 1) = b[i] :: b.drop (i + 1)) = false := decide_eq_false (by rw [List.cons.injEq]; exact fun h => he h.1)
      rw [this]
      refine Ev.step (f := fun _ => some false) (fun k => ?_) (Ev.now _)
      simp only [lectionaryref0_EqElems.l0, hc]
      rw [if_pos (by omega), if_pos (by omega), if_pos (by omega), if_pos (by simp [he])]
theorem EqElems_ev (a b : List SElem) (hl : a.length ≤ 1000000000) : Ev (fun k => lectionaryref0_EqElems.f k a b) (decide (a = b)) := by
  by_cases hab : a.length = b.length
  · have := EqElems_loop a b hab hl a.length 0 (Nat.zero_add _)
    simp only [List.drop_zero] at this
    refine Ev.congr (fun k => ?_) this
    unfold lectionaryref0_EqElems.f
    rw [if_pos (by omega)]
    rfl
  · have : decide (a = b) = false := by simp; rintro rfl; exact hab rfl
    rw [this]
    refine Ev.congr (fun k => ?_) (Ev.now false)
    unfold lectionaryref0_EqElems.f
    rw [if_neg (by omega)]
end Go.Proofs.YtdahgnalojekdaaDoor.L
end

section
namespace Go.Proofs.YtdahgnalojekdaaDoor.L
open Go.RowKit Go.Proofs.YtdahgnalojekdaaDoorW.PrintWords Go.Proofs.YtdahgnalojekdaaDoorW.PrintLast Go.Proofs.YtdahgnalojekdaaDoorW.PrintMore
set_option linter.unusedVariables false
set_option linter.unusedSimpArgs false
theorem bytes1 {n B : Nat} (hB : 1 ≤ B) (h : n * B ≤ reachBytes) : n ≤ 140737488351232 := Nat.le_trans (Nat.le_mul_of_pos_right n hB) h
theorem GoodOp.le {o : SOp} (h : GoodOp o) : o.f4.size ≤ 140737488351232 ∧ o.f5.length ≤ 140737488351232 := ⟨h.1, bytes1 (of_decide_eq_true (by kernel_rfl)) h.2⟩
theorem GoodAsk.of {l0 : List (List SOp)} {l1 : List SElem} {l2 : List SOp} {l3 : List Int}
    (h0 : l0.length * Tryd.prog.bytesOf 24 ≤ reachBytes ∧ ∀ x ∈ l0, x.length * Tryd.prog.bytesOf 31 ≤ reachBytes ∧ ∀ o ∈ x, GoodOp o)
    (h1 : l1.length * Tryd.prog.bytesOf 29 ≤ reachBytes ∧ ∀ x ∈ l1, (Lit.int .i64 x.f0).wf = true ∧ (Lit.int .i64 x.f1).wf = true ∧ (Lit.int .i64 x.f2).wf = true)
    (h2 : l2.length * Tryd.prog.bytesOf 31 ≤ reachBytes ∧ ∀ x ∈ l2, GoodOp x) (h3 : l3.length * Tryd.prog.bytesOf 3 ≤ reachBytes ∧ ∀ x ∈ l3, (Lit.int .i64 x).wf = true) : GoodAsk l0 l1 l2 l3 :=
  ⟨bytes1 (of_decide_eq_true (by kernel_rfl)) h0.1, fun x hx => ⟨bytes1 (of_decide_eq_true (by kernel_rfl)) (h0.2 x hx).1, fun o ho => ((h0.2 x hx).2 o ho).le⟩, bytes1 (of_decide_eq_true (by kernel_rfl)) h1.1, bytes1 (of_decide_eq_true (by kernel_rfl)) h2.1, fun o ho => (h2.2 o ho).le, bytes1 (of_decide_eq_true (by kernel_rfl)) h3.1⟩
theorem agg_of_cells {v : Value} {a b : Value} {l : List Value} (h : v.cells.toList = a :: b :: l) : v = .agg (a :: b :: l).toArray := by
  cases v <;> simp [Value.cells] at h
  rw [← h]
theorem opens_Ask (H : Type) : ∀ (enc : TypeId × Value → H) (W : World) (base : Nat) (sp : Nat → Bool) (held : Bool) (fuel : Nat) (cs : List Value) (x : DataW H × List MemPlace), DataW.trod enc Tryd.prog W base sp held fuel 27 cs = some x → lightW Tryd.prog 27 x.1 →
    ∃ A0 c0 l0 A1 c1 l1 A2 c2 l2 A3 c3 l3, cs = [.slice A0 l0.length c0, .slice A1 l1.length c1, .slice A2 l2.length c2, .slice A3 l3.length c3] ∧ Kd.C (Kd.slice 31 kOp) W A0 l0.length l0 ∧ l0.length ≤ c0 ∧ Kd.C kElem W A1 l1.length l1 ∧ l1.length ≤ c1 ∧ Kd.C kOp W A2 l2.length l2 ∧ l2.length ≤ c2 ∧ Kd.C (Kd.int .i64) W A3 l3.length l3 ∧ l3.length ≤ c3 ∧ GoodAsk l0 l1 l2 l3 := by
  intro enc W base sp held fuel cs x h hl
  have hS := Opens.struct (H := H) Tryd.underlying27 (by kernel_rfl)
    (OpensF.cons (opens_LOps H) (by kernel_rfl) rfl rfl (OpensF.cons (opens_Elems H) (by kernel_rfl) rfl rfl (OpensF.cons (opens_Ops H) (by kernel_rfl) rfl rfl (OpensF.last (opens_Ints H) (by kernel_rfl) rfl rfl))))
  obtain ⟨⟨l0, l1, l2, l3⟩, hp, hg⟩ := hS enc W base sp held fuel cs x h hl
  obtain ⟨_, _, rfl, ⟨A0, c0, rfl, h0, g0⟩, ⟨_, _, rfl, ⟨A1, c1, rfl, h1, g1⟩, ⟨_, _, rfl, ⟨A2, c2, rfl, h2, g2⟩, ⟨A3, c3, rfl, h3, g3⟩⟩⟩⟩ := hp
  exact ⟨A0, c0, l0, A1, c1, l1, A2, c2, l2, A3, c3, l3, rfl, g0, h0, g1, h1, g2, h2, g3, h3, GoodAsk.of hg.1 hg.2.1 hg.2.2.1 hg.2.2.2⟩
end Go.Proofs.YtdahgnalojekdaaDoor.L
end

section
namespace Go.Proofs.YtdahgnalojekdaaDoor.door
open Go.Shelf Go.ChangeShapes Go.WideShapes Go.ChangeAt Go.RowKit Go.Lib Go.Proofs.YtdahgnalojekdaaDoor.L Go.Proofs.YtdahgnalojekdaaDoorW.PrintWords
set_option linter.unusedVariables false
theorem own : ownKnob Tryd.prog.godebug = none := by kernel_rfl
theorem laidOut : laidOutB Tryd.prog = true := by kernel_rfl
abbrev laid2 : List (String × DataW Unit) := [("unicode/utf8.acceptRanges", Rows.laid_unicode_utf8_acceptRanges), ("unicode/utf8.first", Rows.laid_unicode_utf8_first)]
theorem accept_eq : (Rows.laid_unicode_utf8_acceptRanges : DataW Unit) = Lib.acceptData := by kernel_rfl
theorem first_eq : Rows.laid_unicode_utf8_first = Lib.firstData := by kernel_rfl
theorem gt_of {W : World} (hL : laidMetH Tryd.prog laid2 W) : GT W := by
  have h1 := Lib.laidMet.reads hL (.head _)
  have h2 := Lib.laidMet.reads hL (.tail _ (.head _))
  rw [accept_eq] at h1
  rw [first_eq] at h2
  exact utf8Tabs_of_reads Tryd.lays260 ⟨by kernel_rfl, by kernel_rfl, by kernel_rfl, by kernel_rfl, by kernel_rfl, by kernel_rfl, by kernel_rfl⟩ h2 h1
noncomputable def laidWorld (os : Os) : World :=
  let w0 := World.holding Tryd.prog os ⟨#[], #[], []⟩
  let put (h : Array Obj) (g : Nat) (cs : Array Value) : Array Obj := h.modify g fun
    | .cells _ t frozen => .cells cs t frozen
    | o => o
  let h1 := put w0.heap 0 (Lib.firstTab.map fun z => Value.int .u8 z).toArray
  let h2 := put h1 1 ((List.range 16).flatMap fun i => [Value.int .u8 (Lib.accLo i), Value.int .u8 (Lib.accHi i)]).toArray
  { w0 with heap := h2 }
theorem laid_met (os : Os) (args : Array Value) : laidMet Tryd.prog laid2 ((laidWorld os).forCall (fun _ _ => 0) ⟨#[], args, []⟩).memory :=
  (LaidIn.of_run (l := laid2) [1, 0] 8 (by kernel_rfl) (by kernel_rfl) (by kernel_rfl) (by kernel_rfl)).met
end Go.Proofs.YtdahgnalojekdaaDoor.door
end

section
namespace Go.Proofs.YtdahgnalojekdaaDoor.L
open Go.RowKit Go.Proofs.YtdahgnalojekdaaDoorW.PrintWords Go.Proofs.YtdahgnalojekdaaDoorW.PrintLast Go.Proofs.YtdahgnalojekdaaDoorW.PrintMore
attribute [local go_sem] max2_int min2_int max_two min_two max_three min_three max_four min_four
set_option linter.unusedVariables false
set_option linter.unusedSimpArgs false
attribute [local go_sem high] eqAElem
def tree_Written.f (l0 : List (SOp)) (a1_0 : Int) (a1_1 : Int) (a1_2 : Int) : Option (Bool) := (tree_Find.f l0 a1_0 a1_1).bind fun t391 => (if t391 ≥ 0 then (if a1_2 ≥ 0 then (if 0 ≤ t391 then (if t391 < (l0.length : Int) then ((op_Size.f ((rd_Op l0 t391).f0) ((rd_Op l0 t391).f1) ((rd_Op l0 t391).f2) ((rd_Op l0 t391).f3.f0) ((rd_Op l0 t391).f3.f1) ((rd_Op l0 t391).f3.f2) ((rd_Op l0 t391).f4) ((rd_Op l0 t391).f5) ((rd_Op l0 t391).f6) ((rd_Op l0 t391).f7) ((rd_Op l0 t391).f8)).bind fun t393 => (some (decide (a1_2 < t393)))) else (none)) else (none)) else (some false)) else (some false))
def tree_Written.T2 : Bool × List (List Nat × List Nat) := (true, [([], []), ([0], [0]), ([1], [1]), ([2], [2]), ([3, 2], [2, 3]), ([4, 2], [2, 4]), ([2, 5], [2, 5]), ([6, 2], [6]), ([7], [7]), ([8, 7], [7, 8]), ([7], [7]), ([7], [7]), ([10, 11, 7], [7, 10, 11]), ([12, 7], [7, 12]), ([13, 7, 7], [7, 13]), ([9, 14, 7], [7, 9, 14]), ([7, 15], [7, 15]), ([16, 14, 0, 1, 2, 3, 4, 5, 6, 7, 8, 9, 10, 11, 12, 13, 14, 15, 16], [16])])
def tree_Written.B2 : List Nat := [0, 1, 3, 7, 15, 31, 63, 127, 255, 511, 255, 255, 3327, 7423, 15615, 32767, 65535, 131071]
theorem tree_Written.tab2 : rtab .any (opsOf Tryd.f78 2) = tree_Written.T2 := by kernel_rfl
theorem tree_Written.bits2 : waitsOk tree_Written.T2.2 tree_Written.B2 = true := by kernel_rfl
set_option maxHeartbeats 8000000 in
set_option maxRecDepth 100000 in
theorem tree_Written.calls (A0 : Option Addr) (c0 : Nat) (l0 : List (SOp)) (a1_0 : Int) (a1_1 : Int) (a1_2 : Int) (r : Bool) (w : World) (hr0 : Kd.C kOp w A0 l0.length l0) (hc0 : l0.length ≤ c0) (h : tree_Written.f l0 a1_0 a1_1 a1_2 = some r) :
  Calls Tryd.prog 78 #[.slice A0 l0.length c0, .agg #[.int .i64 a1_0, .int .i64 a1_1, .int .i64 a1_2]] w fun e w' => e = .returned (.bool r) ∧ Below w.heap.size w w' := by
 have hu29 := Tryd.underlying29
 have hu31 := Tryd.underlying31
 have HR0 := Aside0.mk hr0
 have HC0 := Aside0.mk hc0
 clear hr0 hc0
 have HB := Aside0.mk (Below.refl w.heap.size w)
 have H : ((tree_Find.f l0 a1_0 a1_1).bind fun t391 => (if t391 ≥ 0 then (if a1_2 ≥ 0 then (if 0 ≤ t391 then (if t391 < (l0.length : Int) then ((op_Size.f ((rd_Op l0 t391).f0) ((rd_Op l0 t391).f1) ((rd_Op l0 t391).f2) ((rd_Op l0 t391).f3.f0) ((rd_Op l0 t391).f3.f1) ((rd_Op l0 t391).f3.f2) ((rd_Op l0 t391).f4) ((rd_Op l0 t391).f5) ((rd_Op l0 t391).f6) ((rd_Op l0 t391).f7) ((rd_Op l0 t391).f8)).bind fun t393 => (some (decide (a1_2 < t393)))) else (none)) else (none)) else (some false)) else (some false))) = some r := h
 clear h
 replace H := Option.bind_eq_some_iff.mp H
 obtain ⟨t391, A30, H⟩ := H
 replace H : (if t391 ≥ 0 then (if a1_2 ≥ 0 then (if 0 ≤ t391 then (if t391 < (l0.length : Int) then ((op_Size.f ((rd_Op l0 t391).f0) ((rd_Op l0 t391).f1) ((rd_Op l0 t391).f2) ((rd_Op l0 t391).f3.f0) ((rd_Op l0 t391).f3.f1) ((rd_Op l0 t391).f3.f2) ((rd_Op l0 t391).f4) ((rd_Op l0 t391).f5) ((rd_Op l0 t391).f6) ((rd_Op l0 t391).f7) ((rd_Op l0 t391).f8)).bind fun t393 => (some (decide (a1_2 < t393)))) else (none)) else (none)) else (some false)) else (some false)) = some r := H
 have A3 := Aside0.mk A30
 clear A30
 by_cases c4 : t391 ≥ 0
 ·rw [if_pos c4] at H
  have c4b0 : decide (0 ≤ t391) = true := decide_eq_true c4
  clear c4
  by_cases c5 : a1_2 ≥ 0
  ·rw [if_pos c5] at H
   have c5b0 : decide (0 ≤ a1_2) = true := decide_eq_true c5
   clear c5
   by_cases c6 : 0 ≤ t391
   ·rw [if_pos c6] at H
    have c6b0 : decide (0 ≤ t391) = true := decide_eq_true c6
    clear c6
    by_cases c7 : t391 < (l0.length : Int)
    ·rw [if_pos c7] at H
     have c7b0 : decide (t391 < (l0.length : Int)) = true := decide_eq_true c7
     clear c7
     replace H := Option.bind_eq_some_iff.mp H
     obtain ⟨t393, A80, H⟩ := H
     replace H : (some (decide (a1_2 < t393))) = some r := H
     have A8 := Aside0.mk A80
     clear A80
     obtain rfl := Option.some.inj H
     go_enter Tryd.func78, Tryd.ntmps78
     try go_wp2_with (first | ((with_reducible refine gate_dst (N := 3) rfl ?_); refine bx 3 #[.int .i64 a1_0, .int .i64 a1_1, .int .i64 a1_2] 29 (h := ?_); intro gb390 hg w9 hbox hb; have BK390 := Aside0.mk (hbox); have GW390 := bz HB hg; have GE390 := bz HB hg; replace HB := bs HB hb; clear hb hbox hg; obtain ⟨hcz10_0, hcz10_1, hcz10_2, hfz10_0, hfz10_1, hfz10_2⟩ := kc3 BK390) | ((with_reducible refine gate_callee (f := 125) rfl ?_); refine gl (some 11) Tryd.func125 #[.slice A0 l0.length c0, .int .i64 a1_0, .int .i64 a1_1] (h := ?_); (with_reducible refine (tree_Find.calls _ _ l0 a1_0 a1_1 t391 _ ?side1 ?side2 A3.out).mono ?_); (case side1 => repeat (first | exact (Kd.C_below HR0.out HB.out) | (with_reducible refine Kd.C_alloc ?_ _) | (with_reducible refine Kd.C_drewN ?_ _) | (with_reducible refine Kd.C_drew ?_))); (case side2 => exact HC0.out); rintro e w11 ⟨rfl, hb⟩; refine ⟨_, rfl, ?_⟩; replace BK390 := bl BK390 hb; replace HB := bs HB hb; (try clear hb); (try clear hb2); (try clear hk); (try clear hi)))
     have n0_ := Aside0.mk (blk_drew BK390.out)
     have n1_ := Aside0.mk (below_drew1 HB.out)
     clear BK390
     clear HB
     have BK390 := n0_
     have HB := n1_
     clear n0_ n1_
     have p392 : 0 ≤ (t391 : Int) := of_decide_eq_true (by first | (with_reducible assumption) | assumption)
     have q392 : t391 < (l0.length : Int) := of_decide_eq_true (by first | (with_reducible assumption) | assumption)
     obtain ⟨ad392, A392_7, c392_7, e392, hx392_0, hx392_1, hx392_2, hx392_3, hx392_4, hx392_5, hx392_6, hx392_7, hx392_8, hx392_9, hx392_10, hl392_7, hi392_7⟩ := at_Op HR0.out t391 p392 q392
     have hw392_10 := hx392_10
     have hw392_9 := hx392_9
     have hw392_8 := hx392_8
     have hw392_7 := hx392_7
     have hw392_6 := hx392_6
     have hw392_5 := hx392_5
     have hw392_4 := hx392_4
     have hw392_3 := hx392_3
     have hw392_2 := hx392_2
     have hw392_1 := hx392_1
     have hw392_0 := hx392_0
     cases e392
     replace hx392_0 := cl HB hx392_0
     replace hx392_1 := cl HB hx392_1
     replace hx392_2 := cl HB hx392_2
     replace hx392_3 := cl HB hx392_3
     replace hx392_4 := cl HB hx392_4
     replace hx392_5 := cl HB hx392_5
     replace hx392_6 := cl HB hx392_6
     replace hx392_7 := cl HB hx392_7
     replace hx392_8 := cl HB hx392_8
     replace hx392_9 := cl HB hx392_9
     replace hx392_10 := cl HB hx392_10
     have HR392_7 := Aside0.mk hi392_7
     have HC392_7 := Aside0.mk hl392_7
     clear hi392_7 hl392_7
     replace p392 := eq_true p392
     replace q392 := eq_true q392
     refine stP (fun w' => B3 w' gb390 (.int .i64 a1_0) (.int .i64 a1_1) (.int .i64 a1_2) (w'.cell? (ad392.add ((t391).toNat * 11)) = some (.int .i64 ((rd_Op l0 t391).f0)) ∧ w'.cell? ⟨(ad392.add ((t391).toNat * 11)).block, (ad392.add ((t391).toNat * 11)).off + 1, none⟩ = some (.int .i64 ((rd_Op l0 t391).f1)) ∧ w'.cell? ⟨(ad392.add ((t391).toNat * 11)).block, (ad392.add ((t391).toNat * 11)).off + 2, none⟩ = some (.int .i64 ((rd_Op l0 t391).f2)) ∧ w'.cell? ⟨(ad392.add ((t391).toNat * 11)).block, (ad392.add ((t391).toNat * 11)).off + 3, none⟩ = some (.int .i64 ((rd_Op l0 t391).f3.f0)) ∧ w'.cell? ⟨(ad392.add ((t391).toNat * 11)).block, (ad392.add ((t391).toNat * 11)).off + 4, none⟩ = some (.int .i64 ((rd_Op l0 t391).f3.f1)) ∧ w'.cell? ⟨(ad392.add ((t391).toNat * 11)).block, (ad392.add ((t391).toNat * 11)).off + 5, none⟩ = some (.int .i64 ((rd_Op l0 t391).f3.f2)) ∧ w'.cell? ⟨(ad392.add ((t391).toNat * 11)).block, (ad392.add ((t391).toNat * 11)).off + 6, none⟩ = some (.string ((rd_Op l0 t391).f4)) ∧ w'.cell? ⟨(ad392.add ((t391).toNat * 11)).block, (ad392.add ((t391).toNat * 11)).off + 7, none⟩ = some (.slice A392_7 ((rd_Op l0 t391).f5).length c392_7) ∧ w'.cell? ⟨(ad392.add ((t391).toNat * 11)).block, (ad392.add ((t391).toNat * 11)).off + 8, none⟩ = some (.int .i64 ((rd_Op l0 t391).f6)) ∧ w'.cell? ⟨(ad392.add ((t391).toNat * 11)).block, (ad392.add ((t391).toNat * 11)).off + 9, none⟩ = some (.int .i64 ((rd_Op l0 t391).f7)) ∧ w'.cell? ⟨(ad392.add ((t391).toNat * 11)).block, (ad392.add ((t391).toNat * 11)).off + 10, none⟩ = some (.int .i64 ((rd_Op l0 t391).f8)))) 18 (b3 BK390 ⟨(cl HB hw392_0), (cl HB hw392_1), (cl HB hw392_2), (cl HB hw392_3), (cl HB hw392_4), (cl HB hw392_5), (cl HB hw392_6), (cl HB hw392_7), (cl HB hw392_8), (cl HB hw392_9), (cl HB hw392_10)⟩) (h := fun hHeld => ?_); refine with_tabW tree_Written.tab2 tree_Written.bits2 (fun HT_ HW_ => ?_)
     generalize w11.drew = w12 at BK390 HB HR392_7 hx392_0 hx392_1 hx392_10 hx392_2 hx392_3 hx392_4 hx392_5 hx392_6 hx392_7 hx392_8 hx392_9 hHeld ⊢
     refine pu HT_ 0 12 1 (h := ?_)
     refine pu HT_ 1 13 3 (h := ?_)
     refine pu HT_ 2 14 7 (h := ?_)
     refine pu HT_ 3 15 15 (h := ?_)
     refine tk HT_ HW_ hHeld 4 16 31 (h := ?_)
     refine pu HT_ 5 17 63 (h := ?_)
     refine pu HT_ 6 18 127 (h := ?_)
     refine pu HT_ 7 19 255 (h := ?_)
     refine pu HT_ 8 20 511 (h := ?_)
     refine pu HT_ 10 22 1535 (h := ?_)
     refine pu HT_ 11 23 3583 (h := ?_)
     refine pu HT_ 12 24 7679 (h := ?_)
     refine tk HT_ HW_ hHeld 9 21 8191 (h := ?_)
     refine tk HT_ HW_ hHeld 13 25 16383 (h := ?_)
     refine on HT_ 14 (some 26) 32767 (h := fun K hK => ?_)
     refine gS Tryd.func117 #[.agg #[.int .i64 ((rd_Op l0 t391).f0), .int .i64 ((rd_Op l0 t391).f1), .int .i64 ((rd_Op l0 t391).f2), .int .i64 ((rd_Op l0 t391).f3.f0), .int .i64 ((rd_Op l0 t391).f3.f1), .int .i64 ((rd_Op l0 t391).f3.f2), .string ((rd_Op l0 t391).f4), .slice A392_7 ((rd_Op l0 t391).f5).length c392_7, .int .i64 ((rd_Op l0 t391).f6), .int .i64 ((rd_Op l0 t391).f7), .int .i64 ((rd_Op l0 t391).f8)]] (h := ?_)
     with_reducible refine (op_Size.calls ((rd_Op l0 t391).f0) ((rd_Op l0 t391).f1) ((rd_Op l0 t391).f2) ((rd_Op l0 t391).f3.f0) ((rd_Op l0 t391).f3.f1) ((rd_Op l0 t391).f3.f2) ((rd_Op l0 t391).f4) _ _ ((rd_Op l0 t391).f5) ((rd_Op l0 t391).f6) ((rd_Op l0 t391).f7) ((rd_Op l0 t391).f8) t393 _ ?side1 ?side2 A8.out).mono ?_
     (case side1 => repeat (first | exact (Kd.C_below HR392_7.out HB.out) | (with_reducible refine Kd.C_alloc ?_ _) | (with_reducible refine Kd.C_drewN ?_ _) | (with_reducible refine Kd.C_drew ?_)))
     (case side2 => exact HC392_7.out)
     rintro e w13 ⟨rfl, hb⟩
     refine ⟨_, rfl, ?_⟩
     have n0_ := bl BK390 hb
     have n1_ := bs HB hb
     clear BK390
     clear HB
     have BK390 := n0_
     have HB := n1_
     clear n0_ n1_
     (try clear hb)
     (try clear hb2)
     (try clear hk)
     (try clear hi)
     refine hK.out _ _ (b3 BK390 ⟨(cl HB hw392_0), (cl HB hw392_1), (cl HB hw392_2), (cl HB hw392_3), (cl HB hw392_4), (cl HB hw392_5), (cl HB hw392_6), (cl HB hw392_7), (cl HB hw392_8), (cl HB hw392_9), (cl HB hw392_10)⟩) (fun hHeld => ?_)
     clear hK K
     refine nm (h := ?_)
     refine pu HT_ 15 27 65535 (h := ?_)
     refine pu HT_ 16 28 131071 (h := ?_)
     refine pu HT_ 17 4 262143 (h := ?_)
     refine dn HT_ (h := ?_)
     try go_wp2
     go_ret
     exact ⟨re, bw HB⟩
    rw [if_neg c7] at H
    exact absurd H (by simp)
   rw [if_neg c6] at H
   exact absurd H (by simp)
  rw [if_neg c5] at H
  have c5b0 : decide (0 ≤ a1_2) = false := decide_eq_false c5
  clear c5
  obtain rfl := Option.some.inj H
  go_enter Tryd.func78, Tryd.ntmps78
  try go_wp2_with (first | ((with_reducible refine gate_dst (N := 3) rfl ?_); refine bx 3 #[.int .i64 a1_0, .int .i64 a1_1, .int .i64 a1_2] 29 (h := ?_); intro gb390 hg w14 hbox hb; have BK390 := Aside0.mk (hbox); have GW390 := bz HB hg; have GE390 := bz HB hg; replace HB := bs HB hb; clear hb hbox hg; obtain ⟨hcz15_0, hcz15_1, hcz15_2, hfz15_0, hfz15_1, hfz15_2⟩ := kc3 BK390) | ((with_reducible refine gate_callee (f := 125) rfl ?_); refine gl (some 11) Tryd.func125 #[.slice A0 l0.length c0, .int .i64 a1_0, .int .i64 a1_1] (h := ?_); (with_reducible refine (tree_Find.calls _ _ l0 a1_0 a1_1 t391 _ ?side1 ?side2 A3.out).mono ?_); (case side1 => repeat (first | exact (Kd.C_below HR0.out HB.out) | (with_reducible refine Kd.C_alloc ?_ _) | (with_reducible refine Kd.C_drewN ?_ _) | (with_reducible refine Kd.C_drew ?_))); (case side2 => exact HC0.out); rintro e w16 ⟨rfl, hb⟩; refine ⟨_, rfl, ?_⟩; replace BK390 := bl BK390 hb; replace HB := bs HB hb; (try clear hb); (try clear hb2); (try clear hk); (try clear hi)))
  have n0_ := Aside0.mk (blk_drew BK390.out)
  have n1_ := Aside0.mk (below_drew1 HB.out)
  clear BK390
  clear HB
  have BK390 := n0_
  have HB := n1_
  clear n0_ n1_
  refine stP (fun w' => E3 w' gb390 (.int .i64 a1_0) (.int .i64 a1_1) (.int .i64 a1_2)) 18 (e3 BK390) (h := fun hHeld => ?_); refine with_tabW tree_Written.tab2 tree_Written.bits2 (fun HT_ HW_ => ?_)
  generalize w16.drew = w17 at BK390 HB hHeld ⊢
  refine pu HT_ 0 12 1 (h := ?_)
  refine pu HT_ 1 13 3 (h := ?_)
  refine pu HT_ 2 14 7 (h := ?_)
  refine pu HT_ 3 15 15 (h := ?_)
  refine tk HT_ HW_ hHeld 4 16 31 (h := ?_)
  refine pu HT_ 5 17 63 (h := ?_)
  refine pu HT_ 6 18 127 (h := ?_)
  refine pu HT_ 7 19 255 (h := ?_)
  refine off HT_ 8 20 511 (h := ?_)
  refine off HT_ 9 21 1023 (h := ?_)
  refine off HT_ 10 22 2047 (h := ?_)
  refine off HT_ 11 23 4095 (h := ?_)
  refine off HT_ 12 24 8191 (h := ?_)
  refine off HT_ 13 25 16383 (h := ?_)
  refine off HT_ 14 26 32767 (h := ?_)
  refine off HT_ 15 27 65535 (h := ?_)
  refine pu HT_ 16 28 131071 (h := ?_)
  refine pu HT_ 17 4 262143 (h := ?_)
  refine dn HT_ (h := ?_)
  try go_wp2
  go_ret
  exact ⟨re, bw HB⟩
 rw [if_neg c4] at H
 have c4b0 : decide (0 ≤ t391) = false := decide_eq_false c4
 clear c4
 obtain rfl := Option.some.inj H
 go_enter Tryd.func78, Tryd.ntmps78
 try go_wp2_with (first | ((with_reducible refine gate_dst (N := 3) rfl ?_); refine bx 3 #[.int .i64 a1_0, .int .i64 a1_1, .int .i64 a1_2] 29 (h := ?_); intro gb390 hg w18 hbox hb; have BK390 := Aside0.mk (hbox); have GW390 := bz HB hg; have GE390 := bz HB hg; replace HB := bs HB hb; clear hb hbox hg; obtain ⟨hcz19_0, hcz19_1, hcz19_2, hfz19_0, hfz19_1, hfz19_2⟩ := kc3 BK390) | ((with_reducible refine gate_callee (f := 125) rfl ?_); refine gl (some 11) Tryd.func125 #[.slice A0 l0.length c0, .int .i64 a1_0, .int .i64 a1_1] (h := ?_); (with_reducible refine (tree_Find.calls _ _ l0 a1_0 a1_1 t391 _ ?side1 ?side2 A3.out).mono ?_); (case side1 => repeat (first | exact (Kd.C_below HR0.out HB.out) | (with_reducible refine Kd.C_alloc ?_ _) | (with_reducible refine Kd.C_drewN ?_ _) | (with_reducible refine Kd.C_drew ?_))); (case side2 => exact HC0.out); rintro e w20 ⟨rfl, hb⟩; refine ⟨_, rfl, ?_⟩; replace BK390 := bl BK390 hb; replace HB := bs HB hb; (try clear hb); (try clear hb2); (try clear hk); (try clear hi)))
 have n0_ := Aside0.mk (blk_drew BK390.out)
 have n1_ := Aside0.mk (below_drew1 HB.out)
 clear BK390
 clear HB
 have BK390 := n0_
 have HB := n1_
 clear n0_ n1_
 refine stP (fun w' => True) 18 trivial (h := fun hHeld => ?_); refine with_tabW tree_Written.tab2 tree_Written.bits2 (fun HT_ HW_ => ?_)
 generalize w20.drew = w21 at BK390 HB hHeld ⊢
 refine pu HT_ 0 12 1 (h := ?_)
 refine pu HT_ 1 13 3 (h := ?_)
 refine pu HT_ 2 14 7 (h := ?_)
 refine off HT_ 3 15 15 (h := ?_)
 refine off HT_ 4 16 31 (h := ?_)
 refine off HT_ 5 17 63 (h := ?_)
 refine pu HT_ 6 18 127 (h := ?_)
 refine pu HT_ 7 19 255 (h := ?_)
 refine off HT_ 8 20 511 (h := ?_)
 refine off HT_ 9 21 1023 (h := ?_)
 refine off HT_ 10 22 2047 (h := ?_)
 refine off HT_ 11 23 4095 (h := ?_)
 refine off HT_ 12 24 8191 (h := ?_)
 refine off HT_ 13 25 16383 (h := ?_)
 refine off HT_ 14 26 32767 (h := ?_)
 refine off HT_ 15 27 65535 (h := ?_)
 refine pu HT_ 16 28 131071 (h := ?_)
 refine pu HT_ 17 4 262143 (h := ?_)
 refine dn HT_ (h := ?_)
 try go_wp2
 go_ret
 exact ⟨re, bw HB⟩
def api_Elem.l0 : Nat → List (SElem) → Int → Int → Int → Int → Int → Option (Int)
 | 0, _, _, _, _, _, _ => none
 | k + 1, x0, x7, x8, x395000, x395001, x395002 => if x8 < x7 then (if 0 ≤ x8 then (if x8 < (x0.length : Int) then (if (x395000 == ((rd_Elem x0 x8).f0) && (x395001 == ((rd_Elem x0 x8).f1) && (x395002 == ((rd_Elem x0 x8).f2)))) = true then (some x8) else (api_Elem.l0 k x0 x7 (wrap64 (x8 + 1)) x395000 x395001 x395002)) else (none)) else (none)) else (some (-1))
def api_Elem.f (k : Nat) (l0 : List (SElem)) (a1_0 : Int) (a1_1 : Int) (a1_2 : Int) : Option (Int) := api_Elem.l0 k l0 (l0.length : Int) 0 a1_0 a1_1 a1_2
set_option maxHeartbeats 8000000 in
set_option maxRecDepth 100000 in
theorem api_Elem.calls (k : Nat) (A0 : Option Addr) (c0 : Nat) (l0 : List (SElem)) (a1_0 : Int) (a1_1 : Int) (a1_2 : Int) (r : Int) (w : World) (hr0 : Kd.C kElem w A0 l0.length l0) (hc0 : l0.length ≤ c0) (h : api_Elem.f k l0 a1_0 a1_1 a1_2 = some r) :
  Calls Tryd.prog 79 #[.slice A0 l0.length c0, .agg #[.int .i64 a1_0, .int .i64 a1_1, .int .i64 a1_2]] w fun e w' => e = .returned (.int .i64 r) ∧ Below w.heap.size w w' := by
 have hu29 := Tryd.underlying29
 have HR0 := Aside0.mk hr0
 have HC0 := Aside0.mk hc0
 clear hr0 hc0
 have HB := Aside0.mk (Below.refl w.heap.size w)
 have H : (api_Elem.l0 k l0 (l0.length : Int) 0 a1_0 a1_1 a1_2) = some r := h
 clear h
 have H' := Aside0.mk H
 clear H
 go_enter Tryd.func79, Tryd.ntmps79
 go_wp2_with (first | ((with_reducible refine gate_dst (N := 3) rfl ?_); refine bx 3 #[.int .i64 a1_0, .int .i64 a1_1, .int .i64 a1_2] 29 (h := ?_); intro gb394 hg w3 hbox hb; have BK394 := Aside0.mk (hbox); have GW394 := bz HB hg; have GE394 := bz HB hg; replace HB := bs HB hb; clear hb hbox hg))
 repeat (go_quiet (first | ((with_reducible refine gate_dst (N := 3) rfl ?_); refine bx 3 #[.int .i64 a1_0, .int .i64 a1_1, .int .i64 a1_2] 29 (h := ?_); intro gb394 hg w3 hbox hb; have BK394 := Aside0.mk (hbox); have GW394 := bz HB hg; have GE394 := bz HB hg; replace HB := bs HB hb; clear hb hbox hg)); try go_wp2_with (first | ((with_reducible refine gate_dst (N := 3) rfl ?_); refine bx 3 #[.int .i64 a1_0, .int .i64 a1_1, .int .i64 a1_2] 29 (h := ?_); intro gb394 hg w3 hbox hb; have BK394 := Aside0.mk (hbox); have GW394 := bz HB hg; have GE394 := bz HB hg; replace HB := bs HB hb; clear hb hbox hg)))
 go_loopg [8] k (fun kq v8 w' => ∃ (x8_1 : Int), v8 = .int .i64 x8_1 ∧ Aside0 (api_Elem.l0 kq l0 (l0.length : Int) x8_1 a1_0 a1_1 a1_2 = some r) ∧ Aside0 (kq ≤ k) ∧ Aside0 (w'.heap[gb394]? = some (.cells #[.int .i64 a1_0, .int .i64 a1_1, .int .i64 a1_2] 29 (0, 0))) ∧ Aside0 (Below w.heap.size w w'))
 case atStart => exact ⟨(0), rf, H', ⟨Nat.le_refl _⟩, ⟨kk BK394⟩, ⟨bw HB⟩⟩
 case round =>
  clear H'
  obtain ⟨x8_1, rfl, HA, HK1, BK394, HB⟩ := hrel
  cases gk with
  | zero => exact absurd HA.out (by simp [api_Elem.l0])
  | succ k1 =>
   have H := HA.out
   clear HA
   simp only [api_Elem.l0] at H
   by_cases c4 : x8_1 < (l0.length : Int)
   ·rw [if_pos c4] at H
    have c4b0 : decide (x8_1 < (l0.length : Int)) = true := decide_eq_true c4
    clear c4
    by_cases c5 : 0 ≤ x8_1
    ·rw [if_pos c5] at H
     have c5b0 : decide (0 ≤ x8_1) = true := decide_eq_true c5
     clear c5
     by_cases c6 : x8_1 < (l0.length : Int)
     ·rw [if_pos c6] at H
      have c6b0 : decide (x8_1 < (l0.length : Int)) = true := decide_eq_true c6
      clear c6
      by_cases c7 : (a1_0 == ((rd_Elem l0 x8_1).f0) && (a1_1 == ((rd_Elem l0 x8_1).f1) && (a1_2 == ((rd_Elem l0 x8_1).f2)))) = true
      ·rw [if_pos c7] at H
       have c7b0 : (a1_0 == ((rd_Elem l0 x8_1).f0) && (a1_1 == ((rd_Elem l0 x8_1).f1) && (a1_2 == ((rd_Elem l0 x8_1).f2)))) = true := c7
       (try (have c7b1 : decide (a1_0 = ((rd_Elem l0 x8_1).f0) && (a1_1 == ((rd_Elem l0 x8_1).f1) && (a1_2 == ((rd_Elem l0 x8_1).f2)))) = true := by simpa using c7))
       (try (have c7b2 : (a1_0 == ((rd_Elem l0 x8_1).f0) && (a1_1 == ((rd_Elem l0 x8_1).f1) && (a1_2 == ((rd_Elem l0 x8_1).f2)))) = true := by simpa using c7))
       clear c7
       obtain rfl := Option.some.inj H
       obtain ⟨hcz8_0, hcz8_1, hcz8_2, hfz8_0, hfz8_1, hfz8_2⟩ := kc3 BK394
       have p395 : 0 ≤ (x8_1 : Int) := of_decide_eq_true (by first | (with_reducible assumption) | assumption)
       have q395 : x8_1 < (l0.length : Int) := of_decide_eq_true (by first | (with_reducible assumption) | assumption)
       obtain ⟨ad395, e395, hx395_0, hx395_1, hx395_2⟩ := at_Elem HR0.out x8_1 p395 q395
       cases e395
       replace hx395_0 := cl HB hx395_0
       replace hx395_1 := cl HB hx395_1
       replace hx395_2 := cl HB hx395_2
       replace p395 := eq_true p395
       replace q395 := eq_true q395
       go_wp2
       repeat (go_quiet (fail); try go_wp2)
       go_ret
       exact ⟨re, bw HB⟩
      rw [if_neg c7] at H
      have c7b0 : (a1_0 == ((rd_Elem l0 x8_1).f0) && (a1_1 == ((rd_Elem l0 x8_1).f1) && (a1_2 == ((rd_Elem l0 x8_1).f2)))) = false := by simpa using c7
      (try (have c7b1 : decide (a1_0 = ((rd_Elem l0 x8_1).f0) && (a1_1 == ((rd_Elem l0 x8_1).f1) && (a1_2 == ((rd_Elem l0 x8_1).f2)))) = false := by simpa using c7))
      (try (have c7b2 : (a1_0 == ((rd_Elem l0 x8_1).f0) && (a1_1 == ((rd_Elem l0 x8_1).f1) && (a1_2 == ((rd_Elem l0 x8_1).f2)))) = false := by simpa using c7))
      (try (have c7b3 : ¬ (a1_0 = ((rd_Elem l0 x8_1).f0) && (a1_1 == ((rd_Elem l0 x8_1).f1) && (a1_2 == ((rd_Elem l0 x8_1).f2)))) := by simpa using c7))
      clear c7
      have H' := Aside0.mk H
      clear H
      obtain ⟨hcz9_0, hcz9_1, hcz9_2, hfz9_0, hfz9_1, hfz9_2⟩ := kc3 BK394
      have p395 : 0 ≤ (x8_1 : Int) := of_decide_eq_true (by first | (with_reducible assumption) | assumption)
      have q395 : x8_1 < (l0.length : Int) := of_decide_eq_true (by first | (with_reducible assumption) | assumption)
      obtain ⟨ad395, e395, hx395_0, hx395_1, hx395_2⟩ := at_Elem HR0.out x8_1 p395 q395
      cases e395
      replace hx395_0 := cl HB hx395_0
      replace hx395_1 := cl HB hx395_1
      replace hx395_2 := cl HB hx395_2
      replace p395 := eq_true p395
      replace q395 := eq_true q395
      go_wp2
      repeat (go_quiet (fail); try go_wp2)
      go_roundg k1
      case measure => have := HK1.out; omega
      case rel => exact ⟨(wrap64 (x8_1 + 1)), rf, H', ⟨by have := HK1.out; omega⟩, ⟨kk BK394⟩, ⟨bw HB⟩⟩
     rw [if_neg c6] at H
     exact absurd H (by simp)
    rw [if_neg c5] at H
    exact absurd H (by simp)
   rw [if_neg c4] at H
   have c4b0 : decide (x8_1 < (l0.length : Int)) = false := decide_eq_false c4
   clear c4
   obtain rfl := Option.some.inj H
   go_wp2
   repeat (go_quiet (fail); try go_wp2)
   go_ret
   exact ⟨re, bw HB⟩
def tree_Place.f (k : Nat) (l0 : List (SOp)) (a1_0 : Int) (a1_1 : Int) (a1_2 : Int) : Option (Int × Int) := (tree_May.f l0).bind fun t397 => (if t397 = true then ((tree_Written.f l0 a1_0 a1_1 a1_2).bind fun t398 => (if t398 = true then ((tree_All.f l0).bind fun t399 => ((api_Elem.f k t399 a1_0 a1_1 a1_2).bind fun t402 => (some (t402, 0)))) else (some (0, 3)))) else (some (0, 1)))
set_option maxHeartbeats 8000000 in
set_option maxRecDepth 100000 in
theorem tree_Place.calls (k : Nat) (A0 : Option Addr) (c0 : Nat) (l0 : List (SOp)) (a1_0 : Int) (a1_1 : Int) (a1_2 : Int) (r1 : Int) (r2 : Int) (w : World) (hr0 : Kd.C kOp w A0 l0.length l0) (hc0 : l0.length ≤ c0) (h : tree_Place.f k l0 a1_0 a1_1 a1_2 = some (r1, r2)) :
  Calls Tryd.prog 29 #[.slice A0 l0.length c0, .agg #[.int .i64 a1_0, .int .i64 a1_1, .int .i64 a1_2]] w fun e w' => e = .returned (.tuple #[.int .i64 r1, .int .i64 r2]) ∧ Below w.heap.size w w' := by
 have hu29 := Tryd.underlying29
 have HR0 := Aside0.mk hr0
 have HC0 := Aside0.mk hc0
 clear hr0 hc0
 have HB := Aside0.mk (Below.refl w.heap.size w)
 have H : ((tree_May.f l0).bind fun t397 => (if t397 = true then ((tree_Written.f l0 a1_0 a1_1 a1_2).bind fun t398 => (if t398 = true then ((tree_All.f l0).bind fun t399 => ((api_Elem.f k t399 a1_0 a1_1 a1_2).bind fun t402 => (some (t402, 0)))) else (some (0, 3)))) else (some (0, 1)))) = some (r1, r2) := h
 clear h
 replace H := Option.bind_eq_some_iff.mp H
 obtain ⟨t397, A30, H⟩ := H
 replace H : (if t397 = true then ((tree_Written.f l0 a1_0 a1_1 a1_2).bind fun t398 => (if t398 = true then ((tree_All.f l0).bind fun t399 => ((api_Elem.f k t399 a1_0 a1_1 a1_2).bind fun t402 => (some (t402, 0)))) else (some (0, 3)))) else (some (0, 1))) = some (r1, r2) := H
 have A3 := Aside0.mk A30
 clear A30
 by_cases c4 : t397 = true
 ·subst c4
  have H1 : ((tree_Written.f l0 a1_0 a1_1 a1_2).bind fun t398 => (if t398 = true then ((tree_All.f l0).bind fun t399 => ((api_Elem.f k t399 a1_0 a1_1 a1_2).bind fun t402 => (some (t402, 0)))) else (some (0, 3)))) = some (r1, r2) := by rw [if_pos rfl] at H; exact H
  clear H
  have H := H1
  clear H1
  replace H := Option.bind_eq_some_iff.mp H
  obtain ⟨t398, A50, H⟩ := H
  replace H : (if t398 = true then ((tree_All.f l0).bind fun t399 => ((api_Elem.f k t399 a1_0 a1_1 a1_2).bind fun t402 => (some (t402, 0)))) else (some (0, 3))) = some (r1, r2) := H
  have A5 := Aside0.mk A50
  clear A50
  by_cases c6 : t398 = true
  ·subst c6
   have H1 : ((tree_All.f l0).bind fun t399 => ((api_Elem.f k t399 a1_0 a1_1 a1_2).bind fun t402 => (some (t402, 0)))) = some (r1, r2) := by rw [if_pos rfl] at H; exact H
   clear H
   have H := H1
   clear H1
   replace H := Option.bind_eq_some_iff.mp H
   obtain ⟨t399, A70, H⟩ := H
   replace H : ((api_Elem.f k t399 a1_0 a1_1 a1_2).bind fun t402 => (some (t402, 0))) = some (r1, r2) := H
   have A7 := Aside0.mk A70
   clear A70
   replace H := Option.bind_eq_some_iff.mp H
   obtain ⟨t402, A80, H⟩ := H
   replace H : (some (t402, 0)) = some (r1, r2) := H
   have A8 := Aside0.mk A80
   clear A80
   simp only [Option.some.injEq, Prod.mk.injEq] at H
   obtain ⟨rfl, rfl⟩ := H
   go_enter Tryd.func29, Tryd.ntmps29
   try go_wp2_with (first | ((with_reducible refine gate_dst (N := 3) rfl ?_); refine bx 3 #[.int .i64 a1_0, .int .i64 a1_1, .int .i64 a1_2] 29 (h := ?_); intro gb396 hg w9 hbox hb; have BK396 := Aside0.mk (hbox); have GW396 := bz HB hg; have GE396 := bz HB hg; replace HB := bs HB hb; clear hb hbox hg) | ((with_reducible refine gate_callee (f := 71) rfl ?_); refine gl (some 8) Tryd.func71 #[.slice A0 l0.length c0] (h := ?_); (with_reducible refine (tree_May.calls _ _ l0 true _ ?side1 ?side2 A3.out).mono ?_); (case side1 => repeat (first | exact (Kd.C_below HR0.out HB.out) | (with_reducible refine Kd.C_alloc ?_ _) | (with_reducible refine Kd.C_drewN ?_ _) | (with_reducible refine Kd.C_drew ?_))); (case side2 => exact HC0.out); rintro e w10 ⟨rfl, hb⟩; refine ⟨_, rfl, ?_⟩; replace BK396 := bl BK396 hb; replace HB := bs HB hb; (try clear hb); (try clear hb2); (try clear hk); (try clear hi); obtain ⟨hcz11_0, hcz11_1, hcz11_2, hfz11_0, hfz11_1, hfz11_2⟩ := kc3 BK396) | ((with_reducible refine gate_callee (f := 78) rfl ?_); refine gl (some 13) Tryd.func78 #[.slice A0 l0.length c0, .agg #[.int .i64 a1_0, .int .i64 a1_1, .int .i64 a1_2]] (h := ?_); (with_reducible refine (tree_Written.calls _ _ l0 a1_0 a1_1 a1_2 true _ ?side1 ?side2 A5.out).mono ?_); (case side1 => repeat (first | exact (Kd.C_below HR0.out HB.out) | (with_reducible refine Kd.C_alloc ?_ _) | (with_reducible refine Kd.C_drewN ?_ _) | (with_reducible refine Kd.C_drew ?_))); (case side2 => exact HC0.out); rintro e w12 ⟨rfl, hb⟩; refine ⟨_, rfl, ?_⟩; replace BK396 := bl BK396 hb; replace HB := bs HB hb; (try clear hb); (try clear hb2); (try clear hk); (try clear hi)))
   have n0_ := Aside0.mk (blk_drew BK396.out)
   have n1_ := Aside0.mk (below_drew1 HB.out)
   clear BK396
   clear HB
   have BK396 := n0_
   have HB := n1_
   clear n0_ n1_
   refine stP (fun w' => E3 w' gb396 (.int .i64 a1_0) (.int .i64 a1_1) (.int .i64 a1_2)) 6 (e3 BK396) (h := fun hHeld => ?_)
   generalize w12.drew = w13 at BK396 HB hHeld ⊢
   refine pu0 0 15 1 (h := ?_)
   refine tk0 hHeld 2 17 5 (h := ?_)
   refine on0 1 (some 16) 7 (h := fun K hK => ?_)
   refine gS Tryd.func76 #[.slice A0 l0.length c0] (h := ?_)
   with_reducible refine (tree_All.calls _ _ l0 t399 _ ?side1 ?side2 A7.out).mono ?_
   (case side1 => repeat (first | exact (Kd.C_below HR0.out HB.out) | (with_reducible refine Kd.C_alloc ?_ _) | (with_reducible refine Kd.C_drewN ?_ _) | (with_reducible refine Kd.C_drew ?_)))
   (case side2 => exact HC0.out)
   rintro e w14 ⟨v400, rfl, ho0, hb⟩
   refine ⟨_, rfl, ?_⟩
   have n0_ := Aside0.mk (Kd.R_lower (Kd.R_newB ho0 (kk BK396)) (below_size (bw HB)))
   have n1_ := bl BK396 hb
   have n2_ := bs HB hb
   clear BK396
   clear HB
   have HO401 := n0_
   have BK396 := n1_
   have HB := n2_
   clear n0_ n1_ n2_
   (try clear hb)
   (try clear hb2)
   (try clear hk)
   (try clear hi)
   (try clear ho0)
   obtain ⟨Ao15, co15, eo15⟩ := Kd.R_slice HO401.out
   (first | subst eo15 | (injection eo15 with f1_ f2_ f3_; have f4_ := f1_.symm; have f5_ := f3_.symm; clear f1_ f2_ f3_; subst f4_; subst f5_))
   refine hK.out _ _ (e3 BK396) (fun hHeld => ?_)
   clear hK K
   refine nm (h := ?_)
   refine on0 3 (some 18) 15 (h := fun K hK => ?_)
   refine gS Tryd.func79 #[.slice Ao15 t399.length co15, .agg #[.int .i64 a1_0, .int .i64 a1_1, .int .i64 a1_2]] (h := ?_)
   with_reducible refine (api_Elem.calls k _ _ t399 a1_0 a1_1 a1_2 t402 _ ?side1 ?side2 A8.out).mono ?_
   (case side1 => repeat (first | exact (Kd.R_reads' HO401.out).2.2 | (with_reducible refine Kd.C_alloc ?_ _) | (with_reducible refine Kd.C_drewN ?_ _) | (with_reducible refine Kd.C_drew ?_)))
   (case side2 => exact (Kd.R_reads' HO401.out).2.1)
   rintro e w16 ⟨rfl, hb⟩
   refine ⟨_, rfl, ?_⟩
   have n0_ := Aside0.mk (Kd.R_below (by (with_reducible repeat (first | apply Kd.R_alloc | apply Kd.R_drewN | apply Kd.R_drew)); exact HO401.out) hb)
   have n1_ := bl BK396 hb
   have n2_ := bs HB hb
   clear HO401
   clear BK396
   clear HB
   have HO401 := n0_
   have BK396 := n1_
   have HB := n2_
   clear n0_ n1_ n2_
   (try clear hb)
   (try clear hb2)
   (try clear hk)
   (try clear hi)
   refine hK.out _ _ (e3 BK396) (fun hHeld => ?_)
   clear hK K
   refine nm (h := ?_)
   refine pu0 4 4 31 (h := ?_)
   refine pu0 5 5 63 (h := ?_)
   refine dn0 (h := ?_)
   try go_wp2
   go_ret2
   exact ⟨re, bw HB⟩
  replace c6 := Bool.eq_false_iff.mpr c6
  subst c6
  have H1 : (some (0, 3)) = some (r1, r2) := by rw [if_neg (show ¬ (false = true) by decide)] at H; exact H
  clear H
  have H := H1
  clear H1
  simp only [Option.some.injEq, Prod.mk.injEq] at H
  obtain ⟨rfl, rfl⟩ := H
  go_enter Tryd.func29, Tryd.ntmps29
  go_wp2_with (first | ((with_reducible refine gate_dst (N := 3) rfl ?_); refine bx 3 #[.int .i64 a1_0, .int .i64 a1_1, .int .i64 a1_2] 29 (h := ?_); intro gb396 hg w17 hbox hb; have BK396 := Aside0.mk (hbox); have GW396 := bz HB hg; have GE396 := bz HB hg; replace HB := bs HB hb; clear hb hbox hg) | ((with_reducible refine gate_callee (f := 71) rfl ?_); refine gl (some 8) Tryd.func71 #[.slice A0 l0.length c0] (h := ?_); (with_reducible refine (tree_May.calls _ _ l0 true _ ?side1 ?side2 A3.out).mono ?_); (case side1 => repeat (first | exact (Kd.C_below HR0.out HB.out) | (with_reducible refine Kd.C_alloc ?_ _) | (with_reducible refine Kd.C_drewN ?_ _) | (with_reducible refine Kd.C_drew ?_))); (case side2 => exact HC0.out); rintro e w18 ⟨rfl, hb⟩; refine ⟨_, rfl, ?_⟩; replace BK396 := bl BK396 hb; replace HB := bs HB hb; (try clear hb); (try clear hb2); (try clear hk); (try clear hi); obtain ⟨hcz19_0, hcz19_1, hcz19_2, hfz19_0, hfz19_1, hfz19_2⟩ := kc3 BK396) | ((with_reducible refine gate_callee (f := 78) rfl ?_); refine gl (some 13) Tryd.func78 #[.slice A0 l0.length c0, .agg #[.int .i64 a1_0, .int .i64 a1_1, .int .i64 a1_2]] (h := ?_); (with_reducible refine (tree_Written.calls _ _ l0 a1_0 a1_1 a1_2 false _ ?side1 ?side2 A5.out).mono ?_); (case side1 => repeat (first | exact (Kd.C_below HR0.out HB.out) | (with_reducible refine Kd.C_alloc ?_ _) | (with_reducible refine Kd.C_drewN ?_ _) | (with_reducible refine Kd.C_drew ?_))); (case side2 => exact HC0.out); rintro e w20 ⟨rfl, hb⟩; refine ⟨_, rfl, ?_⟩; replace BK396 := bl BK396 hb; replace HB := bs HB hb; (try clear hb); (try clear hb2); (try clear hk); (try clear hi)))
  go_ret2
  exact ⟨re, bw HB⟩
 replace c4 := Bool.eq_false_iff.mpr c4
 subst c4
 have H1 : (some (0, 1)) = some (r1, r2) := by rw [if_neg (show ¬ (false = true) by decide)] at H; exact H
 clear H
 have H := H1
 clear H1
 simp only [Option.some.injEq, Prod.mk.injEq] at H
 obtain ⟨rfl, rfl⟩ := H
 go_enter Tryd.func29, Tryd.ntmps29
 go_wp2_with (first | ((with_reducible refine gate_dst (N := 3) rfl ?_); refine bx 3 #[.int .i64 a1_0, .int .i64 a1_1, .int .i64 a1_2] 29 (h := ?_); intro gb396 hg w21 hbox hb; have BK396 := Aside0.mk (hbox); have GW396 := bz HB hg; have GE396 := bz HB hg; replace HB := bs HB hb; clear hb hbox hg) | ((with_reducible refine gate_callee (f := 71) rfl ?_); refine gl (some 8) Tryd.func71 #[.slice A0 l0.length c0] (h := ?_); (with_reducible refine (tree_May.calls _ _ l0 false _ ?side1 ?side2 A3.out).mono ?_); (case side1 => repeat (first | exact (Kd.C_below HR0.out HB.out) | (with_reducible refine Kd.C_alloc ?_ _) | (with_reducible refine Kd.C_drewN ?_ _) | (with_reducible refine Kd.C_drew ?_))); (case side2 => exact HC0.out); rintro e w22 ⟨rfl, hb⟩; refine ⟨_, rfl, ?_⟩; replace BK396 := bl BK396 hb; replace HB := bs HB hb; (try clear hb); (try clear hb2); (try clear hk); (try clear hi)))
 go_ret2
 exact ⟨re, bw HB⟩
end Go.Proofs.YtdahgnalojekdaaDoor.L
end

section
namespace Go.Proofs.YtdahgnalojekdaaDoor.L
open Go.RowKit Go.Proofs.YtdahgnalojekdaaDoorW.PrintWords Go.Proofs.YtdahgnalojekdaaDoorW.PrintLast Go.Proofs.YtdahgnalojekdaaDoorW.PrintMore
def t_tree_Under.T5 : Bool × List (List Nat × List Nat) := (true, [([], []), ([0], [0]), ([], []), ([1, 2, 1], [1, 2]), ([3, 3, 0, 1, 2, 3], [3]), ([4, 0, 1, 2, 3, 4], [])])
def t_tree_Under.B5 : List Nat := [0, 1, 0, 7, 15, 31]
theorem t_tree_Under.tab5 : rtab .any (opsOf Tryd.f30 5) = t_tree_Under.T5 := by kernel_rfl
theorem t_tree_Under.bits5 : waitsOk t_tree_Under.T5.2 t_tree_Under.B5 = true := by kernel_rfl
end Go.Proofs.YtdahgnalojekdaaDoor.L
end

section
namespace Go.Proofs.YtdahgnalojekdaaDoor.L
open Go.RowKit Go.Proofs.YtdahgnalojekdaaDoorW.PrintWords Go.Proofs.YtdahgnalojekdaaDoorW.PrintLast Go.Proofs.YtdahgnalojekdaaDoorW.PrintMore
attribute [local go_sem high] eqAElem
set_option linter.unusedVariables false
set_option linter.unusedSimpArgs false
theorem tree_Written_f {l : List SOp} (hs : smalls l = true) (a b c : Int) : tree_Written.f l a b c = some (writtenB l ⟨a, b, c⟩) := by
  have hlen : l.length ≤ 9223372036854775807 := by
    unfold smalls at hs; simp only [Bool.and_eq_true, decide_eq_true_eq] at hs; exact hs.1
  unfold tree_Written.f tree_Find.f writtenB
  rw [if_pos hlen, Option.bind_some]
  simp only
  rcases findOp_cases l a b with ⟨i, hi, _, _, _, e⟩ | ⟨_, e⟩
  · rw [e, if_pos (by omega)]
    by_cases hc : c ≥ 0
    · rw [if_pos hc, if_pos (by omega), if_pos (by omega), op_Size_f _ (smalls_at hs hi), Option.bind_some]
      have h1 : decide ((0 : Int) ≤ (i : Int)) = true := decide_eq_true (by omega)
      have h2 : decide ((0 : Int) ≤ c) = true := decide_eq_true hc
      rw [h1, h2]; simp
    · rw [if_neg hc]
      have h2 : decide ((0 : Int) ≤ c) = false := decide_eq_false (by omega)
      rw [h2]; simp
  · rw [e, if_neg (by omega)]; simp
def underC (l : List SOp) (e : SElem) : List SElem × Int := if mayB l = true then (if (isBegin e || writtenB l e) = true then (belowL l (gU l l.length (key3 e)) e, 0) else ([], 3)) else ([], 1)
def tree_Under.f (l0 : List (SOp)) (a1_0 : Int) (a1_1 : Int) (a1_2 : Int) : Option ((List (SElem)) × Int) := if smalls l0 = true then some (underC l0 ⟨a1_0, a1_1, a1_2⟩) else none
theorem under_in {l : List SOp} (hr : RowOk l) {e : SElem} (h : (isBegin e || writtenB l e) = true) : inI e.f0 ∧ inI e.f1 ∧ inI e.f2 := by
  unfold inI
  rw [Bool.or_eq_true] at h
  rcases h with h | h
  · have := (isBegin_iff e).1 h; subst this; simp [bgE]
  · obtain ⟨p, hp, e0, e1, h2, h3⟩ := (mem_ordL hr e).1 ((mem_written hr e).1 h)
    have := opOk_pos (hr.oks p hp)
    have := (opOk_size2 (hr.oks p hp)).1
    omega
set_option maxHeartbeats 4000000 in
set_option maxRecDepth 1000000 in
theorem tree_Under.calls (A0 : Option Addr) (c0 : Nat) (l0 : List (SOp)) (a1_0 : Int) (a1_1 : Int) (a1_2 : Int) (r1 : List (SElem)) (r2 : Int) (w : World) (hr0 : Kd.C kOp w A0 l0.length l0) (hc0 : l0.length ≤ c0) (h : tree_Under.f l0 a1_0 a1_1 a1_2 = some (r1, r2)) :
    Calls Tryd.prog 30 #[.slice A0 l0.length c0, .agg #[.int .i64 a1_0, .int .i64 a1_1, .int .i64 a1_2]] w fun e w' => ∃ v0_ : Value, e = .returned (.tuple #[v0_, .int .i64 r2]) ∧ Kd.R kElem 29 w' w.heap.size (fun _ => True) v0_ r1 ∧ Below w.heap.size w w' := by
  unfold tree_Under.f at h
  split at h
  case isFalse => cases h
  rename_i hs
  have h := Option.some.inj h
  have hMay := fun (r : Bool) (hr : tree_May.f l0 = some r) (X : World) (hb : Below w.heap.size w X) => tree_May.calls A0 c0 l0 r X (Kd.C_below hr0 hb) hc0 hr
  have hWr := fun (r : Bool) (hr : tree_Written.f l0 a1_0 a1_1 a1_2 = some r) (X : World) (hb : Below w.heap.size w X) => tree_Written.calls A0 c0 l0 a1_0 a1_1 a1_2 r X (Kd.C_below hr0 hb) hc0 hr
  have hb1 : ∀ o, Below w.heap.size w (w.alloc o) := fun o => below_alloc (Below.refl _ w) o
  unfold underC at h
  cases hm : mayB l0 with
  | false =>
    rw [hm] at h
    simp only [Bool.false_eq_true, if_false] at h
    injection h with e1 e2
    subst e1 e2
    have HM := Aside0.mk (hMay false (by unfold tree_May.f; rw [if_pos hs, hm]))
    have HB1 := Aside0.mk hb1
    clear hMay hWr hr0 hc0 hs hm hb1
    go_enter Tryd.func30, Tryd.ntmps30
    go_wp2_with fail
    refine (HM.out _ (HB1.out _)).mono ?_
    rintro e w2 ⟨rfl, hb2⟩
    have HB2 := Aside0.mk (below_step (HB1.out _) hb2)
    clear hb2
    go_wp2
    go_ret2
    exact ⟨_, rfl, (RowE.nil _ _).R, HB2.out⟩
  | true =>
    rw [hm] at h
    simp only [if_true] at h
    have hrow := (mayB_iff l0).1 hm
    have hok := smalls_ok hs hrow
    have HM := Aside0.mk (hMay true (by unfold tree_May.f; rw [if_pos hs, hm]))
    have HB1 := Aside0.mk hb1
    have HR := Aside0.mk hr0
    have HC := Aside0.mk hc0
    cases hq : (isBegin ⟨a1_0, a1_1, a1_2⟩ || writtenB l0 ⟨a1_0, a1_1, a1_2⟩) with
    | false =>
      rw [hq] at h
      simp only [Bool.false_eq_true, if_false] at h
      injection h with e1 e2
      subst e1 e2
      obtain ⟨hz, hw⟩ := Bool.or_eq_false_iff.1 hq
      have HW := Aside0.mk (hWr false (by rw [tree_Written_f hs, hw]))
      have hz' : (a1_0 == 0 && (a1_1 == 0 && (a1_2 == 0))) = false := hz
      clear hMay hWr hr0 hc0 hs hm hb1 hz hw hq hrow hok
      go_enter Tryd.func30, Tryd.ntmps30
      go_wp2_with fail
      refine (HM.out _ (HB1.out _)).mono ?_
      rintro e w2 ⟨rfl, hb2⟩
      have HB2 := Aside0.mk (below_step (HB1.out _) hb2)
      have k0 := pw_cell_below hb2 (show (w.alloc (.cells #[.int .i64 a1_0, .int .i64 a1_1, .int .i64 a1_2] 29)).cell? ⟨w.heap.size, 0, none⟩ = some (.int .i64 a1_0) by simp)
      have k1 := pw_cell_below hb2 (show (w.alloc (.cells #[.int .i64 a1_0, .int .i64 a1_1, .int .i64 a1_2] 29)).cell? ⟨w.heap.size, 1, none⟩ = some (.int .i64 a1_1) by simp)
      have k2 := pw_cell_below hb2 (show (w.alloc (.cells #[.int .i64 a1_0, .int .i64 a1_1, .int .i64 a1_2] 29)).cell? ⟨w.heap.size, 2, none⟩ = some (.int .i64 a1_2) by simp)
      clear hb2
      go_wp2_with fail
      refine (HW.out _ HB2.out).mono ?_
      rintro e w3 ⟨rfl, hb3⟩
      have HB3 := Aside0.mk (below_step HB2.out hb3)
      clear hb3 k0 k1 k2
      go_wp2
      go_ret2
      exact ⟨_, rfl, (RowE.nil _ _).R, HB3.out⟩
    | true =>
      rw [hq] at h
      simp only [if_true] at h
      injection h with e1 e2
      subst e1 e2
      have hIn := under_in hrow hq
      have hkl := keyE (x := key3 ⟨a1_0, a1_1, a1_2⟩) hIn.1 hIn.2.1 hIn.2.2
      have hfa := gU_falling hok (key3 ⟨a1_0, a1_1, a1_2⟩)
      have HGR := Aside0.mk (fun (X : World) (hb : Below w.heap.size w X) => grown_calls A0 c0 l0 X (Kd.C_below HR.out hb) HC.out hok)
      have HBL := Aside0.mk (fun (X w3 : World) (hb : Below w.heap.size w X) (G bU n : Nat) (S : K3 → Option Nat) (V : K3 → Value) (hG : GrowI X w3 A0 c0 l0 G bU l0.length S V n) => below_calls X w3 A0 c0 l0 G bU n S V _ ⟨a1_0, a1_1, a1_2⟩ hG.gs (Kd.C_below HR.out hb) HC.out hok hfa.1 hkl (by have := hfa.2; omega))
      clear hkl hfa hIn
      have fin : ∀ (X : World) (hb : Below w.heap.size w X) (hX : w.heap.size < X.heap.size) (o0 : X.cell? ⟨w.heap.size, 0, none⟩ = some (.int .i64 a1_0)) (o1 : X.cell? ⟨w.heap.size, 1, none⟩ = some (.int .i64 a1_1)) (o2 : X.cell? ⟨w.heap.size, 2, none⟩ = some (.int .i64 a1_2)), True := fun _ _ _ _ _ _ => trivial
      clear fin
      cases hz : isBegin ⟨a1_0, a1_1, a1_2⟩ with
      | true =>
        have hz' : (a1_0 == 0 && (a1_1 == 0 && (a1_2 == 0))) = true := hz
        clear hMay hWr hr0 hc0 hs hm hb1 hz hq hrow hok
        go_enter Tryd.func30, Tryd.ntmps30
        go_wp2_with fail
        refine (HM.out _ (HB1.out _)).mono ?_
        rintro e w2 ⟨rfl, hb2⟩
        have HB2 := Aside0.mk (below_step (HB1.out _) hb2)
        have k0 := pw_cell_below hb2 (show (w.alloc (.cells #[.int .i64 a1_0, .int .i64 a1_1, .int .i64 a1_2] 29)).cell? ⟨w.heap.size, 0, none⟩ = some (.int .i64 a1_0) by simp)
        have k1 := pw_cell_below hb2 (show (w.alloc (.cells #[.int .i64 a1_0, .int .i64 a1_1, .int .i64 a1_2] 29)).cell? ⟨w.heap.size, 1, none⟩ = some (.int .i64 a1_1) by simp)
        have k2 := pw_cell_below hb2 (show (w.alloc (.cells #[.int .i64 a1_0, .int .i64 a1_1, .int .i64 a1_2] 29)).cell? ⟨w.heap.size, 2, none⟩ = some (.int .i64 a1_2) by simp)
        clear hb2
        go_wp2_with fail
        refine stL (S := fun w' => w'.cell? ⟨w.heap.size, 0, none⟩ = some (.int .i64 a1_0) ∧ w'.cell? ⟨w.heap.size, 1, none⟩ = some (.int .i64 a1_1) ∧ w'.cell? ⟨w.heap.size, 2, none⟩ = some (.int .i64 a1_2)) [3] 6 t_tree_Under.bits5 t_tree_Under.tab5 (hS := ⟨k0, k1, k2⟩) (h := fun hS HT HW5 => ?_)
        refine pu HT 0 20 1 (h := ?_)
        refine tk HT HW5 hS 2 22 5 (h := ?_)
        refine ca HT 1 (some 21) 7 #[.slice A0 l0.length c0] Tryd.func80 (h := fun K hK => ?_)
        refine (HGR.out _ (below_drew1 HB2.out)).mono ?_
        rintro e w3 ⟨G, bU, n, S, V, rfl, hG⟩
        refine ⟨_, rfl, ?_⟩
        refine hK.out _ _ ⟨pw_cell_below hG.below k0, pw_cell_below hG.below k1, pw_cell_below hG.below k2⟩ (fun hS => ?_)
        have HBC := HBL.out _ _ (below_drew1 HB2.out) G bU n S V hG
        have HG := Aside0.mk hG
        clear hK hG k0 k1 k2
        refine nm (h := ?_)
        refine caL HT 3 (some 23) 15 #[.pointer (some ⟨G, 0, none⟩), .agg #[.int .i64 a1_0, .int .i64 a1_1, .int .i64 a1_2]] Tryd.func81 (h := ?_)
        refine HBC.mono ?_
        rintro e w4 ⟨v4, V4, rfl, hrow4, hG4, _, _⟩
        refine ⟨_, rfl, ?_⟩
        have hbe : Below w.heap.size w w4 := below_step (below_drew1 HB2.out) hG4.below
        have hrw : RowE w4 w.heap.size v4 _ := own_weaken hrow4 (Nat.le_trans (below_drew1 HB2.out).size HG.out.below.size)
        have HBE := Aside0.mk hbe
        have HRW := Aside0.mk hrw
        clear hbe hrw hrow4 hG4 HBC hS
        refine nm (h := ?_)
        refine pu HT 4 4 31 (h := ?_)
        refine pu HT 5 5 63 (h := ?_)
        refine dn HT (h := ?_)
        clear HT HW5
        go_wp2
        go_ret2
        exact ⟨_, rfl, HRW.out.R, HBE.out⟩
      | false =>
        have hz' : (a1_0 == 0 && (a1_1 == 0 && (a1_2 == 0))) = false := hz
        have hw : writtenB l0 ⟨a1_0, a1_1, a1_2⟩ = true := by rw [hz, Bool.false_or] at hq; exact hq
        have HW := Aside0.mk (hWr true (by rw [tree_Written_f hs, hw]))
        clear hMay hWr hr0 hc0 hs hm hb1 hz hq hrow hok hw
        go_enter Tryd.func30, Tryd.ntmps30
        go_wp2_with fail
        refine (HM.out _ (HB1.out _)).mono ?_
        rintro e w1 ⟨rfl, hb2⟩
        have HB1' := Aside0.mk (below_step (HB1.out _) hb2)
        have d0 := pw_cell_below hb2 (show (w.alloc (.cells #[.int .i64 a1_0, .int .i64 a1_1, .int .i64 a1_2] 29)).cell? ⟨w.heap.size, 0, none⟩ = some (.int .i64 a1_0) by simp)
        have d1 := pw_cell_below hb2 (show (w.alloc (.cells #[.int .i64 a1_0, .int .i64 a1_1, .int .i64 a1_2] 29)).cell? ⟨w.heap.size, 1, none⟩ = some (.int .i64 a1_1) by simp)
        have d2 := pw_cell_below hb2 (show (w.alloc (.cells #[.int .i64 a1_0, .int .i64 a1_1, .int .i64 a1_2] 29)).cell? ⟨w.heap.size, 2, none⟩ = some (.int .i64 a1_2) by simp)
        clear hb2
        go_wp2_with fail
        refine (HW.out _ HB1'.out).mono ?_
        rintro e w2 ⟨rfl, hb3⟩
        have HB2 := Aside0.mk (below_step HB1'.out hb3)
        have k0 := pw_cell_below hb3 d0
        have k1 := pw_cell_below hb3 d1
        have k2 := pw_cell_below hb3 d2
        clear hb3 d0 d1 d2
        go_wp2_with fail
        refine stL (S := fun w' => w'.cell? ⟨w.heap.size, 0, none⟩ = some (.int .i64 a1_0) ∧ w'.cell? ⟨w.heap.size, 1, none⟩ = some (.int .i64 a1_1) ∧ w'.cell? ⟨w.heap.size, 2, none⟩ = some (.int .i64 a1_2)) [3] 6 t_tree_Under.bits5 t_tree_Under.tab5 (hS := ⟨k0, k1, k2⟩) (h := fun hS HT HW5 => ?_)
        refine pu HT 0 20 1 (h := ?_)
        refine tk HT HW5 hS 2 22 5 (h := ?_)
        refine ca HT 1 (some 21) 7 #[.slice A0 l0.length c0] Tryd.func80 (h := fun K hK => ?_)
        refine (HGR.out _ (below_drew1 HB2.out)).mono ?_
        rintro e w3 ⟨G, bU, n, S, V, rfl, hG⟩
        refine ⟨_, rfl, ?_⟩
        refine hK.out _ _ ⟨pw_cell_below hG.below k0, pw_cell_below hG.below k1, pw_cell_below hG.below k2⟩ (fun hS => ?_)
        have HBC := HBL.out _ _ (below_drew1 HB2.out) G bU n S V hG
        have HG := Aside0.mk hG
        clear hK hG k0 k1 k2
        refine nm (h := ?_)
        refine caL HT 3 (some 23) 15 #[.pointer (some ⟨G, 0, none⟩), .agg #[.int .i64 a1_0, .int .i64 a1_1, .int .i64 a1_2]] Tryd.func81 (h := ?_)
        refine HBC.mono ?_
        rintro e w4 ⟨v4, V4, rfl, hrow4, hG4, _, _⟩
        refine ⟨_, rfl, ?_⟩
        have hbe : Below w.heap.size w w4 := below_step (below_drew1 HB2.out) hG4.below
        have hrw : RowE w4 w.heap.size v4 _ := own_weaken hrow4 (Nat.le_trans (below_drew1 HB2.out).size HG.out.below.size)
        have HBE := Aside0.mk hbe
        have HRW := Aside0.mk hrw
        clear hbe hrw hrow4 hG4 HBC hS
        refine nm (h := ?_)
        refine pu HT 4 4 31 (h := ?_)
        refine pu HT 5 5 63 (h := ?_)
        refine dn HT (h := ?_)
        clear HT HW5
        go_wp2
        go_ret2
        exact ⟨_, rfl, HRW.out.R, HBE.out⟩
end Go.Proofs.YtdahgnalojekdaaDoor.L
end
