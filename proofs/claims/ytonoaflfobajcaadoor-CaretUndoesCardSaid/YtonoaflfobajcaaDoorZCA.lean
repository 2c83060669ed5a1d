/- For every argument the laws CaretDeletes and CaretUndoes answer true: what goes ahead of a caret moves it by so much, where its own element goes it stands where that was; behind a toggle, and another one of the same edit, a caret is where it was. -/
import Derived.Test.YtonoaflfobajcaaDoorZCA12
section
section
namespace Go.Proofs.YtonoaflfobajcaaDoor.caretDeletes
open Go.ChangeShapes Go.WideShapes Go.ChangeAt Go.RowKit Go.Proofs.YtonoaflfobajcaaDoor.L Go.Proofs.YtonoaflfobajcaaDoor.door Go.Proofs.YtonoaflfobajcaaDoorW.PrintWords
set_option linter.unusedVariables false
abbrev nils : Value := .agg #[.slice none 0 0, .slice none 0 0, .slice none 0 0, .slice none 0 0]
set_option maxRecDepth 100000 in
theorem lifted (os : Os) (started : os.Started) (H : Type) (enc : TypeId × Value → H) :
    ReturnsInHanded {} Tryd.checked os 8 .any (fun w args => (Rows.caretDeletesSpec.pre enc Tryd.prog Tryd.f8 [] false w args ∧ laidMetH Tryd.prog laid2 w) ∧ sizedMet enc Tryd.prog Tryd.f8 (OpenSpec.ofChange Rows.caretDeletesSpec) false w args) (Rows.caretDeletesSpec.post enc Tryd.prog Tryd.f8 false true false false) := by
  refine returnsInHanded_of_change_and (C := Tryd.checked) (X := fun w _ => laidMetH Tryd.prog laid2 w) (fun _ _ _ hh h => h.of_heap hh) own started (by kernel_rfl) Tryd.func8
    (ChangeSpec.witness_at (enc := enc) (C := Tryd.checked) (os := os) (X := fun w _ => laidMetH Tryd.prog laid2 w) false (laidWorld os) #[nils] 8 rfl (by kernel_rfl) (by kernel_rfl) (by kernel_rfl) (by kernel_rfl) (by kernel_rfl) (laid_met os _)) ?_
  intro W base args ds gs before hval0 hW hcnd hsz0 hL _
  have hsz : (DataW.weightsEach Tryd.prog (Tryd.f8.params.toList ++ Rows.caretDeletesSpec.plain.varTypes Tryd.prog) (ds ++ gs)).all (· ≤ reachBytes) = true := hsz0
  have hW' := hW
  have hGT : GT W := gt_of hL
  obtain ⟨p, q, hA0, hV, rfl, hfz, hnd⟩ := hW
  have hA : DataW.TrodAll enc Tryd.prog W 0 (fun _ => true) true Tryd.f8.params.toList args.toList ds p := hA0
  rw [Tryd.params8] at hA hsz
  obtain ⟨v0, vs0, d0, ds0, p0, q0, hargs, rfl, rfl, h0, r0⟩ := trodAll_cons hA
  obtain ⟨rfl, rfl, rfl⟩ := trodAll_nil r0
  obtain rfl : args = #[v0] := by cases args; simp_all
  obtain ⟨rfl, rfl⟩ := trodVars_none hV
  have k0 := h0
  have lt0 : ∀ x ∈ p0, x.block < W.heap.size := by obtain ⟨m, hm⟩ := k0; exact DataW.trod_lt m _ _ _ hm
  obtain ⟨fuel, hf⟩ := h0
  have hl : lightW Tryd.prog 27 d0 := by
    intro n hn
    have := List.all_eq_true.1 hsz n (by
      simp only [List.cons_append, List.nil_append, DataW.weightsEach]
      exact List.mem_append_left _ hn)
    simpa using this
  obtain ⟨A0, c0, l0, A1, c1, l1, A2, c2, l2, A3, c3, l3, hcs, g0, e0, g1, e1, g2, e2, g3, e3, hgood⟩ := opens_Ask H enc W 0 _ true fuel _ _ hf hl
  obtain rfl : v0 = .agg #[.slice A0 l0.length c0, .slice A1 l1.length c1, .slice A2 l2.length c2, .slice A3 l3.length c3] := agg_of_cells hcs
  clear hA0 hval0 hsz0 hsz
  obtain ⟨k, hk⟩ := PureCaretDeletes l0 l1 l2 l3 hgood
  refine (w11_CaretDeletes.calls k A0 c0 l0 A1 c1 l1 A2 c2 l2 A3 c3 l3 true W g0 e0 g1 e1 g2 e2 g3 e3 hGT hk).mono fun e W' ⟨he, bel⟩ => ?_
  subst he
  exact ⟨_, rfl, _, _, _, [], _, [], hW', trodAll_mk1 (shut_bool Tryd.underlying4 _), (trodAll_cons_mk (Below.trod laidOut (by kernel_rfl) (of_decide_eq_true (by kernel_rfl)) k0 bel lt0) trodAll_mk0), rfl, bel.frame _, fun h => by cases h⟩
theorem named : Tryd.pinned.checked.prog.funcNamed Rows.caretDeletesRow.func = some 8 := by kernel_rfl
theorem closed : joinedFacts Tryd.pinned.checked.prog 8 Tryd.f8 (OpenSpec.ofChange Rows.caretDeletesSpec).bare Rows.caretDeletesRow = true := by kernel_rfl
theorem inst : Tryd.f8.isInstance Tryd.pinned.checked.prog Rows.caretDeletesRow.origin Rows.caretDeletesRow.targs := of_decide_eq_true (by kernel_rfl)
theorem wrapped : Tryd.f8.isWrapper Tryd.pinned.checked.prog Rows.caretDeletesRow.wrapper Rows.caretDeletesRow.mainSum := by
  unfold Func.isWrapper; first | (rw [if_pos (by decide +kernel)]; kernel_rfl) | (rw [if_neg (by decide +kernel)]; exact ⟨rfl, rfl⟩)
theorem row_holds : Rows.CaretDeletesSaid :=
  OpenClaim.holds_of_wide 8 Tryd.f8 rfl rfl rfl rfl rfl rfl rfl ⟨rfl, rfl, rfl, rfl, rfl⟩ rfl rfl rfl rfl rfl named Tryd.func8 closed inst wrapped
    (fun os started H enc _ => lifted os started H enc)
theorem card_holds : Rows.CaretDeletesCardSaid :=
  Claim7.holds_tied_plain_at .later [] [.data, .pinned] true (true, "b0d58676ae95982b5cd482921940f486cd51982bec31705095ef0c3cd674cf83") true
    row_holds (fun _ h => by cases h) (by kernel_rfl) (fun _ h => by cases h) caretDeletes_row_tie rfl ⟨rfl, rfl⟩ (by kernel_rfl) rfl
    (fun f fn hf hfn => by
      obtain rfl : f = 8 := Option.some.inj ((show Tryd.prog.funcNamed "lectionary/lectionarylaw11.CaretDeletes" = some 8 by kernel_rfl).symm.trans hf) |>.symm
      obtain rfl : fn = Tryd.f8 := (Option.some.inj (Tryd.func8.symm.trans hfn)).symm
      exact ⟨by kernel_rfl, fun j t ht => by
        rw [Tryd.params8] at ht
        have h3 : t = 27 := by
          rcases j with _ | j
          · simpa using ht.symm
          · simp at ht
        subst h3
        exact (show Tryd.prog.wantsStandIn 27 = false by kernel_rfl)⟩)
    (by kernel_rfl)
#print axioms card_holds
end Go.Proofs.YtonoaflfobajcaaDoor.caretDeletes
namespace Go.Proofs.YtonoaflfobajcaaDoor
theorem caretDeletes_holds : Rows.CaretDeletesCardSaid := caretDeletes.card_holds
end Go.Proofs.YtonoaflfobajcaaDoor
end
section
namespace Go.Proofs.YtonoaflfobajcaaDoor.caretUndoes
open Go.ChangeShapes Go.WideShapes Go.ChangeAt Go.RowKit Go.Proofs.YtonoaflfobajcaaDoor.L Go.Proofs.YtonoaflfobajcaaDoor.door Go.Proofs.YtonoaflfobajcaaDoorW.PrintWords
set_option linter.unusedVariables false
abbrev nils : Value := .agg #[.slice none 0 0, .slice none 0 0, .slice none 0 0, .slice none 0 0]
set_option maxRecDepth 100000 in
theorem lifted (os : Os) (started : os.Started) (H : Type) (enc : TypeId × Value → H) :
    ReturnsInHanded {} Tryd.checked os 9 .any (fun w args => (Rows.caretUndoesSpec.pre enc Tryd.prog Tryd.f9 [] false w args ∧ laidMetH Tryd.prog laid2 w) ∧ sizedMet enc Tryd.prog Tryd.f9 (OpenSpec.ofChange Rows.caretUndoesSpec) false w args) (Rows.caretUndoesSpec.post enc Tryd.prog Tryd.f9 false true false false) := by
  refine returnsInHanded_of_change_and (C := Tryd.checked) (X := fun w _ => laidMetH Tryd.prog laid2 w) (fun _ _ _ hh h => h.of_heap hh) own started (by kernel_rfl) Tryd.func9
    (ChangeSpec.witness_at (enc := enc) (C := Tryd.checked) (os := os) (X := fun w _ => laidMetH Tryd.prog laid2 w) false (laidWorld os) #[nils] 8 rfl (by kernel_rfl) (by kernel_rfl) (by kernel_rfl) (by kernel_rfl) (by kernel_rfl) (laid_met os _)) ?_
  intro W base args ds gs before hval0 hW hcnd hsz0 hL _
  have hsz : (DataW.weightsEach Tryd.prog (Tryd.f9.params.toList ++ Rows.caretUndoesSpec.plain.varTypes Tryd.prog) (ds ++ gs)).all (· ≤ reachBytes) = true := hsz0
  have hW' := hW
  have hGT : GT W := gt_of hL
  obtain ⟨p, q, hA0, hV, rfl, hfz, hnd⟩ := hW
  have hA : DataW.TrodAll enc Tryd.prog W 0 (fun _ => true) true Tryd.f9.params.toList args.toList ds p := hA0
  rw [Tryd.params9] at hA hsz
  obtain ⟨v0, vs0, d0, ds0, p0, q0, hargs, rfl, rfl, h0, r0⟩ := trodAll_cons hA
  obtain ⟨rfl, rfl, rfl⟩ := trodAll_nil r0
  obtain rfl : args = #[v0] := by cases args; simp_all
  obtain ⟨rfl, rfl⟩ := trodVars_none hV
  have k0 := h0
  have lt0 : ∀ x ∈ p0, x.block < W.heap.size := by obtain ⟨m, hm⟩ := k0; exact DataW.trod_lt m _ _ _ hm
  obtain ⟨fuel, hf⟩ := h0
  have hl : lightW Tryd.prog 27 d0 := by
    intro n hn
    have := List.all_eq_true.1 hsz n (by
      simp only [List.cons_append, List.nil_append, DataW.weightsEach]
      exact List.mem_append_left _ hn)
    simpa using this
  obtain ⟨A0, c0, l0, A1, c1, l1, A2, c2, l2, A3, c3, l3, hcs, g0, e0, g1, e1, g2, e2, g3, e3, hgood⟩ := opens_Ask H enc W 0 _ true fuel _ _ hf hl
  obtain rfl : v0 = .agg #[.slice A0 l0.length c0, .slice A1 l1.length c1, .slice A2 l2.length c2, .slice A3 l3.length c3] := agg_of_cells hcs
  clear hA0 hval0 hsz0 hsz
  obtain ⟨k, hk⟩ := PureCaretUndoes l0 l1 l2 l3 hgood
  refine (w11_CaretUndoes.calls k A0 c0 l0 A1 c1 l1 A2 c2 l2 A3 c3 l3 true W g0 e0 g1 e1 g2 e2 g3 e3 hGT hk).mono fun e W' ⟨he, bel⟩ => ?_
  subst he
  exact ⟨_, rfl, _, _, _, [], _, [], hW', trodAll_mk1 (shut_bool Tryd.underlying4 _), (trodAll_cons_mk (Below.trod laidOut (by kernel_rfl) (of_decide_eq_true (by kernel_rfl)) k0 bel lt0) trodAll_mk0), rfl, bel.frame _, fun h => by cases h⟩
theorem named : Tryd.pinned.checked.prog.funcNamed Rows.caretUndoesRow.func = some 9 := by kernel_rfl
theorem closed : joinedFacts Tryd.pinned.checked.prog 9 Tryd.f9 (OpenSpec.ofChange Rows.caretUndoesSpec).bare Rows.caretUndoesRow = true := by kernel_rfl
theorem inst : Tryd.f9.isInstance Tryd.pinned.checked.prog Rows.caretUndoesRow.origin Rows.caretUndoesRow.targs := of_decide_eq_true (by kernel_rfl)
theorem wrapped : Tryd.f9.isWrapper Tryd.pinned.checked.prog Rows.caretUndoesRow.wrapper Rows.caretUndoesRow.mainSum := by
  unfold Func.isWrapper; first | (rw [if_pos (by decide +kernel)]; kernel_rfl) | (rw [if_neg (by decide +kernel)]; exact ⟨rfl, rfl⟩)
theorem row_holds : Rows.CaretUndoesSaid :=
  OpenClaim.holds_of_wide 9 Tryd.f9 rfl rfl rfl rfl rfl rfl rfl ⟨rfl, rfl, rfl, rfl, rfl⟩ rfl rfl rfl rfl rfl named Tryd.func9 closed inst wrapped
    (fun os started H enc _ => lifted os started H enc)
theorem card_holds : Rows.CaretUndoesCardSaid :=
  Claim7.holds_tied_plain_at .later [] [.data, .pinned] true (true, "b0d58676ae95982b5cd482921940f486cd51982bec31705095ef0c3cd674cf83") true
    row_holds (fun _ h => by cases h) (by kernel_rfl) (fun _ h => by cases h) caretUndoes_row_tie rfl ⟨rfl, rfl⟩ (by kernel_rfl) rfl
    (fun f fn hf hfn => by
      obtain rfl : f = 9 := Option.some.inj ((show Tryd.prog.funcNamed "lectionary/lectionarylaw11.CaretUndoes" = some 9 by kernel_rfl).symm.trans hf) |>.symm
      obtain rfl : fn = Tryd.f9 := (Option.some.inj (Tryd.func9.symm.trans hfn)).symm
      exact ⟨by kernel_rfl, fun j t ht => by
        rw [Tryd.params9] at ht
        have h3 : t = 27 := by
          rcases j with _ | j
          · simpa using ht.symm
          · simp at ht
        subst h3
        exact (show Tryd.prog.wantsStandIn 27 = false by kernel_rfl)⟩)
    (by kernel_rfl)
#print axioms card_holds
end Go.Proofs.YtonoaflfobajcaaDoor.caretUndoes
namespace Go.Proofs.YtonoaflfobajcaaDoor
theorem caretUndoes_holds : Rows.CaretUndoesCardSaid := caretUndoes.card_holds
end Go.Proofs.YtonoaflfobajcaaDoor
end
end
