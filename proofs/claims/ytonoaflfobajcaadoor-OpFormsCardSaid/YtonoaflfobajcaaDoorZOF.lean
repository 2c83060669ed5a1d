/- For every argument the law OpForms answers true: ops of each form, with each part spoilt by itself, may be, or not, as the page says: by ops made here. -/
import Derived.Test.YtonoaflfobajcaaDoorZOF7
section
section
namespace Go.Proofs.YtonoaflfobajcaaDoor.opForms
open Go.ChangeShapes Go.WideShapes Go.ChangeAt Go.RowKit Go.Proofs.YtonoaflfobajcaaDoor.L Go.Proofs.YtonoaflfobajcaaDoor.door Go.Proofs.YtonoaflfobajcaaDoorW.PrintWords
set_option linter.unusedVariables false
abbrev nils : Value := .agg #[.slice none 0 0, .slice none 0 0, .slice none 0 0]
set_option maxRecDepth 100000 in
theorem lifted (os : Os) (started : os.Started) (H : Type) (enc : TypeId × Value -> H) :
    ReturnsInHanded {} Tryd.checked os 10 .any (fun w args => (Rows.opFormsSpec.pre enc Tryd.prog Tryd.f10 [] false w args /\ laidMetH Tryd.prog laid2 w) /\ sizedMet enc Tryd.prog Tryd.f10 (OpenSpec.ofChange Rows.opFormsSpec) false w args) (Rows.opFormsSpec.post enc Tryd.prog Tryd.f10 false true false false) := by
  refine returnsInHanded_of_change_and (C := Tryd.checked) (X := fun w _ => laidMetH Tryd.prog laid2 w) (fun _ _ _ hh h => h.of_heap hh) own started (by kernel_rfl) Tryd.func10
    (ChangeSpec.witness_at (enc := enc) (C := Tryd.checked) (os := os) (X := fun w _ => laidMetH Tryd.prog laid2 w) false (laidWorld os) #[nils] 8 rfl (by kernel_rfl) (by kernel_rfl) (by kernel_rfl) (by kernel_rfl) (by kernel_rfl) (laid_met os _)) ?_
  intro W base args ds gs before hval0 hW hcnd hsz0 hL _
  have hsz : (DataW.weightsEach Tryd.prog (Tryd.f10.params.toList ++ Rows.opFormsSpec.plain.varTypes Tryd.prog) (ds ++ gs)).all (· <= reachBytes) = true := hsz0
  have hW' := hW
  have hGT : GT W := gt_of hL
  obtain ⟨p, q, hA0, hV, rfl, hfz, hnd⟩ := hW
  have hA : DataW.TrodAll enc Tryd.prog W 0 (fun _ => true) true Tryd.f10.params.toList args.toList ds p := hA0
  rw [Tryd.params10] at hA hsz
  obtain ⟨v0, vs0, d0, ds0, p0, q0, hargs, rfl, rfl, h0, r0⟩ := trodAll_cons hA
  obtain ⟨rfl, rfl, rfl⟩ := trodAll_nil r0
  obtain rfl : args = #[v0] := by cases args; simp_all
  obtain ⟨rfl, rfl⟩ := trodVars_none hV
  have k0 := h0
  have lt0 : ∀ x ∈ p0, x.block < W.heap.size := by obtain ⟨m, hm⟩ := k0; exact DataW.trod_lt m _ _ _ hm
  obtain ⟨fuel, hf⟩ := h0
  have hl : lightW Tryd.prog 61 d0 := by
    intro n hn
    have := List.all_eq_true.1 hsz n (by
      simp only [List.cons_append, List.nil_append, DataW.weightsEach]
      exact List.mem_append_left _ hn)
    simpa using this
  obtain ⟨A0, c0, l0, A1, c1, l1, A2, c2, l2, hcs, g0, e0, g1, e1, g2, e2, hgood⟩ := opens_Ask H enc W 0 _ true fuel _ _ hf hl
  obtain rfl : v0 = .agg #[.slice A0 l0.length c0, .slice A1 l1.length c1, .slice A2 l2.length c2] := agg_of_cells hcs
  clear hA0 hval0 hsz0 hsz
  obtain ⟨k, hk⟩ := PureOpForms l0 l1 l2 hgood
  refine (w4_OpForms.calls k A0 c0 l0 A1 c1 l1 A2 c2 l2 true W g0 e0 g1 e1 g2 e2 hGT hk).mono fun e W' ⟨he, bel⟩ => ?_
  subst he
  exact ⟨_, rfl, _, _, _, [], _, [], hW', trodAll_mk1 (shut_bool Tryd.underlying4 _), (trodAll_cons_mk (Below.trod laidOut (by kernel_rfl) (of_decide_eq_true (by kernel_rfl)) k0 bel lt0) trodAll_mk0), rfl, bel.frame _, fun h => by cases h⟩
theorem named : Tryd.pinned.checked.prog.funcNamed Rows.opFormsRow.func = some 10 := by kernel_rfl
theorem closed : joinedFacts Tryd.pinned.checked.prog 10 Tryd.f10 (OpenSpec.ofChange Rows.opFormsSpec).bare Rows.opFormsRow = true := by kernel_rfl
theorem inst : Tryd.f10.isInstance Tryd.pinned.checked.prog Rows.opFormsRow.origin Rows.opFormsRow.targs := of_decide_eq_true (by kernel_rfl)
theorem wrapped : Tryd.f10.isWrapper Tryd.pinned.checked.prog Rows.opFormsRow.wrapper Rows.opFormsRow.mainSum := by
  unfold Func.isWrapper; first | (rw [if_pos (by decide +kernel)]; kernel_rfl) | (rw [if_neg (by decide +kernel)]; exact ⟨rfl, rfl⟩)
theorem row_holds : Rows.OpFormsSaid :=
  OpenClaim.holds_of_wide 10 Tryd.f10 rfl rfl rfl rfl rfl rfl rfl ⟨rfl, rfl, rfl, rfl, rfl⟩ rfl rfl rfl rfl rfl named Tryd.func10 closed inst wrapped
    (fun os started H enc _ => lifted os started H enc)
theorem card_holds : Rows.OpFormsCardSaid :=
  Claim7.holds_tied_plain_at .later [] [.data, .pinned] true (true, "b0d58676ae95982b5cd482921940f486cd51982bec31705095ef0c3cd674cf83") true
    row_holds (fun _ h => by cases h) (by kernel_rfl) (fun _ h => by cases h) opForms_row_tie rfl ⟨rfl, rfl⟩ (by kernel_rfl) rfl
    (fun f fn hf hfn => by
      obtain rfl : f = 10 := Zo ((show Tryd.prog.funcNamed "lectionary/lectionarylaw4.OpForms" = some 10 by kernel_rfl).symm.trans hf) |>.symm
      obtain rfl : fn = Tryd.f10 := (Zo (Tryd.func10.symm.trans hfn)).symm
      exact ⟨by kernel_rfl, fun j t ht => by
        rw [Tryd.params10] at ht
        have h3 : t = 61 := by
          rcases j with _ | j
          · simpa using ht.symm
          · simp at ht
        subst h3
        exact (show Tryd.prog.wantsStandIn 61 = false by kernel_rfl)⟩)
    (by kernel_rfl)
#print axioms card_holds
end Go.Proofs.YtonoaflfobajcaaDoor.opForms
namespace Go.Proofs.YtonoaflfobajcaaDoor
theorem opForms_holds : Rows.OpFormsCardSaid := opForms.card_holds
end Go.Proofs.YtonoaflfobajcaaDoor
end
end
