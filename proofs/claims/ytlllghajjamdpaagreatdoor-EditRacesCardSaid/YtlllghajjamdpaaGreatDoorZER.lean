/- for every argument the law EditRaces answers true: edits that two sites make of the same row, ordered one behind the other either way, leave what each wrote whole, side by side, and take away what each took -/
import Derived.Test.YtlllghajjamdpaaGreatDoorZER13
section
namespace Go.Proofs.YtlllghajjamdpaaGreatDoor.editRaces
open Go.ChangeShapes Go.WideShapes Go.ChangeAt Go.RowKit Go.Proofs.YtlllghajjamdpaaGreatDoor.L Go.Proofs.YtlllghajjamdpaaGreatDoor.door Go.Proofs.YtlllghajjamdpaaGreatDoorW.PrintWords
set_option linter.unusedVariables false
abbrev nils : Value := .agg #[.slice none 0 0, .slice none 0 0, .slice none 0 0, .slice none 0 0]
set_option maxRecDepth 100000 in
theorem lifted (os : Os) (started : os.Started) (H : Type) (enc : TypeId × Value -> H) :
    ReturnsInHanded {} Tryz.checked os 3 .any (fun w args => (Rows.editRacesSpec.pre enc Tryz.prog Tryz.f3 [] false w args /\ laidMetH Tryz.prog laid2 w) /\ sizedMet enc Tryz.prog Tryz.f3 (OpenSpec.ofChange Rows.editRacesSpec) false w args) (Rows.editRacesSpec.post enc Tryz.prog Tryz.f3 false true false false) := by
  refine returnsInHanded_of_change_and (C := Tryz.checked) (X := fun w _ => laidMetH Tryz.prog laid2 w) (fun _ _ _ hh h => h.of_heap hh) own started (by kernel_rfl) Tryz.func3
    (ChangeSpec.witness_at (enc := enc) (C := Tryz.checked) (os := os) (X := fun w _ => laidMetH Tryz.prog laid2 w) false (laidWorld os) #[nils] 8 rfl (by kernel_rfl) (by kernel_rfl) (by kernel_rfl) (by kernel_rfl) (by kernel_rfl) (laid_met os _)) ?_
  intro W base args ds gs before hval0 hW hcnd hsz0 hL _
  have hsz : (DataW.weightsEach Tryz.prog (Tryz.f3.params.toList ++ Rows.editRacesSpec.plain.varTypes Tryz.prog) (ds ++ gs)).all (· <= reachBytes) = true := hsz0
  have hW' := hW
  have hGT : GT W := gt_of hL
  obtain ⟨p, q, hA0, hV, rfl, hfz, hnd⟩ := hW
  have hA : DataW.TrodAll enc Tryz.prog W 0 (fun _ => true) true Tryz.f3.params.toList args.toList ds p := hA0
  rw [Tryz.params3] at hA hsz
  obtain ⟨v0, vs0, d0, ds0, p0, q0, hargs, rfl, rfl, h0, r0⟩ := trodAll_cons hA
  obtain ⟨rfl, rfl, rfl⟩ := trodAll_nil r0
  obtain rfl : args = #[v0] := by cases args; simp_all
  obtain ⟨rfl, rfl⟩ := trodVars_none hV
  have k0 := h0
  have lt0 : ∀ x ∈ p0, x.block < W.heap.size := by obtain ⟨m, hm⟩ := k0; exact DataW.trod_lt m _ _ _ hm
  obtain ⟨fuel, hf⟩ := h0
  have hl : lightW Tryz.prog 27 d0 := by
    intro n hn
    have := List.all_eq_true.1 hsz n (by
      simp only [List.cons_append, List.nil_append, DataW.weightsEach]
      exact List.mem_append_left _ hn)
    simpa using this
  obtain ⟨A0, c0, l0, A1, c1, l1, A2, c2, l2, A3, c3, l3, hcs, g0, e0, g1, e1, g2, e2, g3, e3, hgood⟩ := opens_Ask H enc W 0 _ true fuel _ _ hf hl
  obtain rfl : v0 = .agg #[.slice A0 l0.length c0, .slice A1 l1.length c1, .slice A2 l2.length c2, .slice A3 l3.length c3] := agg_of_cells hcs
  clear hA0 hval0 hsz0 hsz
  obtain ⟨k, hk⟩ := PureEditRaces l0 l1 l2 l3 hgood
  refine (w7_EditRaces.calls k A0 c0 l0 A1 c1 l1 A2 c2 l2 A3 c3 l3 true W g0 e0 g1 e1 g2 e2 g3 e3 hGT hk).mono fun e W' ⟨he, bel⟩ => ?_
  subst he
  exact ⟨_, rfl, _, _, _, [], _, [], hW', trodAll_mk1 (shut_bool Tryz.underlying4 _), (trodAll_cons_mk (Below.trod laidOut (by kernel_rfl) (of_decide_eq_true (by kernel_rfl)) k0 bel lt0) trodAll_mk0), rfl, bel.frame _, fun h => by cases h⟩
theorem named : Tryz.pinned.checked.prog.funcNamed Rows.editRacesRow.func = some 3 := by kernel_rfl
theorem closed : joinedFacts Tryz.pinned.checked.prog 3 Tryz.f3 (OpenSpec.ofChange Rows.editRacesSpec).bare Rows.editRacesRow = true := by kernel_rfl
theorem inst : Tryz.f3.isInstance Tryz.pinned.checked.prog Rows.editRacesRow.origin Rows.editRacesRow.targs := of_decide_eq_true (by kernel_rfl)
theorem wrapped : Tryz.f3.isWrapper Tryz.pinned.checked.prog Rows.editRacesRow.wrapper Rows.editRacesRow.mainSum := by
  unfold Func.isWrapper; first | (rw [if_pos (by decide +kernel)]; kernel_rfl) | (rw [if_neg (by decide +kernel)]; exact ⟨rfl, rfl⟩)
theorem row_holds : Rows.EditRacesSaid :=
  OpenClaim.holds_of_wide 3 Tryz.f3 rfl rfl rfl rfl rfl rfl rfl ⟨rfl, rfl, rfl, rfl, rfl⟩ rfl rfl rfl rfl rfl named Tryz.func3 closed inst wrapped
    (fun os started H enc _ => lifted os started H enc)
theorem card_holds : Rows.EditRacesCardSaid :=
  Claim7.holds_tied_plain_at .later [] [.data, .pinned] true (true, "8db35497fa351c267564bf55faade4bffc4a09ff9f2ca0bf0327a9c7371ff4d3") true
    row_holds (fun _ h => by cases h) (by kernel_rfl) (fun _ h => by cases h) editRaces_row_tie rfl ⟨rfl, rfl⟩ (by kernel_rfl) rfl
    (fun f fn hf hfn => by
      obtain rfl : f = 3 := Zo ((show Tryz.prog.funcNamed "lectionary/lectionarylaw7.EditRaces" = some 3 by kernel_rfl).symm.trans hf) |>.symm
      obtain rfl : fn = Tryz.f3 := (Zo (Tryz.func3.symm.trans hfn)).symm
      exact ⟨by kernel_rfl, fun j t ht => by
        rw [Tryz.params3] at ht
        have h3 : t = 27 := by
          rcases j with _ | j
          · simpa using ht.symm
          · simp at ht
        subst h3
        exact (show Tryz.prog.wantsStandIn 27 = false by kernel_rfl)⟩)
    (by kernel_rfl)
#print axioms card_holds
end Go.Proofs.YtlllghajjamdpaaGreatDoor.editRaces
namespace Go.Proofs.YtlllghajjamdpaaGreatDoor
theorem editRaces_holds : Rows.EditRacesCardSaid := editRaces.card_holds
end Go.Proofs.YtlllghajjamdpaaGreatDoor
end
