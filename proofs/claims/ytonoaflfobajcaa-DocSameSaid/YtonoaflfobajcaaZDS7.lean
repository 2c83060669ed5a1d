/- Part 7 of the proof that for every argument the law DocSame answers true: of any row that may be, the elements that are visible are among all and in their order, the text is their runes one by one, each one's edit is effective, none stands twice, and what goes by an effective edit is not visible; for any row at all, without any condition. -/
import Derived.Test.YtonoaflfobajcaaZDS6
import Derived.Laws.IdiomStrings
import Derived.Laws.Cover4
section
namespace Go.Proofs.Ytonoaflfobajcaa.L
open Go.RowKit Go.Proofs.YtonoaflfobajcaaW.PrintWords Go.Proofs.YtonoaflfobajcaaW.PrintLast Go.Proofs.YtonoaflfobajcaaW.PrintMore
set_option linter.unusedVariables false
set_option linter.unusedSimpArgs false
def mkE (k : Int × Int × Int) : SElem := ⟨k.1, k.2.1, k.2.2⟩
def goneS (l ms : List SOp) : Int × Int × Int → Bool := fun k => ms.any fun o => workE l o && decide (mkE k ∈ o.f5)
def theS (l ms : List SOp) : Int × Int × Int → Bool := fun k => ms.any fun o => workE l o && decide (mkE k ∈ chainE o)
def addS (S : Int × Int × Int → Bool) (es : List SElem) : Int × Int × Int → Bool := fun k => S k || decide (mkE k ∈ es)
theorem addS_nil (S : Int × Int × Int → Bool) : addS S [] = S := by funext k; simp [addS]
theorem addS_snoc (S : Int × Int × Int → Bool) (es : List SElem) (x : SElem) : updB (addS S es) (x.f0, x.f1, x.f2) = addS S (es ++ [x]) := by
  funext k
  unfold updB addS
  by_cases h : k = (x.f0, x.f1, x.f2)
  · rw [if_pos h]
    have : mkE k = x := by rw [h]; rfl
    simp [this]
  · rw [if_neg h]
    have : mkE k ≠ x := fun e => h (by rw [← e]; rfl)
    simp [this]
theorem goneS_snoc (l ms : List SOp) (o : SOp) : goneS l (ms ++ [o]) = if workE l o = true then addS (goneS l ms) o.f5 else goneS l ms := by
  funext k
  have h1 : ∀ b : Bool, (if b = true then (fun k => goneS l ms k || decide (mkE k ∈ o.f5)) else goneS l ms) k = (goneS l ms k || (b && decide (mkE k ∈ o.f5))) := by intro b; cases b <;> simp
  refine Eq.trans ?_ (h1 (workE l o)).symm
  unfold goneS
  rw [List.any_append]; simp
theorem theS_snoc (l ms : List SOp) (o : SOp) : theS l (ms ++ [o]) = if workE l o = true then addS (theS l ms) (chainE o) else theS l ms := by
  funext k
  have h1 : ∀ b : Bool, (if b = true then (fun k => theS l ms k || decide (mkE k ∈ chainE o)) else theS l ms) k = (theS l ms k || (b && decide (mkE k ∈ chainE o))) := by intro b; cases b <;> simp
  refine Eq.trans ?_ (h1 (workE l o)).symm
  unfold theS
  rw [List.any_append]; simp
structure K2 (b1 b2 : Nat) (w w' : World) : Prop where
  os : w'.os = w.os
  tape : w'.tape = w.tape
  output : w'.output = w.output
  size : w.heap.size ≤ w'.heap.size
  block : ∀ k, k < w.heap.size → k ≠ b1 → k ≠ b2 → w'.heap[k]? = w.heap[k]?
theorem K2.refl (b1 b2 : Nat) (w : World) : K2 b1 b2 w w := ⟨rfl, rfl, rfl, Nat.le_refl _, fun _ _ _ _ => rfl⟩
theorem K2.below {b1 b2 : Nat} {w w1 w2 : World} (h : K2 b1 b2 w w1) (k : Below w1.heap.size w1 w2) : K2 b1 b2 w w2 :=
  ⟨k.os.trans h.os, k.tape.trans h.tape, k.output.trans h.output, Nat.le_trans h.size k.size, fun i hi h1 h2 => (k.block i (Nat.lt_of_lt_of_le hi h.size)).trans (h.block i hi h1 h2)⟩
theorem K2.grown {b1 b2 b : Nat} {w w1 w2 : World} (h : K2 b1 b2 w w1) (k : w1.grownBy w2 (some b)) (hb : b = b1 ∨ b = b2) : K2 b1 b2 w w2 :=
  ⟨k.os.trans h.os, k.tape.trans h.tape, k.output.trans h.output, Nat.le_trans h.size k.size, fun i hi h1 h2 => (k.block i (Nat.lt_of_lt_of_le hi h.size) (fun e => by injection e with e; rcases hb with rfl | rfl; exact h1 e; exact h2 e)).trans (h.block i hi h1 h2)⟩
theorem K2.cell {b1 b2 : Nat} {w w' : World} (h : K2 b1 b2 w w') {a : Addr} {v : Value} (hc : w.cell? a = some v) (h1 : a.block ≠ b1) (h2 : a.block ≠ b2) : w'.cell? a = some v := by
  have := h.block a.block (World.block_lt_of_cell? w a hc) h1 h2
  simpa [World.cell?, this] using hc
theorem K2.toBelow {b1 b2 B : Nat} {w0 w w' : World} (hb : Below B w0 w) (h : K2 b1 b2 w w') (hB : B ≤ w.heap.size) (h1 : B ≤ b1) (h2 : B ≤ b2) : Below B w0 w' :=
  hb.trans ⟨h.os, h.tape, h.output, h.size, fun i hi => h.block i (Nat.lt_of_lt_of_le hi hB) (by omega) (by omega)⟩
theorem smalls_Sm {l : List SOp} (h : smalls l = true) : ∀ o ∈ l, Sm o := by
  unfold smalls SmB at h
  simp only [Bool.and_eq_true, decide_eq_true_eq, List.all_eq_true] at h
  intro o ho
  have := h.2 o ho
  exact ⟨by omega, by omega⟩
theorem opOk_gone200 {o : SOp} (h : opOk o = true) : o.f5.length ≤ 200 := by
  rcases opOk_kinds h with ⟨_, h2⟩ | ⟨_, h2⟩
  · unfold editOk goneOk at h2
    simp only [Bool.and_eq_true, decide_eq_true_eq] at h2
    omega
  · unfold toggleOk at h2
    simp only [Bool.and_eq_true, List.isEmpty_iff] at h2
    rw [h2.2]; simp
theorem gone_in {o : SOp} (h : opOk o = true) : ∀ e ∈ o.f5, inI e.f0 ∧ inI e.f1 ∧ inI e.f2 := by
  intro e he
  obtain ⟨hb, hk, _⟩ := opOk_goneMem h e he
  obtain ⟨i0, i1⟩ := elemOk_in hk hb
  have := elemOk_pos hk hb
  exact ⟨i0, i1, by unfold inI; omega⟩
theorem chain_in {o : SOp} (h : opOk o = true) : ∀ e ∈ chainE o, inI e.f0 ∧ inI e.f1 ∧ inI e.f2 := by
  intro e he
  obtain ⟨e0, e1, h2, h3⟩ := (mem_chain o e).1 he
  have hn := opOk_name h
  have hs := (opOk_size2 h).1
  rw [← e0, ← e1]
  exact ⟨hn.1, hn.2, by unfold inI; omega⟩
theorem K2.trans {b1 b2 : Nat} {w w1 w2 : World} (h : K2 b1 b2 w w1) (k : K2 b1 b2 w1 w2) : K2 b1 b2 w w2 :=
  ⟨k.os.trans h.os, k.tape.trans h.tape, k.output.trans h.output, Nat.le_trans h.size k.size, fun i hi h1 h2 => (k.block i (Nat.lt_of_lt_of_le hi h.size) h1 h2).trans (h.block i hi h1 h2)⟩
theorem ord_in {l : List SOp} (h : RowOk l) : ∀ e, e ∈ ordL l → inI e.f0 ∧ inI e.f1 ∧ inI e.f2 := by
  intro e he
  obtain ⟨p, hp, e0, e1, h2, h3⟩ := (mem_ordL h e).1 he
  exact chain_in (h.oks p hp) e ((mem_chain p e).2 ⟨e0, e1, h2, h3⟩)
theorem mk_runE (t : TypeId) (w : World) : (Instr.makeMap t none).run Try.prog w = .ok (.map (some w.heap.size)) (w.alloc (.map #[] 0)) := rfl
theorem seen_start (w : World) : Below w.heap.size w ((((w.alloc (.map #[] 0)).alloc (.cells #[.map (some w.heap.size)] 85)).alloc (.map #[] 0)).alloc (.cells #[.map (some (w.heap.size + 1 + 1))] 85)) ∧
    MapE ((((w.alloc (.map #[] 0)).alloc (.cells #[.map (some w.heap.size)] 85)).alloc (.map #[] 0)).alloc (.cells #[.map (some (w.heap.size + 1 + 1))] 85)) w.heap.size 0 (fun _ => false) ∧
    MapE ((((w.alloc (.map #[] 0)).alloc (.cells #[.map (some w.heap.size)] 85)).alloc (.map #[] 0)).alloc (.cells #[.map (some (w.heap.size + 1 + 1))] 85)) (w.heap.size + 1 + 1) 0 (fun _ => false) ∧
    (((((w.alloc (.map #[] 0)).alloc (.cells #[.map (some w.heap.size)] 85)).alloc (.map #[] 0)).alloc (.cells #[.map (some (w.heap.size + 1 + 1))] 85)).cell? ⟨w.heap.size + 1, 0, none⟩ = some (.map (some w.heap.size)) ∧
      ((((w.alloc (.map #[] 0)).alloc (.cells #[.map (some w.heap.size)] 85)).alloc (.map #[] 0)).alloc (.cells #[.map (some (w.heap.size + 1 + 1))] 85)).cell? ⟨w.heap.size + 1 + 1 + 1, 0, none⟩ = some (.map (some (w.heap.size + 1 + 1)))) ∧
    ((((w.alloc (.map #[] 0)).alloc (.cells #[.map (some w.heap.size)] 85)).alloc (.map #[] 0)).alloc (.cells #[.map (some (w.heap.size + 1 + 1))] 85)).heap.size = w.heap.size + 4 := by
  have m1 : MapE (w.alloc (.map #[] 0)) w.heap.size 0 (fun _ => false) := MapB.made _ _ _ _
  have m1' := m1.kept (World.grownBy_alloc _ (.cells #[.map (some w.heap.size)] 85) none) (by simp)
  have hs2 : ((w.alloc (.map #[] 0)).alloc (.cells #[.map (some w.heap.size)] 85)).heap.size = w.heap.size + 1 + 1 := by simp
  have hb2 : Below w.heap.size w ((w.alloc (.map #[] 0)).alloc (.cells #[.map (some w.heap.size)] 85)) := below_alloc (below_alloc (Below.refl _ _) _) _
  have hc2 : ((w.alloc (.map #[] 0)).alloc (.cells #[.map (some w.heap.size)] 85)).cell? ⟨w.heap.size + 1, 0, none⟩ = some (.map (some w.heap.size)) := top_cell _ _ _ _ 0 (by simp)
  generalize (w.alloc (.map #[] 0)).alloc (.cells #[.map (some w.heap.size)] 85) = w2 at m1' hs2 hb2 hc2 ⊢
  have m2 : MapE (w2.alloc (.map #[] 0)) (w.heap.size + 1 + 1) 0 (fun _ => false) := by
    have := MapB.made encE 36 4 w2; rw [hs2] at this; exact this
  have m1'' := m1'.kept (World.grownBy_alloc _ (.map #[] 0) none) (by simp)
  have hs3 : (w2.alloc (.map #[] 0)).heap.size = w.heap.size + 1 + 1 + 1 := by simp [hs2]
  have hb3 := below_alloc hb2 (.map #[] 0)
  have hc3 := pw_cell_below (below_alloc (Below.refl w2.heap.size w2) (.map #[] 0)) hc2
  generalize w2.alloc (.map #[] 0) = w3 at m1'' m2 hs3 hb3 hc3 ⊢
  have m1a := m1''.kept (World.grownBy_alloc _ (.cells #[.map (some (w.heap.size + 1 + 1))] 85) none) (by simp)
  have m2a := m2.kept (World.grownBy_alloc _ (.cells #[.map (some (w.heap.size + 1 + 1))] 85) none) (by simp)
  exact ⟨below_alloc hb3 _, m1a, m2a, ⟨pw_cell_below (below_alloc (Below.refl w3.heap.size w3) _) hc3, top_cell _ _ _ _ 0 hs3⟩, by simp [hs3]⟩
def doc_Seen.f (l0 : List (SOp)) : Option ((List (SElem))) := if smalls l0 = true ∧ mayB l0 = true then some (seenL l0) else none
set_option maxHeartbeats 4000000 in
set_option maxRecDepth 1000000 in
theorem doc_Seen.calls (A0 : Option Addr) (c0 : Nat) (l0 : List (SOp)) (r : List (SElem)) (w : World) (hr0 : Kd.C kOp w A0 l0.length l0) (hc0 : l0.length ≤ c0) (h : doc_Seen.f l0 = some r) :
    Calls Try.prog 34 #[.slice A0 l0.length c0] w fun e w' => ∃ v0_ : Value, e = .returned (v0_) ∧ Kd.R kElem 36 w' w.heap.size (fun _ => True) v0_ r ∧ Below w.heap.size w w' := by
  unfold doc_Seen.f at h
  split at h
  case isFalse => cases h
  rename_i hsm
  obtain ⟨hs, hm⟩ := hsm
  obtain rfl := Option.some.inj h
  have hrow := (mayB_iff l0).1 hm
  obtain ⟨kw, hkw⟩ := Ev.rounds (Works_ev hrow)
  have HR0 := Aside0.mk hr0
  have HC0 := Aside0.mk hc0
  have HW := Aside0.mk (fun (W : World) (hb : Below w.heap.size w W) => doc_Works.calls kw A0 c0 l0 (worksL l0) W (Kd.C_below hr0 hb) hc0 hkw)
  have HROW := Aside0.mk hrow
  have HSM := Aside0.mk hs
  clear hr0 hc0 h hm hs hkw hrow
  go_enter Try.func34, Try.ntmps34
  have mk1 := fun w => mk_runE 85 w
  obtain ⟨s0, s1, s2, s3, s4⟩ := seen_start w
  have S1 := Aside0.mk s1
  have S2 := Aside0.mk s2
  have hW4 := HW.out _ s0
  have S0 := Aside0.mk s0
  have HW4 := Aside0.mk hW4
  have S3 := Aside0.mk s3
  have S4 := Aside0.mk s4
  clear s0 s1 s2 s3 s4 hW4 HW
  go_wp2_with fail
  refine HW4.out.mono ?_
  rintro e wW ⟨vW, rfl, hRW, hbW⟩
  obtain ⟨HBW, M1, M2, c1, c2, lW⟩ : Aside0 (Below w.heap.size w wW) ∧ Aside0 (MapE wW w.heap.size 0 (fun _ => false)) ∧ Aside0 (MapE wW (w.heap.size + 1 + 1) 0 (fun _ => false)) ∧ wW.cell? ⟨w.heap.size + 1, 0, none⟩ = some (.map (some w.heap.size)) ∧ wW.cell? ⟨w.heap.size + 1 + 1 + 1, 0, none⟩ = some (.map (some (w.heap.size + 1 + 1))) ∧ w.heap.size + 4 ≤ wW.heap.size := by
    refine ⟨⟨below_step S0.out hbW⟩, ⟨S1.out.below hbW S1.out.lt⟩, ⟨S2.out.below hbW S2.out.lt⟩, pw_cell_below hbW S3.out.1, pw_cell_below hbW S3.out.2, ?_⟩
    have := hbW.size; rw [S4.out] at this; exact this
  have hRW2 := Kd.R_mono (Kd.R_bound hRW) (ok' := fun k => k ≠ w.heap.size ∧ k ≠ w.heap.size + 1 + 1) (fun k hk => by have := hk.2.1; rw [S4.out] at this; exact ⟨by omega, by omega⟩)
  have hlW : (worksL l0).length = l0.length := by simp [worksL]
  obtain ⟨AW, cW, rfl, hcW, _⟩ := Kd.R_reads hRW2
  rw [hlW] at hcW ⊢
  have HCW := Aside0.mk (fun (wr : World) (hk : K2 w.heap.size (w.heap.size + 1 + 1) wW wr) => (Kd.R_reads' (Kd.R_step hRW2 (fun k ho hlt => hk.block k hlt ho.1 ho.2))).2.2)
  have HC1 := Aside0.mk c1
  have HC2 := Aside0.mk c2
  have LW := Aside0.mk lW
  clear hRW hRW2 hbW c1 c2 lW S0 S1 S2 S3 S4 HW4 hcW mk1
  rw [hlW] at HCW
  clear hlW
  go_wp2
  go_loopg [16] l0.length (fun gg s16 wr => ∃ i : Nat, i ≤ l0.length ∧ l0.length - i ≤ gg ∧ s16 = .int .i64 i ∧ Aside0 (K2 w.heap.size (w.heap.size + 1 + 1) wW wr) ∧ Aside0 (∃ n1 n2, n1 ≤ 200 * i ∧ n2 ≤ 12 * i ∧ MapE wr w.heap.size n1 (goneS l0 (l0.take i)) ∧ MapE wr (w.heap.size + 1 + 1) n2 (theS l0 (l0.take i))))
  case atStart => exact ⟨0, Nat.zero_le _, by omega, rfl, ⟨K2.refl _ _ _⟩, ⟨0, 0, Nat.le_refl _, Nat.le_refl _, M1.out, M2.out⟩⟩
  case round =>
    clear M1 M2
    obtain ⟨i, hi, hgk, rfl, HK, HM⟩ := hrel
    have h40 := HROW.out.sums.1
    by_cases hlt : i < l0.length
    · obtain ⟨g', rfl⟩ : ∃ g', gk = g' + 1 := ⟨gk - 1, by omega⟩
      have hltz : (i : Int) < (l0.length : Int) := by omega
      have h0z : (0 : Int) ≤ (i : Int) := by omega
      obtain ⟨adW, rfl, xw⟩ := Kd.at_bool (HCW.out wr HK.out) (i : Int) h0z (by omega)
      simp only [Int.toNat_natCast] at xw
      have hrdw : rdOf false (worksL l0) (i : Int) = workE l0 l0[i] := by
        unfold rdOf worksL
        rw [Int.toNat_natCast, List.getD_eq_getElem?_getD, List.getElem?_map, List.getElem?_eq_getElem hlt]; rfl
      rw [hrdw] at xw
      cases hwk : workE l0 l0[i] with
      | false =>
        rw [hwk] at xw
        have HM2 := Aside0.mk (show ∃ n1 n2, n1 ≤ 200 * (i + 1) ∧ n2 ≤ 12 * (i + 1) ∧ MapE wr w.heap.size n1 (goneS l0 (l0.take (i + 1))) ∧ MapE wr (w.heap.size + 1 + 1) n2 (theS l0 (l0.take (i + 1))) by
          obtain ⟨n1, n2, h1, h2, h3, h4⟩ := HM.out
          rw [List.take_succ_eq_append_getElem hlt, goneS_snoc, theS_snoc, hwk]
          exact ⟨n1, n2, by omega, by omega, h3, h4⟩)
        clear hwk hrdw HM
        go_wp2
        go_roundg g'
        case measure => omega
        case rel => exact ⟨i + 1, by omega, by omega, by go_num, HK, HM2⟩
      | true =>
        rw [hwk] at xw
        have hoi := HROW.out.oks _ (List.getElem_mem hlt)
        have hSm := smalls_Sm HSM.out _ (List.getElem_mem hlt)
        obtain ⟨ad, A7, c7, rfl, x0, x1, x2, x3, x4, x5, x6, x7, x8, x9, x10, l7, g7⟩ := at_Op HR0.out (i : Int) h0z hltz
        have LW1 := LW.out
        have hbr : Below w.heap.size w wr := K2.toBelow HBW.out HK.out (by omega) (Nat.le_refl _) (by omega)
        simp only [Int.toNat_natCast, rd_Op_nat _ _ hlt] at x0 x1 x2 x3 x4 x5 x6 x7 x8 x9 x10 l7 g7
        generalize hoe : l0[i] = o at x0 x1 x2 x3 x4 x5 x6 x7 x8 x9 x10 l7 g7 hwk hoi hSm
        have HOE := Aside0.mk hoe
        have HWK := Aside0.mk hwk
        have HOI := Aside0.mk hoi
        have HSO := Aside0.mk hSm
        have HG7 := Aside0.mk g7
        have HL7 := Aside0.mk l7
        have HX := Aside0.mk (And.intro x0 (And.intro x1 (And.intro x2 (And.intro x3 (And.intro x4 (And.intro x5 (And.intro x6 (And.intro x7 (And.intro x8 (And.intro x9 x10))))))))))
        have e7 := pw_cell_below hbr x7
        have h200 := opOk_gone200 hoi
        clear x0 x1 x2 x3 x4 x5 x6 x7 x8 x9 x10 l7 g7 hwk hoi hSm hoe hrdw hbr
        go_wp2
        go_loopg [29] o.f5.length (fun gg s29 w' => ∃ j : Nat, j ≤ o.f5.length ∧ o.f5.length - j ≤ gg ∧ s29 = .int .i64 j ∧ Aside0 (K2 w.heap.size (w.heap.size + 1 + 1) wW w') ∧ Aside0 (∃ n1 n2, n1 ≤ 200 * i + j ∧ n2 ≤ 12 * i ∧ MapE w' w.heap.size n1 (addS (goneS l0 (l0.take i)) (o.f5.take j)) ∧ MapE w' (w.heap.size + 1 + 1) n2 (theS l0 (l0.take i))))
        case atStart =>
          obtain ⟨n1, n2, h1, h2, h3, h4⟩ := HM.out
          exact ⟨0, Nat.zero_le _, by omega, rfl, HK, ⟨n1, n2, by omega, by omega, by rw [List.take_zero, addS_nil]; exact h3, h4⟩⟩
        case round =>
          clear HM HK xw e7
          obtain ⟨j, hj, hgk2, rfl, HK, HM⟩ := hrel
          by_cases hjl : j < o.f5.length
          · obtain ⟨g2, rfl⟩ : ∃ g2, gk = g2 + 1 := ⟨gk - 1, by omega⟩
            have hjz : (j : Int) < (o.f5.length : Int) := by omega
            have hj0 : (0 : Int) ≤ (j : Int) := by omega
            have hbr : Below w.heap.size w wr := K2.toBelow HBW.out HK.out (by omega) (Nat.le_refl _) (by omega)
            obtain ⟨ad7, rfl, y0, y1, y2⟩ := at_Elem (Kd.C_below HG7.out hbr) (j : Int) hj0 hjz
            simp only [Int.toNat_natCast, rd_Elem_nat _ _ hjl] at y0 y1 y2
            have hxi := gone_in HOI.out _ (List.getElem_mem hjl)
            have hsn := addS_snoc (goneS l0 (l0.take i)) (o.f5.take j) o.f5[j]
            rw [← List.take_succ_eq_append_getElem hjl] at hsn
            generalize o.f5[j] = x at y0 y1 y2 hxi hsn
            obtain ⟨n1, n2, h1, h2, h3, h4⟩ := HM.out
            have hal : Below wr.heap.size wr (wr.alloc (.cells #[.int .i64 x.f0, .int .i64 x.f1, .int .i64 x.f2] 36)) := below_alloc (Below.refl _ _) _
            obtain ⟨kl, hkl⟩ := keyE (x := (x.f0, x.f1, x.f2)) hxi.1 hxi.2.1 hxi.2.2
            obtain ⟨w6, hrun, hm6, hg6⟩ := (h3.below hal h3.lt).store lawE Try.underlying85 Try.underlying4 (Nat.lt_of_le_of_lt (m := 10000) (by omega) (by decide)) encE_inj (x.f0, x.f1, x.f2) hkl
            rw [hsn] at hm6
            simp only [encE] at hrun
            have q1 := pw_cell_below hal (HK.out.cell HC1.out (by simp) (by simp))
            have HK6 := Aside0.mk ((HK.out.below hal).grown hg6 (.inl rfl))
            have HM6 := Aside0.mk (show ∃ n1 n2, n1 ≤ 200 * i + (j + 1) ∧ n2 ≤ 12 * i ∧ MapE w6 w.heap.size n1 (addS (goneS l0 (l0.take i)) (o.f5.take (j + 1))) ∧ MapE w6 (w.heap.size + 1 + 1) n2 (theS l0 (l0.take i)) from
              ⟨n1 + 1, n2, by omega, h2, hm6, (h4.below hal h4.lt).kept hg6 (fun e => by injection e with e; omega)⟩)
            clear h1 h2 h3 h4 hm6 hg6 hsn hxi hkl hal hbr HM HK
            go_wp2
            go_roundg g2
            case measure => omega
            case rel => exact ⟨j + 1, by omega, by omega, by go_num, HK6, HM6⟩
          · obtain rfl : j = o.f5.length := by omega
            have hjz : ¬ (o.f5.length : Int) < (o.f5.length : Int) := by omega
            have hbr : Below w.heap.size w wr := K2.toBelow HBW.out HK.out (by omega) (Nat.le_refl _) (by omega)
            obtain ⟨x0, x1, x2, x3, x4, x5, x6, x7, x8, x9, x10⟩ := HX.out
            replace x0 := pw_cell_below hbr x0
            replace x1 := pw_cell_below hbr x1
            replace x2 := pw_cell_below hbr x2
            replace x3 := pw_cell_below hbr x3
            replace x4 := pw_cell_below hbr x4
            replace x5 := pw_cell_below hbr x5
            replace x6 := pw_cell_below hbr x6
            replace x7 := pw_cell_below hbr x7
            replace x8 := pw_cell_below hbr x8
            replace x9 := pw_cell_below hbr x9
            replace x10 := pw_cell_below hbr x10
            have hsz := (opOk_size2 HOI.out).1
            obtain ⟨ka, hka⟩ := Ev.rounds (All_ev o HSO.out (by omega))
            have HAL := Aside0.mk (op_All.calls ka o.f0 o.f1 o.f2 o.f3.f0 o.f3.f1 o.f3.f2 o.f4 A7 c7 o.f5 o.f6 o.f7 o.f8 (chainE o) wr (Kd.C_below HG7.out hbr) HL7.out hka)
            have HSZ := Aside0.mk hsz
            clear hbr hka hsz
            go_wp2_with fail
            refine HAL.out.mono ?_
            rintro e wA ⟨vA, rfl, hRA, hbA⟩
            have hsr := HK.out.size
            have hRA2 := Kd.R_mono (Kd.R_bound hRA) (ok' := fun k => k ≠ w.heap.size ∧ k ≠ w.heap.size + 1 + 1) (fun k hk => by have := hk.2.1; exact ⟨by omega, by omega⟩)
            have hlA : (chainE o).length = sizeOf' o := chain_length o
            obtain ⟨AA, cA, rfl, hcA, _⟩ := Kd.R_reads hRA2
            have HCA := Aside0.mk (fun (w' : World) (hk : K2 w.heap.size (w.heap.size + 1 + 1) wA w') => (Kd.R_reads' (Kd.R_step hRA2 (fun k ho hlt => hk.block k hlt ho.1 ho.2))).2.2)
            have HKA := Aside0.mk (HK.out.below hbA)
            have HMA := Aside0.mk (show ∃ n1 n2, n1 ≤ 200 * i + o.f5.length ∧ n2 ≤ 12 * i ∧ MapE wA w.heap.size n1 (addS (goneS l0 (l0.take i)) o.f5) ∧ MapE wA (w.heap.size + 1 + 1) n2 (theS l0 (l0.take i)) by
              obtain ⟨n1, n2, h1, h2, h3, h4⟩ := HM.out
              rw [List.take_length] at h3
              exact ⟨n1, n2, h1, h2, h3.below hbA h3.lt, h4.below hbA h4.lt⟩)
            have HLA := Aside0.mk (show (chainE o).length ≤ 12 by rw [hlA]; exact HSZ.out)
            clear hRA hRA2 hlA hcA hbA HAL HK HM x0 x1 x2 x3 x4 x5 x6 x7 x8 x9 x10 hsr
            go_wp2
            go_loopg [42] (chainE o).length (fun gg s42 w' => ∃ j : Nat, j ≤ (chainE o).length ∧ (chainE o).length - j ≤ gg ∧ s42 = .int .i64 j ∧ Aside0 (K2 w.heap.size (w.heap.size + 1 + 1) wA w') ∧ Aside0 (∃ n1 n2, n1 ≤ 200 * (i + 1) ∧ n2 ≤ 12 * i + j ∧ MapE w' w.heap.size n1 (addS (goneS l0 (l0.take i)) o.f5) ∧ MapE w' (w.heap.size + 1 + 1) n2 (addS (theS l0 (l0.take i)) ((chainE o).take j))))
            case atStart =>
              obtain ⟨n1, n2, h1, h2, h3, h4⟩ := HMA.out
              exact ⟨0, Nat.zero_le _, by omega, rfl, ⟨K2.refl _ _ _⟩, ⟨n1, n2, by omega, by omega, h3, by rw [List.take_zero, addS_nil]; exact h4⟩⟩
            case round =>
              clear HMA
              obtain ⟨j, hj, hgk2, rfl, HK, HM⟩ := hrel
              have hcl := HLA.out
              by_cases hjl : j < (chainE o).length
              · obtain ⟨g2, rfl⟩ : ∃ g2, gk = g2 + 1 := ⟨gk - 1, by omega⟩
                have hjz : (j : Int) < ((chainE o).length : Int) := by omega
                have hj0 : (0 : Int) ≤ (j : Int) := by omega
                obtain ⟨ad7, rfl, y0, y1, y2⟩ := at_Elem (HCA.out wr HK.out) (j : Int) hj0 hjz
                simp only [Int.toNat_natCast, rd_Elem_nat _ _ hjl] at y0 y1 y2
                have hxi := chain_in HOI.out _ (List.getElem_mem hjl)
                have hsn := addS_snoc (theS l0 (l0.take i)) ((chainE o).take j) (chainE o)[j]
                rw [← List.take_succ_eq_append_getElem hjl] at hsn
                generalize (chainE o)[j] = x at y0 y1 y2 hxi hsn
                obtain ⟨n1, n2, h1, h2, h3, h4⟩ := HM.out
                have hal : Below wr.heap.size wr (wr.alloc (.cells #[.int .i64 x.f0, .int .i64 x.f1, .int .i64 x.f2] 36)) := below_alloc (Below.refl _ _) _
                obtain ⟨kl, hkl⟩ := keyE (x := (x.f0, x.f1, x.f2)) hxi.1 hxi.2.1 hxi.2.2
                obtain ⟨w6, hrun, hm6, hg6⟩ := (h4.below hal h4.lt).store lawE Try.underlying85 Try.underlying4 (Nat.lt_of_le_of_lt (m := 10000) (by omega) (by decide)) encE_inj (x.f0, x.f1, x.f2) hkl
                rw [hsn] at hm6
                simp only [encE] at hrun
                have q1 := pw_cell_below hal (HK.out.cell (HKA.out.cell HC2.out (by show w.heap.size + 1 + 1 + 1 ≠ _; omega) (by show w.heap.size + 1 + 1 + 1 ≠ _; omega)) (by show w.heap.size + 1 + 1 + 1 ≠ _; omega) (by show w.heap.size + 1 + 1 + 1 ≠ _; omega))
                have HK6 := Aside0.mk ((HK.out.below hal).grown hg6 (.inr rfl))
                have HM6 := Aside0.mk (show ∃ n1 n2, n1 ≤ 200 * (i + 1) ∧ n2 ≤ 12 * i + (j + 1) ∧ MapE w6 w.heap.size n1 (addS (goneS l0 (l0.take i)) o.f5) ∧ MapE w6 (w.heap.size + 1 + 1) n2 (addS (theS l0 (l0.take i)) ((chainE o).take (j + 1))) from
                  ⟨n1, n2 + 1, h1, by omega, (h3.below hal h3.lt).kept hg6 (fun e => by injection e with e; omega), hm6⟩)
                clear h1 h2 h3 h4 hm6 hg6 hsn hxi hkl hal HM HK
                go_wp2
                go_roundg g2
                case measure => omega
                case rel => exact ⟨j + 1, by omega, by omega, by go_num, HK6, HM6⟩
              · obtain rfl : j = (chainE o).length := by omega
                have hjz : ¬ ((chainE o).length : Int) < ((chainE o).length : Int) := by omega
                have HK8 := Aside0.mk (K2.trans HKA.out HK.out)
                have HM8 := Aside0.mk (show ∃ n1 n2, n1 ≤ 200 * (i + 1) ∧ n2 ≤ 12 * (i + 1) ∧ MapE wr w.heap.size n1 (goneS l0 (l0.take (i + 1))) ∧ MapE wr (w.heap.size + 1 + 1) n2 (theS l0 (l0.take (i + 1))) by
                  obtain ⟨n1, n2, h1, h2, h3, h4⟩ := HM.out
                  rw [List.take_length] at h4
                  rw [List.take_succ_eq_append_getElem hlt, HOE.out, goneS_snoc, theS_snoc, HWK.out]
                  exact ⟨n1, n2, h1, by omega, h3, h4⟩)
                clear HK HM
                go_wp2
                go_roundg g'
                case measure => omega
                case rel => exact ⟨i + 1, by omega, by omega, by go_num, HK8, HM8⟩
    · obtain rfl : i = l0.length := by omega
      have hltz : ¬ (l0.length : Int) < (l0.length : Int) := by omega
      have LW1 := LW.out
      have hbr : Below w.heap.size w wr := K2.toBelow HBW.out HK.out (by omega) (Nat.le_refl _) (by omega)
      have HAL := Aside0.mk (tree_All.calls A0 c0 l0 (ordL l0) wr (Kd.C_below HR0.out hbr) HC0.out (tree_All_f HSM.out HROW.out))
      have HBR := Aside0.mk hbr
      clear hbr
      go_wp2_with fail
      refine HAL.out.mono ?_
      rintro e wA ⟨vA, rfl, hRA, hbA⟩
      obtain ⟨AA, cA, rfl⟩ := Kd.R_slice hRA
      have hsr := HK.out.size
      have hlen : (ordL l0).length ≤ 200 := by rw [(ordL_nodup HROW.out).2]; exact HROW.out.sums.2
      have hown := Kd.R_base hRA
      have hD := DeleteFuncElem 57 #[.pointer (some ⟨w.heap.size + 1, 0, none⟩), .pointer (some ⟨w.heap.size + 1 + 1 + 1, 0, none⟩)] wr.heap.size cA AA (ordL l0) (fun x => goneS l0 l0 (x.f0, x.f1, x.f2) || !theS l0 l0 (x.f0, x.f1, x.f2)) wA
        (enters_at Try.func57 (by kernel_rfl) rfl) (by omega) hRA (fun W x hx hg => by
          obtain ⟨n1, n2, h1, h2, h3, h4⟩ := HM.out
          rw [List.take_length] at h3 h4
          have a3 := (h3.below hbA h3.lt).kept hg (fun e => by have := hown _ e.symm; omega)
          have a4 := (h4.below hbA h4.lt).kept hg (fun e => by have := hown _ e.symm; omega)
          have k1 := pw_cell_below hbA (HK.out.cell HC1.out (by show w.heap.size + 1 ≠ _; omega) (by show w.heap.size + 1 ≠ _; omega))
          have k2 := pw_cell_below hbA (HK.out.cell HC2.out (by show w.heap.size + 1 + 1 + 1 ≠ _; omega) (by show w.heap.size + 1 + 1 + 1 ≠ _; omega))
          have k1' := cell_grown hg (fun e => by have := hown _ e.symm; simp only at this; omega) k1
          have k2' := cell_grown hg (fun e => by have := hown _ e.symm; simp only at this; omega) k2
          exact seen1_calls _ _ _ _ n1 n2 x _ _ W k1' k2' a3 a4 (ord_in HROW.out x hx))
      have HD := Aside0.mk hD
      have HBA := Aside0.mk (below_step HBR.out hbA)
      have HOWN := Aside0.mk hown
      have HSZ := Aside0.mk hbA.size
      clear hD hRA hbA hown
      go_wp2_with fail
      refine HD.out.mono ?_
      rintro e w2 ⟨v, rfl, hRv, hgv⟩
      have HRV := Aside0.mk hRv
      have HGV := Aside0.mk hgv
      clear hRv hgv
      go_wp2
      go_ret
      have hz := HBR.out.size
      have hzA := HSZ.out
      refine ⟨_, rfl, Kd.R_lower HRV.out hz, pw_below_grown HBA.out _ HBA.out.size HGV.out (fun k hk => by have := HOWN.out k hk; omega)⟩
end Go.Proofs.Ytonoaflfobajcaa.L
end

section
namespace Go.Proofs.Ytonoaflfobajcaa.L
open Go.RowKit Go.Proofs.YtonoaflfobajcaaW.PrintWords Go.Proofs.YtonoaflfobajcaaW.PrintLast Go.Proofs.YtonoaflfobajcaaW.PrintMore
def t_doc_At.T1 : Bool × List (List Nat × List Nat) := (true, [([], []), ([], []), ([], []), ([2], [2]), ([], []), ([4], [4]), ([1, 3, 5], [1, 3, 5]), ([0, 6], [0, 6]), ([7], [7]), ([8], [8]), ([9], [9]), ([], []), ([11], [11]), ([10, 12], [10, 12]), ([13], [13]), ([14, 6, 0, 1, 2, 3, 4, 5, 6, 7, 8, 9, 10, 11, 12, 13, 14], [14])])
def t_doc_At.B1 : List Nat := [0, 0, 0, 4, 0, 16, 62, 127, 255, 511, 1023, 0, 2048, 8191, 16383, 32767]
theorem t_doc_At.tab1 : rtab .any (opsOf Try.f36 1) = t_doc_At.T1 := by kernel_rfl
theorem t_doc_At.bits1 : waitsOk t_doc_At.T1.2 t_doc_At.B1 = true := by kernel_rfl
def t_doc_Idle.T3 : Bool × List (List Nat × List Nat) := (true, [([], []), ([0], [0]), ([1], [1]), ([2], [2]), ([3], [3]), ([4, 3], [3, 4]), ([3], [3]), ([6, 3, 3], [3, 6]), ([3], [3]), ([3], [3]), ([9, 3], [3, 9]), ([3], [3]), ([11, 3], [3, 11]), ([8, 10, 12, 7, 3], [3, 8, 10, 12]), ([7, 13, 3], [3, 7, 13]), ([14, 3], [3, 14]), ([5, 15, 3], [3, 5, 15]), ([3, 16], [3, 16]), ([17, 13, 0, 1, 2, 3, 4, 5, 6, 7, 8, 9, 10, 11, 12, 13, 14, 15, 16, 17], [17]), ([18, 0, 1, 2, 3, 4, 5, 6, 7, 8, 9, 10, 11, 12, 13, 14, 15, 16, 17, 18], [])])
def t_doc_Idle.B3 : List Nat := [0, 1, 3, 7, 15, 31, 15, 79, 15, 15, 527, 15, 2063, 8143, 16335, 32719, 65535, 131071, 262143, 524287]
theorem t_doc_Idle.tab3 : rtab .any (opsOf Try.f12 3) = t_doc_Idle.T3 := by kernel_rfl
theorem t_doc_Idle.bits3 : waitsOk t_doc_Idle.T3.2 t_doc_Idle.B3 = true := by kernel_rfl
end Go.Proofs.Ytonoaflfobajcaa.L
end

section
namespace Go.Proofs.Ytonoaflfobajcaa.L
open Go.RowKit Go.Proofs.YtonoaflfobajcaaW.PrintWords Go.Proofs.YtonoaflfobajcaaW.PrintLast Go.Proofs.YtonoaflfobajcaaW.PrintMore
set_option linter.unusedVariables false
set_option linter.unusedSimpArgs false
theorem runesFrom_eq (s : ByteArray) : ∀ (n i : Nat) (acc : Array Value), Conv.runesFrom s n i acc = acc ++ ((decFrom s n i).map (Value.int .i32)).toArray
  | 0, i, acc => by simp [Conv.runesFrom, decFrom]
  | n + 1, i, acc => by
    unfold Conv.runesFrom decFrom
    by_cases h : i < s.size
    · rw [if_pos h, if_pos h]
      refine (runesFrom_eq s n (i + (Utf8.decode s i).2) (acc.push (.int .i32 ((Utf8.decode s i).1 : Int)))).trans ?_
      simp
    · rw [if_neg h, if_neg h]; simp
theorem runesFrom_all (s : ByteArray) : Conv.runesFrom s s.size 0 #[] = ((runesOf s).map (Value.int .i32)).toArray := by rw [runesFrom_eq]; simp [runesOf]
def doc_At.f (l0 : List (SOp)) (a1_0 : Int) (a1_1 : Int) (a1_2 : Int) : Option (Int) :=
  if l0.length ≤ 1000000 ∧ 0 ≤ findOp l0 a1_0 a1_1 ∧ 0 ≤ a1_2 ∧ a1_2 < (sizeOf' (rd_Op l0 (findOp l0 a1_0 a1_1)) : Int) ∧ sizeOf' (rd_Op l0 (findOp l0 a1_0 a1_1)) ≤ 1000000 then some ((runesOf (rd_Op l0 (findOp l0 a1_0 a1_1)).f4).getD a1_2.toNat 0) else none
set_option maxHeartbeats 4000000 in
set_option maxRecDepth 1000000 in
theorem doc_At.calls (A0 : Option Addr) (c0 : Nat) (l0 : List (SOp)) (a1_0 : Int) (a1_1 : Int) (a1_2 : Int) (r : Int) (w : World) (hr0 : Kd.C kOp w A0 l0.length l0) (hc0 : l0.length ≤ c0) (h : doc_At.f l0 a1_0 a1_1 a1_2 = some r) :
    Calls Try.prog 36 #[.slice A0 l0.length c0, .agg #[.int .i64 a1_0, .int .i64 a1_1, .int .i64 a1_2]] w fun e w' => e = .returned (.int .i32 r) ∧ Below w.heap.size w w' := by
  unfold doc_At.f at h
  split at h
  case isFalse => cases h
  rename_i hq
  obtain ⟨hl, hf0, h2, h3, h4⟩ := hq
  obtain rfl := Option.some.inj h
  clear h
  obtain ⟨i, hi, hfi⟩ : ∃ i, i < l0.length ∧ findOp l0 a1_0 a1_1 = (i : Int) := by
    rcases findOp_cases l0 a1_0 a1_1 with ⟨i, hi, _, _, _, e⟩ | ⟨_, e⟩
    · exact ⟨i, hi, e⟩
    · omega
  have hcF := fun W (hb : Below w.heap.size w W) => tree_Find.calls A0 c0 l0 a1_0 a1_1 (i : Int) W (Kd.C_below hr0 hb) hc0 (by rw [tree_Find_f hl, hfi])
  rw [hfi] at h3 h4 ⊢
  have hi0 : (0 : Int) ≤ (i : Int) := by omega
  have hi1 : (i : Int) < (l0.length : Int) := by omega
  obtain ⟨ad, A7, c7, rfl, x0, x1, x2, x3, x4, x5, x6, x7, x8, x9, x10, l7, g7⟩ := at_Op hr0 (i : Int) hi0 hi1
  simp only [Int.toNat_natCast] at x6
  generalize rd_Op l0 (i : Int) = o at x6 h3 h4 ⊢
  clear x0 x1 x2 x3 x4 x5 x7 x8 x9 x10 l7 g7 hr0 hf0 hfi hi hl
  have HF := Aside0.mk hcF
  clear hcF
  obtain ⟨j, rfl⟩ : ∃ j : Nat, a1_2 = (j : Int) := ⟨a1_2.toNat, by omega⟩
  have hj : j < (runesOf o.f4).length := by have : sizeOf' o = (runesOf o.f4).length := rfl; omega
  rw [Int.toNat_natCast]
  generalize hrv : (runesOf o.f4).getD j 0 = rv
  have HRV := Aside0.mk hrv
  clear hrv
  have hru := Try.underlying9
  have hrs := Try.underlying83
  have hri := Try.underlying21
  have hal : Below w.heap.size w (w.alloc (.cells #[.int .i64 a1_0, .int .i64 a1_1, .int .i64 (j : Int)] 36)) := below_alloc (Below.refl _ _) _
  have y6 := pw_cell_below hal x6
  have b0 : (w.alloc (.cells #[.int .i64 a1_0, .int .i64 a1_1, .int .i64 (j : Int)] 36)).cell? ⟨w.heap.size, 0, none⟩ = some (.int .i64 a1_0) := by simp
  have b1 : (w.alloc (.cells #[.int .i64 a1_0, .int .i64 a1_1, .int .i64 (j : Int)] 36)).cell? ⟨w.heap.size, 1, none⟩ = some (.int .i64 a1_1) := by simp
  have b2 : (w.alloc (.cells #[.int .i64 a1_0, .int .i64 a1_1, .int .i64 (j : Int)] 36)).cell? ⟨w.heap.size, 2, none⟩ = some (.int .i64 (j : Int)) := by simp
  have HAL := Aside0.mk hal
  have HB3 := Aside0.mk h3
  have HB4 := Aside0.mk h4
  clear hal x6 h3 h4 h2
  go_enter Try.func36, Try.ntmps36
  go_wp2_with fail
  refine stL (S := fun w' => w'.cell? ⟨w.heap.size, 0, none⟩ = some (.int .i64 a1_0) ∧ w'.cell? ⟨w.heap.size, 1, none⟩ = some (.int .i64 a1_1) ∧ w'.cell? ⟨w.heap.size, 2, none⟩ = some (.int .i64 (j : Int)) ∧ w'.cell? ⟨(ad.add (i * 11)).block, (ad.add (i * 11)).off + 6, none⟩ = some (.string o.f4)) [14] 16 t_doc_At.bits1 t_doc_At.tab1 (hS := ⟨b0, b1, b2, y6⟩) (h := fun hS HT HW => ?_)
  refine pu HT 0 5 1 (h := ?_)
  refine pu HT 1 6 3 (h := ?_)
  refine pu HT 2 7 7 (h := ?_)
  refine tk HT HW hS 3 8 15 (h := ?_)
  refine pu HT 4 9 31 (h := ?_)
  refine tk HT HW hS 5 10 63 (h := ?_)
  refine pu HT 11 16 2111 (h := ?_)
  refine tk HT HW hS 12 17 6207 (h := ?_)
  refine ca HT 6 (some 11) 6271 #[.slice (some ad) l0.length c0, .int .i64 a1_0, .int .i64 a1_1] Try.func33 (h := fun K hK => ?_)
  refine (HF.out _ (below_drew1 HAL.out)).mono ?_
  rintro e w3 ⟨rfl, hb3⟩
  refine ⟨_, rfl, ?_⟩
  refine hK.out _ _ ⟨pw_cell_below hb3 b0, pw_cell_below hb3 b1, pw_cell_below hb3 b2, pw_cell_below hb3 y6⟩ (fun hS => ?_)
  have HBW := Aside0.mk (below_step (below_drew1 HAL.out) hb3)
  clear hK hb3 b0 b1 b2 y6 HF
  refine nm (h := ?_)
  refine pu HT 7 12 6399 (h := ?_)
  refine pu HT 8 13 6655 (h := ?_)
  refine tk HT HW hS 9 14 7167 (h := ?_)
  have hcv := run_runes_of_string (P := Try.prog) w3 9 83 21 o.f4 hru hrs hri (by rw [runesFrom_all]; have hs : sizeOf' o = (runesOf o.f4).length := rfl; simp; have := HB4.out; omega)
  rw [runesFrom_all] at hcv
  have hcap := grownCap_ge w3 ((runesOf o.f4).map (Value.int .i32)).toArray.size 0 21
  generalize hgc : grownCap w3 ((runesOf o.f4).map (Value.int .i32)).toArray.size 0 21 = gc at hcv hcap
  have hsz : ((runesOf o.f4).map (Value.int .i32)).toArray.size = (runesOf o.f4).length := by simp
  rw [hsz] at hcv hcap
  have hcell : (w3.drew.alloc (.cells (((runesOf o.f4).map (Value.int .i32)).toArray ++ Array.replicate (gc - (runesOf o.f4).length) (.int .i32 0)) 21)).cell? ⟨w3.heap.size, j, none⟩ = some (.int .i32 rv) := by
    rw [← HRV.out]
    have := top_cell w3.drew (((runesOf o.f4).map (Value.int .i32)).toArray ++ Array.replicate (gc - (runesOf o.f4).length) (.int .i32 0)) 21 w3.heap.size j rfl
    rw [this, Array.getElem?_append_left (by simp; exact hj)]
    simp [List.getD_eq_getElem?_getD, hj]
  have HBE := Aside0.mk (below_step HBW.out (below_alloc (below_drew1 (Below.refl w3.heap.size w3)) (.cells (((runesOf o.f4).map (Value.int .i32)).toArray ++ Array.replicate (gc - (runesOf o.f4).length) (.int .i32 0)) 21)))
  have hjz : (j : Int) < ((runesOf o.f4).length : Int) := by omega
  have hj0 : (0 : Int) ≤ (j : Int) := by omega
  have hbv := below_alloc (below_drew1 (Below.refl w3.heap.size w3)) (.cells (((runesOf o.f4).map (Value.int .i32)).toArray ++ Array.replicate (gc - (runesOf o.f4).length) (.int .i32 0)) 21)
  have s0 := pw_cell_below hbv hS.1
  have s1 := pw_cell_below hbv hS.2.1
  have s2 := pw_cell_below hbv hS.2.2.1
  have s3 := pw_cell_below hbv hS.2.2.2
  clear hbv
  generalize w3.drew.alloc (.cells (((runesOf o.f4).map (Value.int .i32)).toArray ++ Array.replicate (gc - (runesOf o.f4).length) (.int .i32 0)) 21) = w4 at hcv hcell HBE s0 s1 s2 s3
  generalize (runesOf o.f4).length = rl at hcv hjz hcap
  refine exS HT 10 (some 15) 8191 (.slice (some ⟨w3.heap.size, 0, none⟩) rl gc) w4 (hrun := ?_) (hS := ⟨s0, s1, s2, s3⟩) (h := fun hS => ?_)
  · go_simp
  clear hcv hcap hsz hS
  refine nm (h := ?_)
  refine pu HT 13 18 16383 (h := ?_)
  refine exL HT 14 (some 19) 32767 (.int .i32 rv) w4 (hrun := ?_) (h := ?_)
  · go_simp
  refine nm (h := ?_)
  refine pu HT 15 4 65535 (h := ?_)
  refine dn HT (h := ?_)
  clear HT HW
  go_wp2
  go_ret
  exact ⟨rfl, HBE.out⟩
end Go.Proofs.Ytonoaflfobajcaa.L
end

section
namespace Go.Proofs.Ytonoaflfobajcaa.L
open Go.RowKit Go.Proofs.YtonoaflfobajcaaW.PrintWords Go.Proofs.YtonoaflfobajcaaW.PrintLast Go.Proofs.YtonoaflfobajcaaW.PrintMore
set_option linter.unusedVariables false
set_option linter.unusedSimpArgs false
theorem infoI32 : (Try.prog.info? 21).map (fun i => (i.zero, i.size, i.bytes)) = some (some (.int .i32 0), 1, 4) := by kernel_rfl
def atR (l : List SOp) (e : SElem) : Int := (runesOf (rd_Op l (findOp l e.f0 e.f1)).f4).getD e.f2.toNat 0
def plainR (l : List SOp) : ByteArray := runesBytes ((seenL l).map (atR l))
def doc_Plain.f (l0 : List (SOp)) : Option (ByteArray) := if smalls l0 = true ∧ mayB l0 = true then some (plainR l0) else none
theorem At_ok {l : List SOp} (h : RowOk l) {e : SElem} (he : e ∈ ordL l) : doc_At.f l e.f0 e.f1 e.f2 = some (atR l e) := by
  obtain ⟨p, hp, e0, e1, h2, h3⟩ := (mem_ordL h e).1 he
  obtain ⟨i, hi, ef, ei⟩ := findOp_mem h hp
  rw [e0, e1] at ef
  have hs := (opOk_size2 (h.oks p hp)).1
  have h40 := h.sums.1
  unfold doc_At.f atR
  rw [ef, rd_Op_nat _ _ hi, ei, if_pos ⟨by omega, by omega, h2, h3, by omega⟩]
set_option maxHeartbeats 4000000 in
set_option maxRecDepth 1000000 in
theorem doc_Plain.calls (A0 : Option Addr) (c0 : Nat) (l0 : List (SOp)) (r : ByteArray) (w : World) (hr0 : Kd.C kOp w A0 l0.length l0) (hc0 : l0.length ≤ c0) (h : doc_Plain.f l0 = some r) :
    Calls Try.prog 28 #[.slice A0 l0.length c0] w fun e w' => e = .returned (.string r) ∧ Below w.heap.size w w' := by
  unfold doc_Plain.f at h
  split at h
  case isFalse => cases h
  rename_i hsm
  obtain rfl := Option.some.inj h
  have hrow := (mayB_iff l0).1 hsm.2
  have hcS := doc_Seen.calls A0 c0 l0 (seenL l0) w hr0 hc0 (by unfold doc_Seen.f; rw [if_pos hsm])
  have hru := Try.underlying9
  have hrs := Try.underlying83
  have hri := Try.underlying21
  have HR0 := Aside0.mk hr0
  have HC0 := Aside0.mk hc0
  have HS := Aside0.mk hcS
  have HROW := Aside0.mk hrow
  clear hr0 hc0 h hcS hsm hrow
  go_enter Try.func28, Try.ntmps28
  go_wp2_with fail
  refine HS.out.mono ?_
  rintro e wS ⟨vS, rfl, hRS, hbS⟩
  obtain ⟨AS, cS, rfl, hcS, hCS⟩ := Kd.R_reads hRS
  have HBS := Aside0.mk hbS
  have HCS := Aside0.mk hCS
  have hlen : (seenL l0).length ≤ 200 := Nat.le_trans (List.length_filter_le _ _) (by rw [(ordL_nodup HROW.out).2]; exact HROW.out.sums.2)
  have HLEN := Aside0.mk hlen
  clear hRS hbS hCS hcS hlen HS
  go_wp2
  go_loopg [3, 9] (seenL l0).length (fun gg s3 s9 w' => ∃ j : Nat, j ≤ (seenL l0).length ∧ (seenL l0).length - j ≤ gg ∧ s9 = .int .i64 j ∧ Aside0 (Below wS.heap.size wS w') ∧ Aside0 (Kd.R (Kd.int .i32) 21 w' wS.heap.size (fun _ => True) s3 (((seenL l0).take j).map (atR l0))))
  case atStart => exact ⟨0, Nat.zero_le _, by omega, rfl, ⟨Below.refl _ _⟩, ⟨Kd.R_nil _ _ _ _ _⟩⟩
  case round =>
    obtain ⟨j, hj, hgk, rfl, HB, HR⟩ := hrel
    by_cases hjl : j < (seenL l0).length
    · obtain ⟨g2, rfl⟩ : ∃ g2, gk = g2 + 1 := ⟨gk - 1, by omega⟩
      have hjz : (j : Int) < ((seenL l0).length : Int) := by omega
      have hj0 : (0 : Int) ≤ (j : Int) := by omega
      obtain ⟨ad7, rfl, y0, y1, y2⟩ := at_Elem (Kd.C_below HCS.out HB.out) (j : Int) hj0 hjz
      simp only [Int.toNat_natCast, rd_Elem_nat _ _ hjl] at y0 y1 y2
      have hmem : (seenL l0)[j] ∈ ordL l0 := (seen_mem.1 (List.getElem_mem hjl)).1
      have hat := At_ok HROW.out hmem
      have htk : ((seenL l0).take (j + 1)).map (atR l0) = ((seenL l0).take j).map (atR l0) ++ [atR l0 (seenL l0)[j]] := by rw [List.take_succ_eq_append_getElem hjl, List.map_append]; rfl
      have HTK := Aside0.mk htk
      clear htk
      generalize hxe : (seenL l0)[j] = x at y0 y1 y2 hat HTK
      generalize atR l0 x = rv at hat HTK
      have hal : Below wr.heap.size wr (wr.alloc (.cells #[.int .i64 x.f0, .int .i64 x.f1, .int .i64 x.f2] 36)) := below_alloc (Below.refl _ _) _
      have hbw : Below wS.heap.size wS (wr.alloc (.cells #[.int .i64 x.f0, .int .i64 x.f1, .int .i64 x.f2] 36)) := below_step HB.out hal
      have HAT := Aside0.mk (doc_At.calls A0 c0 l0 x.f0 x.f1 x.f2 rv _ (Kd.C_below HR0.out (below_step HBS.out hbw)) HC0.out hat)
      have HB2 := Aside0.mk hbw
      have HR2 := Aside0.mk (Kd.R_below HR.out hal)
      clear hal hbw hat hxe hmem HB HR
      go_wp2_with fail
      refine HAT.out.mono ?_
      rintro e w5 ⟨rfl, hb5⟩
      have HB5 := Aside0.mk (below_step HB2.out hb5)
      have HR5 := Aside0.mk (Kd.R_below HR2.out hb5)
      clear hb5 HB2 HR2 HAT
      have hl200 : (((seenL l0).take j).map (atR l0)).length ≤ 200 := by rw [List.length_map, List.length_take]; have := HLEN.out; omega
      have hsz5 := HB5.out.size
      have hl2 := HLEN.out
      go_wp2_with (first | ((with_reducible refine gate_builtin (b := .append) (xs := #[.tmp 13, .tmp 17]) rfl ?_); at_builtin; refine Kd.R_append (Kd.int .i32) (w0 := wS) wS.heap.size rfl (.tmp 13) (.tmp 17) 83 21 (.int .i32 0) 4 rfl Try.underlying83 infoI32 rfl (by decide) (by omega) u3 (((seenL l0).take j).map (atR l0)) rv [.int .i32 rv] (fun _ => True) (fun _ => False) rfl rfl ?aP (fun _ hk => hk.elim) ?aF ?aO ?aB ?aS ?aL ?_; (case aP => exact rfl); (case aB => exact HB5.out); (case aF => exact (fun _ _ => trivial)); (case aO => exact HR5.out); (case aS => exact hsz5); (case aL => omega); intro v1 w6 ho hb hg hat; have HO := Aside0.mk ho; have HBB := Aside0.mk hb; clear ho hb hg hat))
      go_roundg g2
      case measure => omega
      case rel => exact ⟨j + 1, by omega, by omega, by go_num, HBB, ⟨by rw [HTK.out]; exact HO.out⟩⟩
    · obtain rfl : j = (seenL l0).length := by omega
      have hjz : ¬ ((seenL l0).length : Int) < ((seenL l0).length : Int) := by omega
      rw [List.take_length] at HR
      obtain ⟨AR, cR, rfl, hcR, hCR⟩ := Kd.R_reads HR.out
      have hcv : ∀ v, (convert 83 9 (.slice AR ((seenL l0).map (atR l0)).length cR)).run Try.prog wr = .ok v wr → v = .string (plainR l0) → True := fun _ _ _ => trivial
      have hcv : (convert 83 9 (.slice AR ((seenL l0).map (atR l0)).length cR)).run Try.prog wr = .ok (.string (plainR l0)) wr := by
        unfold plainR
        cases AR with
        | none =>
          cases hz : (seenL l0).map (atR l0) with
          | nil => exact run_convert_runes_nil wr _ _ 21 _ _ hrs hri hru
          | cons a b =>
            rw [hz] at hCR
            obtain ⟨ad, e, _⟩ := Kd.at_int hCR 0 (Int.le_refl _) (by simp)
            cases e
        | some ad =>
          have := run_convert_runes (P := Try.prog) wr 83 9 21 ad ((seenL l0).map (atR l0)).length cR ((seenL l0).map (atR l0)) (Nat.le_refl _) hrs hri hru (fun q hq => by
            obtain ⟨ad', e, hc⟩ := Kd.at_int hCR (q : Int) (by omega) (by omega)
            injection e with e
            subst e
            rw [Int.toNat_natCast] at hc
            rw [hc]; unfold rd; rw [Int.toNat_natCast])
          rw [List.take_length] at this
          exact this
      have HBE := Aside0.mk (below_step HBS.out HB.out)
      clear hcR hCR HR HB
      generalize ((seenL l0).map (atR l0)).length = nn at hcv
      go_wp2
      go_ret
      exact ⟨rfl, HBE.out⟩
end Go.Proofs.Ytonoaflfobajcaa.L
end

section
namespace Go.Proofs.Ytonoaflfobajcaa.L
open Go.RowKit Go.Proofs.YtonoaflfobajcaaW.PrintWords Go.Proofs.YtonoaflfobajcaaW.PrintLast Go.Proofs.YtonoaflfobajcaaW.PrintMore
attribute [local go_sem] max2_int min2_int max_two min_two max_three min_three max_four min_four
set_option linter.unusedVariables false
set_option linter.unusedSimpArgs false
def doc_Text.f (l0 : List (SOp)) : Option (ByteArray × Int) := (tree_May.f l0).bind fun t181 => (if t181 = true then ((doc_Plain.f l0).bind fun t182 => (some (t182, 0))) else (some ((⟨#[]⟩ : ByteArray), 1)))
set_option maxHeartbeats 8000000 in
set_option maxRecDepth 100000 in
theorem doc_Text.calls (A0 : Option Addr) (c0 : Nat) (l0 : List (SOp)) (r1 : ByteArray) (r2 : Int) (w : World) (hr0 : Kd.C kOp w A0 l0.length l0) (hc0 : l0.length ≤ c0) (h : doc_Text.f l0 = some (r1, r2)) :
  Calls Try.prog 7 #[.slice A0 l0.length c0] w fun e w' => e = .returned (.tuple #[.string r1, .int .i64 r2]) ∧ Below w.heap.size w w' := by
 have HR0 := Aside0.mk hr0
 have HC0 := Aside0.mk hc0
 clear hr0 hc0
 have HB := Aside0.mk (Below.refl w.heap.size w)
 have H : ((tree_May.f l0).bind fun t181 => (if t181 = true then ((doc_Plain.f l0).bind fun t182 => (some (t182, 0))) else (some ((⟨#[]⟩ : ByteArray), 1)))) = some (r1, r2) := h
 clear h
 replace H := Option.bind_eq_some_iff.mp H
 obtain ⟨t181, A20, H⟩ := H
 replace H : (if t181 = true then ((doc_Plain.f l0).bind fun t182 => (some (t182, 0))) else (some ((⟨#[]⟩ : ByteArray), 1))) = some (r1, r2) := H
 have A2 := Aside0.mk A20
 clear A20
 by_cases c3 : t181 = true
 ·subst c3
  have H1 : ((doc_Plain.f l0).bind fun t182 => (some (t182, 0))) = some (r1, r2) := by rw [if_pos rfl] at H; exact H
  clear H
  have H := H1
  clear H1
  replace H := Option.bind_eq_some_iff.mp H
  obtain ⟨t182, A40, H⟩ := H
  replace H : (some (t182, 0)) = some (r1, r2) := H
  have A4 := Aside0.mk A40
  clear A40
  simp only [Option.some.injEq, Prod.mk.injEq] at H
  obtain ⟨rfl, rfl⟩ := H
  go_enter Try.func7, Try.ntmps7
  go_wp2_with (first | ((with_reducible refine gate_callee (f := 27) rfl ?_); refine gl (some 5) Try.func27 #[.slice A0 l0.length c0] (h := ?_); (with_reducible refine (tree_May.calls _ _ l0 true _ ?side1 ?side2 A2.out).mono ?_); (case side1 => repeat (first | exact HR0.out | (with_reducible refine Kd.C_alloc ?_ _) | (with_reducible refine Kd.C_drewN ?_ _) | (with_reducible refine Kd.C_drew ?_))); (case side2 => exact HC0.out); rintro e w5 ⟨rfl, hb⟩; refine ⟨_, rfl, ?_⟩; replace HB := bs HB hb; (try clear hb); (try clear hb2); (try clear hk); (try clear hi)) | ((with_reducible refine gate_callee (f := 28) rfl ?_); refine gl (some 8) Try.func28 #[.slice A0 l0.length c0] (h := ?_); (with_reducible refine (doc_Plain.calls _ _ l0 t182 _ ?side1 ?side2 A4.out).mono ?_); (case side1 => repeat (first | exact (Kd.C_below HR0.out HB.out) | (with_reducible refine Kd.C_alloc ?_ _) | (with_reducible refine Kd.C_drewN ?_ _) | (with_reducible refine Kd.C_drew ?_))); (case side2 => exact HC0.out); rintro e w6 ⟨rfl, hb⟩; refine ⟨_, rfl, ?_⟩; replace HB := bs HB hb; (try clear hb); (try clear hb2); (try clear hk); (try clear hi)))
  go_ret2
  exact ⟨re, bw HB⟩
 replace c3 := Bool.eq_false_iff.mpr c3
 subst c3
 have H1 : (some ((⟨#[]⟩ : ByteArray), 1)) = some (r1, r2) := by rw [if_neg (show ¬ (false = true) by decide)] at H; exact H
 clear H
 have H := H1
 clear H1
 simp only [Option.some.injEq, Prod.mk.injEq] at H
 obtain ⟨rfl, rfl⟩ := H
 go_enter Try.func7, Try.ntmps7
 go_wp2_with (first | ((with_reducible refine gate_callee (f := 27) rfl ?_); refine gl (some 5) Try.func27 #[.slice A0 l0.length c0] (h := ?_); (with_reducible refine (tree_May.calls _ _ l0 false _ ?side1 ?side2 A2.out).mono ?_); (case side1 => repeat (first | exact HR0.out | (with_reducible refine Kd.C_alloc ?_ _) | (with_reducible refine Kd.C_drewN ?_ _) | (with_reducible refine Kd.C_drew ?_))); (case side2 => exact HC0.out); rintro e w7 ⟨rfl, hb⟩; refine ⟨_, rfl, ?_⟩; replace HB := bs HB hb; (try clear hb); (try clear hb2); (try clear hk); (try clear hi)))
 go_ret2
 exact ⟨re, bw HB⟩
def lectionarylaw6_num.f (a0 : Int) : Option (Int) := some a0
set_option maxHeartbeats 8000000 in
set_option maxRecDepth 100000 in
theorem lectionarylaw6_num.calls (a0 : Int) (r : Int) (w : World) (h : lectionarylaw6_num.f a0 = some r) :
  Calls Try.prog 8 #[.int .i64 a0] w fun e w' => e = .returned (.int .i64 r) ∧ Drawn0 w w' := by
 have H : (some a0) = some r := h
 clear h
 obtain rfl := Option.some.inj H
 go_enter Try.func8, Try.ntmps8
 go_wp2
 go_ret
 exact ⟨rf, by repeat (first | exact Drawn0.refl _ | apply Drawn0.step)⟩
def doc_Edit.f (l0 : List (SOp)) (a1 : Int) (a2 : Int) : Option (Int × Int) := (tree_May.f l0).bind fun t183 => (if t183 = true then ((tree_Find.f l0 a1 a2).bind fun t184 => (if t184 < 0 then (some (0, 3)) else (if 0 ≤ t184 then (if t184 < (l0.length : Int) then (if ((rd_Op l0 t184).f2) = 1 then (some (t184, 0)) else (some (0, 3))) else (none)) else (none)))) else (some (0, 1)))
set_option maxHeartbeats 8000000 in
set_option maxRecDepth 100000 in
theorem doc_Edit.calls (A0 : Option Addr) (c0 : Nat) (l0 : List (SOp)) (a1 : Int) (a2 : Int) (r1 : Int) (r2 : Int) (w : World) (hr0 : Kd.C kOp w A0 l0.length l0) (hc0 : l0.length ≤ c0) (h : doc_Edit.f l0 a1 a2 = some (r1, r2)) :
  Calls Try.prog 29 #[.slice A0 l0.length c0, .int .i64 a1, .int .i64 a2] w fun e w' => e = .returned (.tuple #[.int .i64 r1, .int .i64 r2]) ∧ Below w.heap.size w w' := by
 have HR0 := Aside0.mk hr0
 have HC0 := Aside0.mk hc0
 clear hr0 hc0
 have HB := Aside0.mk (Below.refl w.heap.size w)
 have H : ((tree_May.f l0).bind fun t183 => (if t183 = true then ((tree_Find.f l0 a1 a2).bind fun t184 => (if t184 < 0 then (some (0, 3)) else (if 0 ≤ t184 then (if t184 < (l0.length : Int) then (if ((rd_Op l0 t184).f2) = 1 then (some (t184, 0)) else (some (0, 3))) else (none)) else (none)))) else (some (0, 1)))) = some (r1, r2) := h
 clear h
 replace H := Option.bind_eq_some_iff.mp H
 obtain ⟨t183, A40, H⟩ := H
 replace H : (if t183 = true then ((tree_Find.f l0 a1 a2).bind fun t184 => (if t184 < 0 then (some (0, 3)) else (if 0 ≤ t184 then (if t184 < (l0.length : Int) then (if ((rd_Op l0 t184).f2) = 1 then (some (t184, 0)) else (some (0, 3))) else (none)) else (none)))) else (some (0, 1))) = some (r1, r2) := H
 have A4 := Aside0.mk A40
 clear A40
 by_cases c5 : t183 = true
 ·subst c5
  have H1 : ((tree_Find.f l0 a1 a2).bind fun t184 => (if t184 < 0 then (some (0, 3)) else (if 0 ≤ t184 then (if t184 < (l0.length : Int) then (if ((rd_Op l0 t184).f2) = 1 then (some (t184, 0)) else (some (0, 3))) else (none)) else (none)))) = some (r1, r2) := by rw [if_pos rfl] at H; exact H
  clear H
  have H := H1
  clear H1
  replace H := Option.bind_eq_some_iff.mp H
  obtain ⟨t184, A60, H⟩ := H
  replace H : (if t184 < 0 then (some (0, 3)) else (if 0 ≤ t184 then (if t184 < (l0.length : Int) then (if ((rd_Op l0 t184).f2) = 1 then (some (t184, 0)) else (some (0, 3))) else (none)) else (none))) = some (r1, r2) := H
  have A6 := Aside0.mk A60
  clear A60
  by_cases c7 : t184 < 0
  ·rw [if_pos c7] at H
   have c7b0 : decide (t184 < 0) = true := decide_eq_true c7
   clear c7
   simp only [Option.some.injEq, Prod.mk.injEq] at H
   obtain ⟨rfl, rfl⟩ := H
   go_enter Try.func29, Try.ntmps29
   go_wp2_with (first | ((with_reducible refine gate_callee (f := 27) rfl ?_); refine gl (some 10) Try.func27 #[.slice A0 l0.length c0] (h := ?_); (with_reducible refine (tree_May.calls _ _ l0 true _ ?side1 ?side2 A4.out).mono ?_); (case side1 => repeat (first | exact HR0.out | (with_reducible refine Kd.C_alloc ?_ _) | (with_reducible refine Kd.C_drewN ?_ _) | (with_reducible refine Kd.C_drew ?_))); (case side2 => exact HC0.out); rintro e w8 ⟨rfl, hb⟩; refine ⟨_, rfl, ?_⟩; replace HB := bs HB hb; (try clear hb); (try clear hb2); (try clear hk); (try clear hi)) | ((with_reducible refine gate_callee (f := 33) rfl ?_); refine gl (some 15) Try.func33 #[.slice A0 l0.length c0, .int .i64 a1, .int .i64 a2] (h := ?_); (with_reducible refine (tree_Find.calls _ _ l0 a1 a2 t184 _ ?side1 ?side2 A6.out).mono ?_); (case side1 => repeat (first | exact (Kd.C_below HR0.out HB.out) | (with_reducible refine Kd.C_alloc ?_ _) | (with_reducible refine Kd.C_drewN ?_ _) | (with_reducible refine Kd.C_drew ?_))); (case side2 => exact HC0.out); rintro e w9 ⟨rfl, hb⟩; refine ⟨_, rfl, ?_⟩; replace HB := bs HB hb; (try clear hb); (try clear hb2); (try clear hk); (try clear hi)))
   go_ret2
   exact ⟨re, bw HB⟩
  rw [if_neg c7] at H
  have c7b0 : decide (t184 < 0) = false := decide_eq_false c7
  clear c7
  by_cases c10 : 0 ≤ t184
  ·rw [if_pos c10] at H
   have c10b0 : decide (0 ≤ t184) = true := decide_eq_true c10
   clear c10
   by_cases c11 : t184 < (l0.length : Int)
   ·rw [if_pos c11] at H
    have c11b0 : decide (t184 < (l0.length : Int)) = true := decide_eq_true c11
    clear c11
    by_cases c12 : ((rd_Op l0 t184).f2) = 1
    ·rw [if_pos c12] at H
     have c12b0 : (((rd_Op l0 t184).f2) == 1) = true := beq_iff_eq.mpr c12
     have c12b1 : (((rd_Op l0 t184).f2) != 1) = false := bne_eq_false_iff_eq.mpr c12
     clear c12
     simp only [Option.some.injEq, Prod.mk.injEq] at H
     obtain ⟨rfl, rfl⟩ := H
     go_enter Try.func29, Try.ntmps29
     go_wp2_with (first | ((with_reducible refine gate_callee (f := 27) rfl ?_); refine gl (some 10) Try.func27 #[.slice A0 l0.length c0] (h := ?_); (with_reducible refine (tree_May.calls _ _ l0 true _ ?side1 ?side2 A4.out).mono ?_); (case side1 => repeat (first | exact HR0.out | (with_reducible refine Kd.C_alloc ?_ _) | (with_reducible refine Kd.C_drewN ?_ _) | (with_reducible refine Kd.C_drew ?_))); (case side2 => exact HC0.out); rintro e w13 ⟨rfl, hb⟩; refine ⟨_, rfl, ?_⟩; replace HB := bs HB hb; (try clear hb); (try clear hb2); (try clear hk); (try clear hi)) | ((with_reducible refine gate_callee (f := 33) rfl ?_); refine gl (some 15) Try.func33 #[.slice A0 l0.length c0, .int .i64 a1, .int .i64 a2] (h := ?_); (with_reducible refine (tree_Find.calls _ _ l0 a1 a2 t184 _ ?side1 ?side2 A6.out).mono ?_); (case side1 => repeat (first | exact (Kd.C_below HR0.out HB.out) | (with_reducible refine Kd.C_alloc ?_ _) | (with_reducible refine Kd.C_drewN ?_ _) | (with_reducible refine Kd.C_drew ?_))); (case side2 => exact HC0.out); rintro e w14 ⟨rfl, hb⟩; refine ⟨_, rfl, ?_⟩; replace HB := bs HB hb; (try clear hb); (try clear hb2); (try clear hk); (try clear hi); have p185 : 0 ≤ (t184 : Int) := of_decide_eq_true (by first | (with_reducible assumption) | assumption); have q185 : t184 < (l0.length : Int) := of_decide_eq_true (by first | (with_reducible assumption) | assumption); obtain ⟨ad185, A185_7, c185_7, e185, hx185_0, hx185_1, hx185_2, hx185_3, hx185_4, hx185_5, hx185_6, hx185_7, hx185_8, hx185_9, hx185_10, hl185_7, hi185_7⟩ := at_Op HR0.out t184 p185 q185; cases e185; replace hx185_0 := cl HB hx185_0; replace hx185_1 := cl HB hx185_1; replace hx185_2 := cl HB hx185_2; replace hx185_3 := cl HB hx185_3; replace hx185_4 := cl HB hx185_4; replace hx185_5 := cl HB hx185_5; replace hx185_6 := cl HB hx185_6; replace hx185_7 := cl HB hx185_7; replace hx185_8 := cl HB hx185_8; replace hx185_9 := cl HB hx185_9; replace hx185_10 := cl HB hx185_10; have HR185_7 := Aside0.mk hi185_7; have HC185_7 := Aside0.mk hl185_7; clear hi185_7 hl185_7; replace p185 := eq_true p185; replace q185 := eq_true q185))
     go_ret2
     exact ⟨re, bw HB⟩
    rw [if_neg c12] at H
    have c12b0 : (((rd_Op l0 t184).f2) == 1) = false := beq_eq_false_iff_ne.mpr c12
    have c12b1 : (((rd_Op l0 t184).f2) != 1) = true := bne_iff_ne.mpr c12
    simp only [Option.some.injEq, Prod.mk.injEq] at H
    obtain ⟨rfl, rfl⟩ := H
    go_enter Try.func29, Try.ntmps29
    go_wp2_with (first | ((with_reducible refine gate_callee (f := 27) rfl ?_); refine gl (some 10) Try.func27 #[.slice A0 l0.length c0] (h := ?_); (with_reducible refine (tree_May.calls _ _ l0 true _ ?side1 ?side2 A4.out).mono ?_); (case side1 => repeat (first | exact HR0.out | (with_reducible refine Kd.C_alloc ?_ _) | (with_reducible refine Kd.C_drewN ?_ _) | (with_reducible refine Kd.C_drew ?_))); (case side2 => exact HC0.out); rintro e w15 ⟨rfl, hb⟩; refine ⟨_, rfl, ?_⟩; replace HB := bs HB hb; (try clear hb); (try clear hb2); (try clear hk); (try clear hi)) | ((with_reducible refine gate_callee (f := 33) rfl ?_); refine gl (some 15) Try.func33 #[.slice A0 l0.length c0, .int .i64 a1, .int .i64 a2] (h := ?_); (with_reducible refine (tree_Find.calls _ _ l0 a1 a2 t184 _ ?side1 ?side2 A6.out).mono ?_); (case side1 => repeat (first | exact (Kd.C_below HR0.out HB.out) | (with_reducible refine Kd.C_alloc ?_ _) | (with_reducible refine Kd.C_drewN ?_ _) | (with_reducible refine Kd.C_drew ?_))); (case side2 => exact HC0.out); rintro e w16 ⟨rfl, hb⟩; refine ⟨_, rfl, ?_⟩; replace HB := bs HB hb; (try clear hb); (try clear hb2); (try clear hk); (try clear hi); have p185 : 0 ≤ (t184 : Int) := of_decide_eq_true (by first | (with_reducible assumption) | assumption); have q185 : t184 < (l0.length : Int) := of_decide_eq_true (by first | (with_reducible assumption) | assumption); obtain ⟨ad185, A185_7, c185_7, e185, hx185_0, hx185_1, hx185_2, hx185_3, hx185_4, hx185_5, hx185_6, hx185_7, hx185_8, hx185_9, hx185_10, hl185_7, hi185_7⟩ := at_Op HR0.out t184 p185 q185; cases e185; replace hx185_0 := cl HB hx185_0; replace hx185_1 := cl HB hx185_1; replace hx185_2 := cl HB hx185_2; replace hx185_3 := cl HB hx185_3; replace hx185_4 := cl HB hx185_4; replace hx185_5 := cl HB hx185_5; replace hx185_6 := cl HB hx185_6; replace hx185_7 := cl HB hx185_7; replace hx185_8 := cl HB hx185_8; replace hx185_9 := cl HB hx185_9; replace hx185_10 := cl HB hx185_10; have HR185_7 := Aside0.mk hi185_7; have HC185_7 := Aside0.mk hl185_7; clear hi185_7 hl185_7; replace p185 := eq_true p185; replace q185 := eq_true q185))
    go_ret2
    exact ⟨re, bw HB⟩
   rw [if_neg c11] at H
   exact absurd H (by simp)
  rw [if_neg c10] at H
  exact absurd H (by simp)
 replace c5 := Bool.eq_false_iff.mpr c5
 subst c5
 have H1 : (some (0, 1)) = some (r1, r2) := by rw [if_neg (show ¬ (false = true) by decide)] at H; exact H
 clear H
 have H := H1
 clear H1
 simp only [Option.some.injEq, Prod.mk.injEq] at H
 obtain ⟨rfl, rfl⟩ := H
 go_enter Try.func29, Try.ntmps29
 go_wp2_with (first | ((with_reducible refine gate_callee (f := 27) rfl ?_); refine gl (some 10) Try.func27 #[.slice A0 l0.length c0] (h := ?_); (with_reducible refine (tree_May.calls _ _ l0 false _ ?side1 ?side2 A4.out).mono ?_); (case side1 => repeat (first | exact HR0.out | (with_reducible refine Kd.C_alloc ?_ _) | (with_reducible refine Kd.C_drewN ?_ _) | (with_reducible refine Kd.C_drew ?_))); (case side2 => exact HC0.out); rintro e w17 ⟨rfl, hb⟩; refine ⟨_, rfl, ?_⟩; replace HB := bs HB hb; (try clear hb); (try clear hb2); (try clear hk); (try clear hi)))
 go_ret2
 exact ⟨re, bw HB⟩
def doc_Count.f (k : Nat) (l0 : List (SOp)) (a1 : Int) (a2 : Int) : Option (Int × Int) := (doc_Edit.f l0 a1 a2).bind fun bt186 => (if bt186.2 = 0 then ((doc_Counts.f k l0).bind fun t188 => (if 0 ≤ bt186.1 then (if bt186.1 < (t188.length : Int) then (some (rd t188 bt186.1, 0)) else (none)) else (none))) else (some (0, bt186.2)))
set_option maxHeartbeats 8000000 in
set_option maxRecDepth 100000 in
theorem doc_Count.calls (k : Nat) (A0 : Option Addr) (c0 : Nat) (l0 : List (SOp)) (a1 : Int) (a2 : Int) (r1 : Int) (r2 : Int) (w : World) (hr0 : Kd.C kOp w A0 l0.length l0) (hc0 : l0.length ≤ c0) (h : doc_Count.f k l0 a1 a2 = some (r1, r2)) :
  Calls Try.prog 9 #[.slice A0 l0.length c0, .int .i64 a1, .int .i64 a2] w fun e w' => e = .returned (.tuple #[.int .i64 r1, .int .i64 r2]) ∧ Below w.heap.size w w' := by
 have HR0 := Aside0.mk hr0
 have HC0 := Aside0.mk hc0
 clear hr0 hc0
 have HB := Aside0.mk (Below.refl w.heap.size w)
 have H : ((doc_Edit.f l0 a1 a2).bind fun bt186 => (if bt186.2 = 0 then ((doc_Counts.f k l0).bind fun t188 => (if 0 ≤ bt186.1 then (if bt186.1 < (t188.length : Int) then (some (rd t188 bt186.1, 0)) else (none)) else (none))) else (some (0, bt186.2)))) = some (r1, r2) := h
 clear h
 replace H := Option.bind_eq_some_iff.mp H
 obtain ⟨⟨t186, t187⟩, A40, H⟩ := H
 replace H : (if t187 = 0 then ((doc_Counts.f k l0).bind fun t188 => (if 0 ≤ t186 then (if t186 < (t188.length : Int) then (some (rd t188 t186, 0)) else (none)) else (none))) else (some (0, t187))) = some (r1, r2) := H
 have A4 := Aside0.mk A40
 clear A40
 by_cases c5 : t187 = 0
 ·rw [if_pos c5] at H
  have c5b0 : (t187 == 0) = true := beq_iff_eq.mpr c5
  have c5b1 : (t187 != 0) = false := bne_eq_false_iff_eq.mpr c5
  clear c5
  replace H := Option.bind_eq_some_iff.mp H
  obtain ⟨t188, A60, H⟩ := H
  replace H : (if 0 ≤ t186 then (if t186 < (t188.length : Int) then (some (rd t188 t186, 0)) else (none)) else (none)) = some (r1, r2) := H
  have A6 := Aside0.mk A60
  clear A60
  by_cases c7 : 0 ≤ t186
  ·rw [if_pos c7] at H
   have c7b0 : decide (0 ≤ t186) = true := decide_eq_true c7
   clear c7
   by_cases c8 : t186 < (t188.length : Int)
   ·rw [if_pos c8] at H
    have c8b0 : decide (t186 < (t188.length : Int)) = true := decide_eq_true c8
    clear c8
    simp only [Option.some.injEq, Prod.mk.injEq] at H
    obtain ⟨rfl, rfl⟩ := H
    go_enter Try.func9, Try.ntmps9
    go_wp2_with (first | ((with_reducible refine gate_callee (f := 29) rfl ?_); refine gl (some 14) Try.func29 #[.slice A0 l0.length c0, .int .i64 a1, .int .i64 a2] (h := ?_); (with_reducible refine (doc_Edit.calls _ _ l0 a1 a2 t186 t187 _ ?side1 ?side2 A4.out).mono ?_); (case side1 => repeat (first | exact HR0.out | (with_reducible refine Kd.C_alloc ?_ _) | (with_reducible refine Kd.C_drewN ?_ _) | (with_reducible refine Kd.C_drew ?_))); (case side2 => exact HC0.out); rintro e w9 ⟨rfl, hb⟩; refine ⟨_, rfl, ?_⟩; replace HB := bs HB hb; (try clear hb); (try clear hb2); (try clear hk); (try clear hi)) | ((with_reducible refine gate_callee (f := 30) rfl ?_); refine gl (some 21) Try.func30 #[.slice A0 l0.length c0] (h := ?_); (with_reducible refine (doc_Counts.calls k _ _ l0 t188 _ ?side1 ?side2 A6.out).mono ?_); (case side1 => repeat (first | exact (Kd.C_below HR0.out HB.out) | (with_reducible refine Kd.C_alloc ?_ _) | (with_reducible refine Kd.C_drewN ?_ _) | (with_reducible refine Kd.C_drew ?_))); (case side2 => exact HC0.out); rintro e w10 ⟨v189, rfl, ho0, hb⟩; refine ⟨_, rfl, ?_⟩; have HO190 := Aside0.mk (Kd.R_lower ho0 (below_size (bw HB))); replace HB := bs HB hb; (try clear hb); (try clear hb2); (try clear hk); (try clear hi); (try clear ho0); obtain ⟨Ao11, co11, eo11⟩ := Kd.R_slice HO190.out; subst eo11; have p191 : 0 ≤ (t186 : Int) := of_decide_eq_true (by first | (with_reducible assumption) | assumption); have q191 : t186 < (t188.length : Int) := of_decide_eq_true (by first | (with_reducible assumption) | assumption); obtain ⟨ad191, e191, hx191_0⟩ := Kd.at_int (Kd.R_reads' HO190.out).2.2 t186 p191 q191; cases e191; replace p191 := eq_true p191; replace q191 := eq_true q191))
    go_ret2
    exact ⟨re, bw HB⟩
   rw [if_neg c8] at H
   exact absurd H (by simp)
  rw [if_neg c7] at H
  exact absurd H (by simp)
 rw [if_neg c5] at H
 have c5b0 : (t187 == 0) = false := beq_eq_false_iff_ne.mpr c5
 have c5b1 : (t187 != 0) = true := bne_iff_ne.mpr c5
 simp only [Option.some.injEq, Prod.mk.injEq] at H
 obtain ⟨rfl, rfl⟩ := H
 go_enter Try.func9, Try.ntmps9
 go_wp2_with (first | ((with_reducible refine gate_callee (f := 29) rfl ?_); refine gl (some 14) Try.func29 #[.slice A0 l0.length c0, .int .i64 a1, .int .i64 a2] (h := ?_); (with_reducible refine (doc_Edit.calls _ _ l0 a1 a2 t186 t187 _ ?side1 ?side2 A4.out).mono ?_); (case side1 => repeat (first | exact HR0.out | (with_reducible refine Kd.C_alloc ?_ _) | (with_reducible refine Kd.C_drewN ?_ _) | (with_reducible refine Kd.C_drew ?_))); (case side2 => exact HC0.out); rintro e w12 ⟨rfl, hb⟩; refine ⟨_, rfl, ?_⟩; replace HB := bs HB hb; (try clear hb); (try clear hb2); (try clear hk); (try clear hi)))
 go_ret2
 exact ⟨re, bw HB⟩
def doc_Effective.f (k : Nat) (l0 : List (SOp)) (a1 : Int) (a2 : Int) : Option (Bool × Int) := (doc_Count.f k l0 a1 a2).bind fun bt192 => (if bt192.2 = 0 then (some (((Int.tmod bt192.1 2) == 0), bt192.2)) else (some (false, bt192.2)))
set_option maxHeartbeats 8000000 in
set_option maxRecDepth 100000 in
theorem doc_Effective.calls (k : Nat) (A0 : Option Addr) (c0 : Nat) (l0 : List (SOp)) (a1 : Int) (a2 : Int) (r1 : Bool) (r2 : Int) (w : World) (hr0 : Kd.C kOp w A0 l0.length l0) (hc0 : l0.length ≤ c0) (h : doc_Effective.f k l0 a1 a2 = some (r1, r2)) :
  Calls Try.prog 11 #[.slice A0 l0.length c0, .int .i64 a1, .int .i64 a2] w fun e w' => e = .returned (.tuple #[.bool r1, .int .i64 r2]) ∧ Below w.heap.size w w' := by
 have HR0 := Aside0.mk hr0
 have HC0 := Aside0.mk hc0
 clear hr0 hc0
 have HB := Aside0.mk (Below.refl w.heap.size w)
 have H : ((doc_Count.f k l0 a1 a2).bind fun bt192 => (if bt192.2 = 0 then (some (((Int.tmod bt192.1 2) == 0), bt192.2)) else (some (false, bt192.2)))) = some (r1, r2) := h
 clear h
 replace H := Option.bind_eq_some_iff.mp H
 obtain ⟨⟨t192, t193⟩, A40, H⟩ := H
 replace H : (if t193 = 0 then (some (((Int.tmod t192 2) == 0), t193)) else (some (false, t193))) = some (r1, r2) := H
 have A4 := Aside0.mk A40
 clear A40
 by_cases c5 : t193 = 0
 ·rw [if_pos c5] at H
  have c5b0 : (t193 == 0) = true := beq_iff_eq.mpr c5
  have c5b1 : (t193 != 0) = false := bne_eq_false_iff_eq.mpr c5
  clear c5
  simp only [Option.some.injEq, Prod.mk.injEq] at H
  obtain ⟨rfl, rfl⟩ := H
  go_enter Try.func11, Try.ntmps11
  go_wp2_with (first | ((with_reducible refine gate_callee (f := 9) rfl ?_); refine gl (some 14) Try.func9 #[.slice A0 l0.length c0, .int .i64 a1, .int .i64 a2] (h := ?_); (with_reducible refine (doc_Count.calls k _ _ l0 a1 a2 t192 t193 _ ?side1 ?side2 A4.out).mono ?_); (case side1 => repeat (first | exact HR0.out | (with_reducible refine Kd.C_alloc ?_ _) | (with_reducible refine Kd.C_drewN ?_ _) | (with_reducible refine Kd.C_drew ?_))); (case side2 => exact HC0.out); rintro e w6 ⟨rfl, hb⟩; refine ⟨_, rfl, ?_⟩; replace HB := bs HB hb; (try clear hb); (try clear hb2); (try clear hk); (try clear hi)))
  go_ret2
  exact ⟨re, bw HB⟩
 rw [if_neg c5] at H
 have c5b0 : (t193 == 0) = false := beq_eq_false_iff_ne.mpr c5
 have c5b1 : (t193 != 0) = true := bne_iff_ne.mpr c5
 simp only [Option.some.injEq, Prod.mk.injEq] at H
 obtain ⟨rfl, rfl⟩ := H
 go_enter Try.func11, Try.ntmps11
 go_wp2_with (first | ((with_reducible refine gate_callee (f := 9) rfl ?_); refine gl (some 14) Try.func9 #[.slice A0 l0.length c0, .int .i64 a1, .int .i64 a2] (h := ?_); (with_reducible refine (doc_Count.calls k _ _ l0 a1 a2 t192 t193 _ ?side1 ?side2 A4.out).mono ?_); (case side1 => repeat (first | exact HR0.out | (with_reducible refine Kd.C_alloc ?_ _) | (with_reducible refine Kd.C_drewN ?_ _) | (with_reducible refine Kd.C_drew ?_))); (case side2 => exact HC0.out); rintro e w7 ⟨rfl, hb⟩; refine ⟨_, rfl, ?_⟩; replace HB := bs HB hb; (try clear hb); (try clear hb2); (try clear hk); (try clear hi)))
 go_ret2
 exact ⟨re, bw HB⟩
def lectionarylaw6_wakes.f  : Option (Bool) := (doc_Text.f ([] : List (SOp))).bind fun bt194 => ((some (([(⟨1, 1, 1, (⟨0, 0, 0⟩ : SElem), (⟨#[97]⟩ : ByteArray), ([] : List (SElem)), 0, 0, 0⟩ : SOp), (⟨1, 2, 2, (⟨0, 0, 0⟩ : SElem), (⟨#[]⟩ : ByteArray), ([] : List (SElem)), 1, 1, 0⟩ : SOp)] : List (SOp)) : List (SOp))).bind fun y196 => (if 1 ≤ (y196.length : Int) then ((doc_Text.f (y196.take 1)).bind fun bt203 => ((doc_Text.f y196).bind fun bt205 => ((lectionarylaw6_num.f bt194.2).bind fun t207 => (if t207 = 0 then ((lectionarylaw6_num.f bt203.2).bind fun t208 => (if t208 = 0 then ((lectionarylaw6_num.f bt205.2).bind fun t209 => (if t209 = 0 then (if bt194.1.toList = ([] : List UInt8) then (if bt203.1.toList = ([97] : List UInt8) then (some (bt205.1.toList == ([] : List UInt8))) else (some false)) else (some false)) else (some false))) else (some false))) else (some false))))) else (none)))
set_option maxHeartbeats 8000000 in
set_option maxRecDepth 100000 in
theorem lectionarylaw6_wakes.calls  (r : Bool) (w : World) (h : lectionarylaw6_wakes.f  = some r) :
  Calls Try.prog 14 #[] w fun e w' => e = .returned (.bool r) ∧ Below w.heap.size w w' := by
 have hu38 := Try.underlying38
 have HB := Aside0.mk (Below.refl w.heap.size w)
 have H : ((doc_Text.f ([] : List (SOp))).bind fun bt194 => ((some (([(⟨1, 1, 1, (⟨0, 0, 0⟩ : SElem), (⟨#[97]⟩ : ByteArray), ([] : List (SElem)), 0, 0, 0⟩ : SOp), (⟨1, 2, 2, (⟨0, 0, 0⟩ : SElem), (⟨#[]⟩ : ByteArray), ([] : List (SElem)), 1, 1, 0⟩ : SOp)] : List (SOp)) : List (SOp))).bind fun y196 => (if 1 ≤ (y196.length : Int) then ((doc_Text.f (y196.take 1)).bind fun bt203 => ((doc_Text.f y196).bind fun bt205 => ((lectionarylaw6_num.f bt194.2).bind fun t207 => (if t207 = 0 then ((lectionarylaw6_num.f bt203.2).bind fun t208 => (if t208 = 0 then ((lectionarylaw6_num.f bt205.2).bind fun t209 => (if t209 = 0 then (if bt194.1.toList = ([] : List UInt8) then (if bt203.1.toList = ([97] : List UInt8) then (some (bt205.1.toList == ([] : List UInt8))) else (some false)) else (some false)) else (some false))) else (some false))) else (some false))))) else (none)))) = some r := h
 clear h
 replace H := Option.bind_eq_some_iff.mp H
 obtain ⟨⟨t194, t195⟩, A10, H⟩ := H
 replace H : ((some (([(⟨1, 1, 1, (⟨0, 0, 0⟩ : SElem), (⟨#[97]⟩ : ByteArray), ([] : List (SElem)), 0, 0, 0⟩ : SOp), (⟨1, 2, 2, (⟨0, 0, 0⟩ : SElem), (⟨#[]⟩ : ByteArray), ([] : List (SElem)), 1, 1, 0⟩ : SOp)] : List (SOp)) : List (SOp))).bind fun y196 => (if 1 ≤ (y196.length : Int) then ((doc_Text.f (y196.take 1)).bind fun bt203 => ((doc_Text.f y196).bind fun bt205 => ((lectionarylaw6_num.f t195).bind fun t207 => (if t207 = 0 then ((lectionarylaw6_num.f bt203.2).bind fun t208 => (if t208 = 0 then ((lectionarylaw6_num.f bt205.2).bind fun t209 => (if t209 = 0 then (if t194.toList = ([] : List UInt8) then (if bt203.1.toList = ([97] : List UInt8) then (some (bt205.1.toList == ([] : List UInt8))) else (some false)) else (some false)) else (some false))) else (some false))) else (some false))))) else (none))) = some r := H
 have A1 := Aside0.mk A10
 clear A10
 obtain ⟨y196, hy196⟩ : ∃ y_ : List (SOp), y_ = (([(⟨1, 1, 1, (⟨0, 0, 0⟩ : SElem), (⟨#[97]⟩ : ByteArray), ([] : List (SElem)), 0, 0, 0⟩ : SOp), (⟨1, 2, 2, (⟨0, 0, 0⟩ : SElem), (⟨#[]⟩ : ByteArray), ([] : List (SElem)), 1, 1, 0⟩ : SOp)] : List (SOp))) := ⟨_, rfl⟩
 replace H : (if 1 ≤ (y196.length : Int) then ((doc_Text.f (y196.take 1)).bind fun bt203 => ((doc_Text.f y196).bind fun bt205 => ((lectionarylaw6_num.f t195).bind fun t207 => (if t207 = 0 then ((lectionarylaw6_num.f bt203.2).bind fun t208 => (if t208 = 0 then ((lectionarylaw6_num.f bt205.2).bind fun t209 => (if t209 = 0 then (if t194.toList = ([] : List UInt8) then (if bt203.1.toList = ([97] : List UInt8) then (some (bt205.1.toList == ([] : List UInt8))) else (some false)) else (some false)) else (some false))) else (some false))) else (some false))))) else (none)) = some r := by first | (rw [hy196]; with_reducible exact H) | (have H2_ := (Option.bind_some _ _).symm.trans H; rw [hy196]; with_reducible exact H2_) | (have H2_ := (Option.bind_some _ _).symm.trans H; with_reducible exact H2_) | with_reducible exact H | (rw [hy196]; exact H) | exact H
 have Ny196 := Aside0.mk hy196
 clear hy196
 by_cases c2 : 1 ≤ (y196.length : Int)
 ·rw [if_pos c2] at H
  have c2b0 := eq_true c2
  have c2b1 : decide (1 ≤ (y196.length : Int)) = true := decide_eq_true c2
  clear c2
  obtain ⟨y199, hy199⟩ : ∃ y_ : List (SOp), y_ = (y196.take 1) := ⟨_, rfl⟩
  replace H : ((doc_Text.f y199).bind fun bt203 => ((doc_Text.f y196).bind fun bt205 => ((lectionarylaw6_num.f t195).bind fun t207 => (if t207 = 0 then ((lectionarylaw6_num.f bt203.2).bind fun t208 => (if t208 = 0 then ((lectionarylaw6_num.f bt205.2).bind fun t209 => (if t209 = 0 then (if t194.toList = ([] : List UInt8) then (if bt203.1.toList = ([97] : List UInt8) then (some (bt205.1.toList == ([] : List UInt8))) else (some false)) else (some false)) else (some false))) else (some false))) else (some false))))) = some r := by first | (rw [hy199]; with_reducible exact H) | (have H2_ := (Option.bind_some _ _).symm.trans H; rw [hy199]; with_reducible exact H2_) | (have H2_ := (Option.bind_some _ _).symm.trans H; with_reducible exact H2_) | with_reducible exact H | (rw [hy199]; exact H) | exact H
  have Ny199 := Aside0.mk hy199
  clear hy199
  replace H := Option.bind_eq_some_iff.mp H
  obtain ⟨⟨t203, t204⟩, A30, H⟩ := H
  replace H : ((doc_Text.f y196).bind fun bt205 => ((lectionarylaw6_num.f t195).bind fun t207 => (if t207 = 0 then ((lectionarylaw6_num.f t204).bind fun t208 => (if t208 = 0 then ((lectionarylaw6_num.f bt205.2).bind fun t209 => (if t209 = 0 then (if t194.toList = ([] : List UInt8) then (if t203.toList = ([97] : List UInt8) then (some (bt205.1.toList == ([] : List UInt8))) else (some false)) else (some false)) else (some false))) else (some false))) else (some false)))) = some r := H
  have A3 := Aside0.mk A30
  clear A30
  replace H := Option.bind_eq_some_iff.mp H
  obtain ⟨⟨t205, t206⟩, A40, H⟩ := H
  replace H : ((lectionarylaw6_num.f t195).bind fun t207 => (if t207 = 0 then ((lectionarylaw6_num.f t204).bind fun t208 => (if t208 = 0 then ((lectionarylaw6_num.f t206).bind fun t209 => (if t209 = 0 then (if t194.toList = ([] : List UInt8) then (if t203.toList = ([97] : List UInt8) then (some (t205.toList == ([] : List UInt8))) else (some false)) else (some false)) else (some false))) else (some false))) else (some false))) = some r := H
  have A4 := Aside0.mk A40
  clear A40
  replace H := Option.bind_eq_some_iff.mp H
  obtain ⟨t207, A50, H⟩ := H
  replace H : (if t207 = 0 then ((lectionarylaw6_num.f t204).bind fun t208 => (if t208 = 0 then ((lectionarylaw6_num.f t206).bind fun t209 => (if t209 = 0 then (if t194.toList = ([] : List UInt8) then (if t203.toList = ([97] : List UInt8) then (some (t205.toList == ([] : List UInt8))) else (some false)) else (some false)) else (some false))) else (some false))) else (some false)) = some r := H
  have A5 := Aside0.mk A50
  clear A50
  by_cases c6 : t207 = 0
  ·rw [if_pos c6] at H
   have c6b0 : (t207 == 0) = true := beq_iff_eq.mpr c6
   have c6b1 : (t207 != 0) = false := bne_eq_false_iff_eq.mpr c6
   clear c6
   replace H := Option.bind_eq_some_iff.mp H
   obtain ⟨t208, A70, H⟩ := H
   replace H : (if t208 = 0 then ((lectionarylaw6_num.f t206).bind fun t209 => (if t209 = 0 then (if t194.toList = ([] : List UInt8) then (if t203.toList = ([97] : List UInt8) then (some (t205.toList == ([] : List UInt8))) else (some false)) else (some false)) else (some false))) else (some false)) = some r := H
   have A7 := Aside0.mk A70
   clear A70
   by_cases c8 : t208 = 0
   ·rw [if_pos c8] at H
    have c8b0 : (t208 == 0) = true := beq_iff_eq.mpr c8
    have c8b1 : (t208 != 0) = false := bne_eq_false_iff_eq.mpr c8
    clear c8
    replace H := Option.bind_eq_some_iff.mp H
    obtain ⟨t209, A90, H⟩ := H
    replace H : (if t209 = 0 then (if t194.toList = ([] : List UInt8) then (if t203.toList = ([97] : List UInt8) then (some (t205.toList == ([] : List UInt8))) else (some false)) else (some false)) else (some false)) = some r := H
    have A9 := Aside0.mk A90
    clear A90
    by_cases c10 : t209 = 0
    ·rw [if_pos c10] at H
     have c10b0 : (t209 == 0) = true := beq_iff_eq.mpr c10
     have c10b1 : (t209 != 0) = false := bne_eq_false_iff_eq.mpr c10
     clear c10
     by_cases c11 : t194.toList = ([] : List UInt8)
     ·rw [if_pos c11] at H
      have c11b0 : (t194.toList == ([] : List UInt8)) = true := beq_iff_eq.mpr c11
      have c11b1 : (t194.toList != ([] : List UInt8)) = false := bne_eq_false_iff_eq.mpr c11
      clear c11
      by_cases c12 : t203.toList = ([97] : List UInt8)
      ·rw [if_pos c12] at H
       have c12b0 : (t203.toList == ([97] : List UInt8)) = true := beq_iff_eq.mpr c12
       have c12b1 : (t203.toList != ([97] : List UInt8)) = false := bne_eq_false_iff_eq.mpr c12
       clear c12
       obtain rfl := Option.some.inj H
       go_enter Try.func14, Try.ntmps14
       go_wp2_with (first | ((with_reducible refine gate_callee (f := 7) rfl ?_); refine gl (some 9) Try.func7 #[.slice none 0 0] (h := ?_); (refine (doc_Text.calls _ _ ([] : List (SOp)) t194 t195 _ ?side1 ?side2 A1.out).mono ?_); (case side1 => exact Kd.C_nil _ _); (case side2 => exact Nat.le_refl _); rintro e w13 ⟨rfl, hb⟩; refine ⟨_, rfl, ?_⟩; replace HB := bs HB hb; (try clear hb); (try clear hb2); (try clear hk); (try clear hi)) | ((with_reducible refine gate_dst (N := 14) rfl ?_); refine Kd.S_lit kOp _ 38 ?hg (N := 14) ?hd (xs := ([(⟨1, 1, 1, (⟨0, 0, 0⟩ : SElem), (⟨#[97]⟩ : ByteArray), ([] : List (SElem)), 0, 0, 0⟩ : SOp), (⟨1, 2, 2, (⟨0, 0, 0⟩ : SElem), (⟨#[]⟩ : ByteArray), ([] : List (SElem)), 1, 1, 0⟩ : SOp)] : List (SOp))) (inner := [.int .i64 1, .int .i64 1, .int .i64 1, .int .i64 0, .int .i64 0, .int .i64 0, .string (⟨#[97]⟩ : ByteArray), .slice none 0 0, .int .i64 0, .int .i64 0, .int .i64 0, .int .i64 1, .int .i64 2, .int .i64 2, .int .i64 0, .int .i64 0, .int .i64 0, .string (⟨#[]⟩ : ByteArray), .slice none 0 0, .int .i64 1, .int .i64 1, .int .i64 0]) (ok := fun _ => True) (okp := fun _ => True) ?hr ?hp (fun _ hk => hk) trivial (Below.refl _ _) (Nat.le_refl _) (by simp) ?_; (case hd => rfl); (case hg => rfl); (case hr => first | (go_simp; done) | (go_simp; rfl)); (case hp => exact (Reps.front (show Kd.M kOp _ _ _ (⟨1, 1, 1, (⟨0, 0, 0⟩ : SElem), (⟨#[97]⟩ : ByteArray), ([] : List (SElem)), 0, 0, 0⟩ : SOp) [.int .i64 1, .int .i64 1, .int .i64 1, .int .i64 0, .int .i64 0, .int .i64 0, .string (⟨#[97]⟩ : ByteArray), .slice none 0 0, .int .i64 0, .int .i64 0, .int .i64 0] from (kOp_mkM _ _ _ (⟨1, 1, 1, (⟨0, 0, 0⟩ : SElem), (⟨#[97]⟩ : ByteArray), ([] : List (SElem)), 0, 0, 0⟩ : SOp) (Kd.R_nil _ _ _ _ _))) rfl (Reps.front (show Kd.M kOp _ _ _ (⟨1, 2, 2, (⟨0, 0, 0⟩ : SElem), (⟨#[]⟩ : ByteArray), ([] : List (SElem)), 1, 1, 0⟩ : SOp) [.int .i64 1, .int .i64 2, .int .i64 2, .int .i64 0, .int .i64 0, .int .i64 0, .string (⟨#[]⟩ : ByteArray), .slice none 0 0, .int .i64 1, .int .i64 1, .int .i64 0] from (kOp_mkM _ _ _ (⟨1, 2, 2, (⟨0, 0, 0⟩ : SElem), (⟨#[]⟩ : ByteArray), ([] : List (SElem)), 1, 1, 0⟩ : SOp) (Kd.R_nil _ _ _ _ _))) rfl (Reps.none _ _) rfl) rfl)); intro v197 w14 ho15 hb hg_ hnew_; clear hg_ hnew_; (first | rw [← Ny196.out] at ho15 | (simp only [Int.reduceToNat] at ho15; rw [← Ny196.out] at ho15)); have HO198 := Aside0.mk (Kd.S_lower ho15 (below_size (bw HB))); replace HB := bs HB hb; clear hb ho15; obtain ⟨Ao17, co17, eo17⟩ := Kd.S_slice HO198.out; subst eo17; have q16 : (1 : Int) ≤ ((y196.length : Int) : Int) := of_decide_eq_true (by first | (with_reducible assumption) | assumption); obtain ⟨i016, hi016, _, hsz16, _⟩ := info_parts info38; have hroom16 : y196.length ≤ co17 := (Kd.S_reads' HO198.out).2.1; have hC16 : Kd.C kOp _ Ao17 y196.length y196 := (Kd.S_reads' HO198.out).2.2; have hcut16 := cut_to (P := Try.prog) 24 38 .i64 Try.underlying24 hi016 Ao17 y196.length co17 1 (by omega) q16 hroom16; have hr16 := Kd.C_take (m := 1) hC16 (by omega); have hy16 : y199.length = (1 : Int).toNat := (by rw [Ny199.out, List.length_take]; omega); rw [← Ny199.out] at hr16; rw [← hy16] at hcut16; have HR202 := Aside0.mk hr16; have HC202 := Aside0.mk (show y199.length ≤ co17 from by omega); clear hr16 hC16 hroom16 hi016 hsz16; have KY16 := Aside0.mk hy16; clear hy16; have KL16 := Aside0.mk (show 1 ≤ y196.length from by omega); replace q16 := eq_true q16) | ((with_reducible refine gate_callee (f := 7) rfl ?_); refine gl (some 18) Try.func7 #[.slice Ao17 y199.length co17] (h := ?_); (with_reducible refine (doc_Text.calls _ _ y199 t203 t204 _ ?side1 ?side2 A3.out).mono ?_); (case side1 => repeat (first | exact (by repeat (first | (with_reducible exact HR202.out) | (with_reducible refine Kd.C_alloc ?_ _) | (with_reducible refine Kd.C_drewN ?_ _) | (with_reducible refine Kd.C_drew ?_) | exact HR202.out)) | (with_reducible refine Kd.C_alloc ?_ _) | (with_reducible refine Kd.C_drewN ?_ _) | (with_reducible refine Kd.C_drew ?_))); (case side2 => exact HC202.out); rintro e w18 ⟨rfl, hb⟩; refine ⟨_, rfl, ?_⟩; replace HO198 := Aside0.mk (Kd.S_below (by (with_reducible repeat (first | apply Kd.S_alloc | apply Kd.S_drewN | apply Kd.S_drew)); exact HO198.out) hb); replace HR202 := Aside0.mk (Kd.C_below (by repeat (first | (with_reducible exact HR202.out) | (with_reducible refine Kd.C_alloc ?_ _) | (with_reducible refine Kd.C_drewN ?_ _) | (with_reducible refine Kd.C_drew ?_) | exact HR202.out)) hb); replace HB := bs HB hb; (try clear hb); (try clear hb2); (try clear hk); (try clear hi)) | ((with_reducible refine gate_callee (f := 7) rfl ?_); refine gl (some 23) Try.func7 #[.slice Ao17 y196.length co17] (h := ?_); (with_reducible refine (doc_Text.calls _ _ y196 t205 t206 _ ?side1 ?side2 A4.out).mono ?_); (case side1 => repeat (first | exact (Kd.S_reads' HO198.out).2.2 | (with_reducible refine Kd.C_alloc ?_ _) | (with_reducible refine Kd.C_drewN ?_ _) | (with_reducible refine Kd.C_drew ?_))); (case side2 => exact (Kd.S_reads' HO198.out).2.1); rintro e w19 ⟨rfl, hb⟩; refine ⟨_, rfl, ?_⟩; replace HO198 := Aside0.mk (Kd.S_below (by (with_reducible repeat (first | apply Kd.S_alloc | apply Kd.S_drewN | apply Kd.S_drew)); exact HO198.out) hb); replace HR202 := Aside0.mk (Kd.C_below (by repeat (first | (with_reducible exact HR202.out) | (with_reducible refine Kd.C_alloc ?_ _) | (with_reducible refine Kd.C_drewN ?_ _) | (with_reducible refine Kd.C_drew ?_) | exact HR202.out)) hb); replace HB := bs HB hb; (try clear hb); (try clear hb2); (try clear hk); (try clear hi)) | ((with_reducible refine gate_callee (f := 8) rfl ?_); refine gl (some 27) Try.func8 #[.int .i64 t195] (h := ?_); (with_reducible refine (lectionarylaw6_num.calls t195 t207 _ A5.out).mono ?_); rintro e w' ⟨rfl, ⟨nd, rfl⟩⟩; refine ⟨_, rfl, ?_⟩) | (go_at_call 8; (with_reducible refine (lectionarylaw6_num.calls t204 t208 _ A7.out).mono ?_); rintro e w' ⟨rfl, ⟨nd, rfl⟩⟩) | (go_at_call 8; (with_reducible refine (lectionarylaw6_num.calls t206 t209 _ A9.out).mono ?_); rintro e w' ⟨rfl, ⟨nd, rfl⟩⟩))
       go_ret
       exact ⟨re, bw HB⟩
      rw [if_neg c12] at H
      have c12b0 : (t203.toList == ([97] : List UInt8)) = false := beq_eq_false_iff_ne.mpr c12
      have c12b1 : (t203.toList != ([97] : List UInt8)) = true := bne_iff_ne.mpr c12
      obtain rfl := Option.some.inj H
      go_enter Try.func14, Try.ntmps14
      go_wp2_with (first | ((with_reducible refine gate_callee (f := 7) rfl ?_); refine gl (some 9) Try.func7 #[.slice none 0 0] (h := ?_); (refine (doc_Text.calls _ _ ([] : List (SOp)) t194 t195 _ ?side1 ?side2 A1.out).mono ?_); (case side1 => exact Kd.C_nil _ _); (case side2 => exact Nat.le_refl _); rintro e w20 ⟨rfl, hb⟩; refine ⟨_, rfl, ?_⟩; replace HB := bs HB hb; (try clear hb); (try clear hb2); (try clear hk); (try clear hi)) | ((with_reducible refine gate_dst (N := 14) rfl ?_); refine Kd.S_lit kOp _ 38 ?hg (N := 14) ?hd (xs := ([(⟨1, 1, 1, (⟨0, 0, 0⟩ : SElem), (⟨#[97]⟩ : ByteArray), ([] : List (SElem)), 0, 0, 0⟩ : SOp), (⟨1, 2, 2, (⟨0, 0, 0⟩ : SElem), (⟨#[]⟩ : ByteArray), ([] : List (SElem)), 1, 1, 0⟩ : SOp)] : List (SOp))) (inner := [.int .i64 1, .int .i64 1, .int .i64 1, .int .i64 0, .int .i64 0, .int .i64 0, .string (⟨#[97]⟩ : ByteArray), .slice none 0 0, .int .i64 0, .int .i64 0, .int .i64 0, .int .i64 1, .int .i64 2, .int .i64 2, .int .i64 0, .int .i64 0, .int .i64 0, .string (⟨#[]⟩ : ByteArray), .slice none 0 0, .int .i64 1, .int .i64 1, .int .i64 0]) (ok := fun _ => True) (okp := fun _ => True) ?hr ?hp (fun _ hk => hk) trivial (Below.refl _ _) (Nat.le_refl _) (by simp) ?_; (case hd => rfl); (case hg => rfl); (case hr => first | (go_simp; done) | (go_simp; rfl)); (case hp => exact (Reps.front (show Kd.M kOp _ _ _ (⟨1, 1, 1, (⟨0, 0, 0⟩ : SElem), (⟨#[97]⟩ : ByteArray), ([] : List (SElem)), 0, 0, 0⟩ : SOp) [.int .i64 1, .int .i64 1, .int .i64 1, .int .i64 0, .int .i64 0, .int .i64 0, .string (⟨#[97]⟩ : ByteArray), .slice none 0 0, .int .i64 0, .int .i64 0, .int .i64 0] from (kOp_mkM _ _ _ (⟨1, 1, 1, (⟨0, 0, 0⟩ : SElem), (⟨#[97]⟩ : ByteArray), ([] : List (SElem)), 0, 0, 0⟩ : SOp) (Kd.R_nil _ _ _ _ _))) rfl (Reps.front (show Kd.M kOp _ _ _ (⟨1, 2, 2, (⟨0, 0, 0⟩ : SElem), (⟨#[]⟩ : ByteArray), ([] : List (SElem)), 1, 1, 0⟩ : SOp) [.int .i64 1, .int .i64 2, .int .i64 2, .int .i64 0, .int .i64 0, .int .i64 0, .string (⟨#[]⟩ : ByteArray), .slice none 0 0, .int .i64 1, .int .i64 1, .int .i64 0] from (kOp_mkM _ _ _ (⟨1, 2, 2, (⟨0, 0, 0⟩ : SElem), (⟨#[]⟩ : ByteArray), ([] : List (SElem)), 1, 1, 0⟩ : SOp) (Kd.R_nil _ _ _ _ _))) rfl (Reps.none _ _) rfl) rfl)); intro v197 w21 ho22 hb hg_ hnew_; clear hg_ hnew_; (first | rw [← Ny196.out] at ho22 | (simp only [Int.reduceToNat] at ho22; rw [← Ny196.out] at ho22)); have HO198 := Aside0.mk (Kd.S_lower ho22 (below_size (bw HB))); replace HB := bs HB hb; clear hb ho22; obtain ⟨Ao24, co24, eo24⟩ := Kd.S_slice HO198.out; subst eo24; have q23 : (1 : Int) ≤ ((y196.length : Int) : Int) := of_decide_eq_true (by first | (with_reducible assumption) | assumption); obtain ⟨i023, hi023, _, hsz23, _⟩ := info_parts info38; have hroom23 : y196.length ≤ co24 := (Kd.S_reads' HO198.out).2.1; have hC23 : Kd.C kOp _ Ao24 y196.length y196 := (Kd.S_reads' HO198.out).2.2; have hcut23 := cut_to (P := Try.prog) 24 38 .i64 Try.underlying24 hi023 Ao24 y196.length co24 1 (by omega) q23 hroom23; have hr23 := Kd.C_take (m := 1) hC23 (by omega); have hy23 : y199.length = (1 : Int).toNat := (by rw [Ny199.out, List.length_take]; omega); rw [← Ny199.out] at hr23; rw [← hy23] at hcut23; have HR202 := Aside0.mk hr23; have HC202 := Aside0.mk (show y199.length ≤ co24 from by omega); clear hr23 hC23 hroom23 hi023 hsz23; have KY23 := Aside0.mk hy23; clear hy23; have KL23 := Aside0.mk (show 1 ≤ y196.length from by omega); replace q23 := eq_true q23) | ((with_reducible refine gate_callee (f := 7) rfl ?_); refine gl (some 18) Try.func7 #[.slice Ao24 y199.length co24] (h := ?_); (with_reducible refine (doc_Text.calls _ _ y199 t203 t204 _ ?side1 ?side2 A3.out).mono ?_); (case side1 => repeat (first | exact (by repeat (first | (with_reducible exact HR202.out) | (with_reducible refine Kd.C_alloc ?_ _) | (with_reducible refine Kd.C_drewN ?_ _) | (with_reducible refine Kd.C_drew ?_) | exact HR202.out)) | (with_reducible refine Kd.C_alloc ?_ _) | (with_reducible refine Kd.C_drewN ?_ _) | (with_reducible refine Kd.C_drew ?_))); (case side2 => exact HC202.out); rintro e w25 ⟨rfl, hb⟩; refine ⟨_, rfl, ?_⟩; replace HO198 := Aside0.mk (Kd.S_below (by (with_reducible repeat (first | apply Kd.S_alloc | apply Kd.S_drewN | apply Kd.S_drew)); exact HO198.out) hb); replace HR202 := Aside0.mk (Kd.C_below (by repeat (first | (with_reducible exact HR202.out) | (with_reducible refine Kd.C_alloc ?_ _) | (with_reducible refine Kd.C_drewN ?_ _) | (with_reducible refine Kd.C_drew ?_) | exact HR202.out)) hb); replace HB := bs HB hb; (try clear hb); (try clear hb2); (try clear hk); (try clear hi)) | ((with_reducible refine gate_callee (f := 7) rfl ?_); refine gl (some 23) Try.func7 #[.slice Ao24 y196.length co24] (h := ?_); (with_reducible refine (doc_Text.calls _ _ y196 t205 t206 _ ?side1 ?side2 A4.out).mono ?_); (case side1 => repeat (first | exact (Kd.S_reads' HO198.out).2.2 | (with_reducible refine Kd.C_alloc ?_ _) | (with_reducible refine Kd.C_drewN ?_ _) | (with_reducible refine Kd.C_drew ?_))); (case side2 => exact (Kd.S_reads' HO198.out).2.1); rintro e w26 ⟨rfl, hb⟩; refine ⟨_, rfl, ?_⟩; replace HO198 := Aside0.mk (Kd.S_below (by (with_reducible repeat (first | apply Kd.S_alloc | apply Kd.S_drewN | apply Kd.S_drew)); exact HO198.out) hb); replace HR202 := Aside0.mk (Kd.C_below (by repeat (first | (with_reducible exact HR202.out) | (with_reducible refine Kd.C_alloc ?_ _) | (with_reducible refine Kd.C_drewN ?_ _) | (with_reducible refine Kd.C_drew ?_) | exact HR202.out)) hb); replace HB := bs HB hb; (try clear hb); (try clear hb2); (try clear hk); (try clear hi)) | ((with_reducible refine gate_callee (f := 8) rfl ?_); refine gl (some 27) Try.func8 #[.int .i64 t195] (h := ?_); (with_reducible refine (lectionarylaw6_num.calls t195 t207 _ A5.out).mono ?_); rintro e w' ⟨rfl, ⟨nd, rfl⟩⟩; refine ⟨_, rfl, ?_⟩) | (go_at_call 8; (with_reducible refine (lectionarylaw6_num.calls t204 t208 _ A7.out).mono ?_); rintro e w' ⟨rfl, ⟨nd, rfl⟩⟩) | (go_at_call 8; (with_reducible refine (lectionarylaw6_num.calls t206 t209 _ A9.out).mono ?_); rintro e w' ⟨rfl, ⟨nd, rfl⟩⟩))
      go_ret
      exact ⟨re, bw HB⟩
     rw [if_neg c11] at H
     have c11b0 : (t194.toList == ([] : List UInt8)) = false := beq_eq_false_iff_ne.mpr c11
     have c11b1 : (t194.toList != ([] : List UInt8)) = true := bne_iff_ne.mpr c11
     obtain rfl := Option.some.inj H
     go_enter Try.func14, Try.ntmps14
     go_wp2_with (first | ((with_reducible refine gate_callee (f := 7) rfl ?_); refine gl (some 9) Try.func7 #[.slice none 0 0] (h := ?_); (refine (doc_Text.calls _ _ ([] : List (SOp)) t194 t195 _ ?side1 ?side2 A1.out).mono ?_); (case side1 => exact Kd.C_nil _ _); (case side2 => exact Nat.le_refl _); rintro e w27 ⟨rfl, hb⟩; refine ⟨_, rfl, ?_⟩; replace HB := bs HB hb; (try clear hb); (try clear hb2); (try clear hk); (try clear hi)) | ((with_reducible refine gate_dst (N := 14) rfl ?_); refine Kd.S_lit kOp _ 38 ?hg (N := 14) ?hd (xs := ([(⟨1, 1, 1, (⟨0, 0, 0⟩ : SElem), (⟨#[97]⟩ : ByteArray), ([] : List (SElem)), 0, 0, 0⟩ : SOp), (⟨1, 2, 2, (⟨0, 0, 0⟩ : SElem), (⟨#[]⟩ : ByteArray), ([] : List (SElem)), 1, 1, 0⟩ : SOp)] : List (SOp))) (inner := [.int .i64 1, .int .i64 1, .int .i64 1, .int .i64 0, .int .i64 0, .int .i64 0, .string (⟨#[97]⟩ : ByteArray), .slice none 0 0, .int .i64 0, .int .i64 0, .int .i64 0, .int .i64 1, .int .i64 2, .int .i64 2, .int .i64 0, .int .i64 0, .int .i64 0, .string (⟨#[]⟩ : ByteArray), .slice none 0 0, .int .i64 1, .int .i64 1, .int .i64 0]) (ok := fun _ => True) (okp := fun _ => True) ?hr ?hp (fun _ hk => hk) trivial (Below.refl _ _) (Nat.le_refl _) (by simp) ?_; (case hd => rfl); (case hg => rfl); (case hr => first | (go_simp; done) | (go_simp; rfl)); (case hp => exact (Reps.front (show Kd.M kOp _ _ _ (⟨1, 1, 1, (⟨0, 0, 0⟩ : SElem), (⟨#[97]⟩ : ByteArray), ([] : List (SElem)), 0, 0, 0⟩ : SOp) [.int .i64 1, .int .i64 1, .int .i64 1, .int .i64 0, .int .i64 0, .int .i64 0, .string (⟨#[97]⟩ : ByteArray), .slice none 0 0, .int .i64 0, .int .i64 0, .int .i64 0] from (kOp_mkM _ _ _ (⟨1, 1, 1, (⟨0, 0, 0⟩ : SElem), (⟨#[97]⟩ : ByteArray), ([] : List (SElem)), 0, 0, 0⟩ : SOp) (Kd.R_nil _ _ _ _ _))) rfl (Reps.front (show Kd.M kOp _ _ _ (⟨1, 2, 2, (⟨0, 0, 0⟩ : SElem), (⟨#[]⟩ : ByteArray), ([] : List (SElem)), 1, 1, 0⟩ : SOp) [.int .i64 1, .int .i64 2, .int .i64 2, .int .i64 0, .int .i64 0, .int .i64 0, .string (⟨#[]⟩ : ByteArray), .slice none 0 0, .int .i64 1, .int .i64 1, .int .i64 0] from (kOp_mkM _ _ _ (⟨1, 2, 2, (⟨0, 0, 0⟩ : SElem), (⟨#[]⟩ : ByteArray), ([] : List (SElem)), 1, 1, 0⟩ : SOp) (Kd.R_nil _ _ _ _ _))) rfl (Reps.none _ _) rfl) rfl)); intro v197 w28 ho29 hb hg_ hnew_; clear hg_ hnew_; (first | rw [← Ny196.out] at ho29 | (simp only [Int.reduceToNat] at ho29; rw [← Ny196.out] at ho29)); have HO198 := Aside0.mk (Kd.S_lower ho29 (below_size (bw HB))); replace HB := bs HB hb; clear hb ho29; obtain ⟨Ao31, co31, eo31⟩ := Kd.S_slice HO198.out; subst eo31; have q30 : (1 : Int) ≤ ((y196.length : Int) : Int) := of_decide_eq_true (by first | (with_reducible assumption) | assumption); obtain ⟨i030, hi030, _, hsz30, _⟩ := info_parts info38; have hroom30 : y196.length ≤ co31 := (Kd.S_reads' HO198.out).2.1; have hC30 : Kd.C kOp _ Ao31 y196.length y196 := (Kd.S_reads' HO198.out).2.2; have hcut30 := cut_to (P := Try.prog) 24 38 .i64 Try.underlying24 hi030 Ao31 y196.length co31 1 (by omega) q30 hroom30; have hr30 := Kd.C_take (m := 1) hC30 (by omega); have hy30 : y199.length = (1 : Int).toNat := (by rw [Ny199.out, List.length_take]; omega); rw [← Ny199.out] at hr30; rw [← hy30] at hcut30; have HR202 := Aside0.mk hr30; have HC202 := Aside0.mk (show y199.length ≤ co31 from by omega); clear hr30 hC30 hroom30 hi030 hsz30; have KY30 := Aside0.mk hy30; clear hy30; have KL30 := Aside0.mk (show 1 ≤ y196.length from by omega); replace q30 := eq_true q30) | ((with_reducible refine gate_callee (f := 7) rfl ?_); refine gl (some 18) Try.func7 #[.slice Ao31 y199.length co31] (h := ?_); (with_reducible refine (doc_Text.calls _ _ y199 t203 t204 _ ?side1 ?side2 A3.out).mono ?_); (case side1 => repeat (first | exact (by repeat (first | (with_reducible exact HR202.out) | (with_reducible refine Kd.C_alloc ?_ _) | (with_reducible refine Kd.C_drewN ?_ _) | (with_reducible refine Kd.C_drew ?_) | exact HR202.out)) | (with_reducible refine Kd.C_alloc ?_ _) | (with_reducible refine Kd.C_drewN ?_ _) | (with_reducible refine Kd.C_drew ?_))); (case side2 => exact HC202.out); rintro e w32 ⟨rfl, hb⟩; refine ⟨_, rfl, ?_⟩; replace HO198 := Aside0.mk (Kd.S_below (by (with_reducible repeat (first | apply Kd.S_alloc | apply Kd.S_drewN | apply Kd.S_drew)); exact HO198.out) hb); replace HR202 := Aside0.mk (Kd.C_below (by repeat (first | (with_reducible exact HR202.out) | (with_reducible refine Kd.C_alloc ?_ _) | (with_reducible refine Kd.C_drewN ?_ _) | (with_reducible refine Kd.C_drew ?_) | exact HR202.out)) hb); replace HB := bs HB hb; (try clear hb); (try clear hb2); (try clear hk); (try clear hi)) | ((with_reducible refine gate_callee (f := 7) rfl ?_); refine gl (some 23) Try.func7 #[.slice Ao31 y196.length co31] (h := ?_); (with_reducible refine (doc_Text.calls _ _ y196 t205 t206 _ ?side1 ?side2 A4.out).mono ?_); (case side1 => repeat (first | exact (Kd.S_reads' HO198.out).2.2 | (with_reducible refine Kd.C_alloc ?_ _) | (with_reducible refine Kd.C_drewN ?_ _) | (with_reducible refine Kd.C_drew ?_))); (case side2 => exact (Kd.S_reads' HO198.out).2.1); rintro e w33 ⟨rfl, hb⟩; refine ⟨_, rfl, ?_⟩; replace HO198 := Aside0.mk (Kd.S_below (by (with_reducible repeat (first | apply Kd.S_alloc | apply Kd.S_drewN | apply Kd.S_drew)); exact HO198.out) hb); replace HR202 := Aside0.mk (Kd.C_below (by repeat (first | (with_reducible exact HR202.out) | (with_reducible refine Kd.C_alloc ?_ _) | (with_reducible refine Kd.C_drewN ?_ _) | (with_reducible refine Kd.C_drew ?_) | exact HR202.out)) hb); replace HB := bs HB hb; (try clear hb); (try clear hb2); (try clear hk); (try clear hi)) | ((with_reducible refine gate_callee (f := 8) rfl ?_); refine gl (some 27) Try.func8 #[.int .i64 t195] (h := ?_); (with_reducible refine (lectionarylaw6_num.calls t195 t207 _ A5.out).mono ?_); rintro e w' ⟨rfl, ⟨nd, rfl⟩⟩; refine ⟨_, rfl, ?_⟩) | (go_at_call 8; (with_reducible refine (lectionarylaw6_num.calls t204 t208 _ A7.out).mono ?_); rintro e w' ⟨rfl, ⟨nd, rfl⟩⟩) | (go_at_call 8; (with_reducible refine (lectionarylaw6_num.calls t206 t209 _ A9.out).mono ?_); rintro e w' ⟨rfl, ⟨nd, rfl⟩⟩))
     go_ret
     exact ⟨re, bw HB⟩
    rw [if_neg c10] at H
    have c10b0 : (t209 == 0) = false := beq_eq_false_iff_ne.mpr c10
    have c10b1 : (t209 != 0) = true := bne_iff_ne.mpr c10
    obtain rfl := Option.some.inj H
    go_enter Try.func14, Try.ntmps14
    go_wp2_with (first | ((with_reducible refine gate_callee (f := 7) rfl ?_); refine gl (some 9) Try.func7 #[.slice none 0 0] (h := ?_); (refine (doc_Text.calls _ _ ([] : List (SOp)) t194 t195 _ ?side1 ?side2 A1.out).mono ?_); (case side1 => exact Kd.C_nil _ _); (case side2 => exact Nat.le_refl _); rintro e w34 ⟨rfl, hb⟩; refine ⟨_, rfl, ?_⟩; replace HB := bs HB hb; (try clear hb); (try clear hb2); (try clear hk); (try clear hi)) | ((with_reducible refine gate_dst (N := 14) rfl ?_); refine Kd.S_lit kOp _ 38 ?hg (N := 14) ?hd (xs := ([(⟨1, 1, 1, (⟨0, 0, 0⟩ : SElem), (⟨#[97]⟩ : ByteArray), ([] : List (SElem)), 0, 0, 0⟩ : SOp), (⟨1, 2, 2, (⟨0, 0, 0⟩ : SElem), (⟨#[]⟩ : ByteArray), ([] : List (SElem)), 1, 1, 0⟩ : SOp)] : List (SOp))) (inner := [.int .i64 1, .int .i64 1, .int .i64 1, .int .i64 0, .int .i64 0, .int .i64 0, .string (⟨#[97]⟩ : ByteArray), .slice none 0 0, .int .i64 0, .int .i64 0, .int .i64 0, .int .i64 1, .int .i64 2, .int .i64 2, .int .i64 0, .int .i64 0, .int .i64 0, .string (⟨#[]⟩ : ByteArray), .slice none 0 0, .int .i64 1, .int .i64 1, .int .i64 0]) (ok := fun _ => True) (okp := fun _ => True) ?hr ?hp (fun _ hk => hk) trivial (Below.refl _ _) (Nat.le_refl _) (by simp) ?_; (case hd => rfl); (case hg => rfl); (case hr => first | (go_simp; done) | (go_simp; rfl)); (case hp => exact (Reps.front (show Kd.M kOp _ _ _ (⟨1, 1, 1, (⟨0, 0, 0⟩ : SElem), (⟨#[97]⟩ : ByteArray), ([] : List (SElem)), 0, 0, 0⟩ : SOp) [.int .i64 1, .int .i64 1, .int .i64 1, .int .i64 0, .int .i64 0, .int .i64 0, .string (⟨#[97]⟩ : ByteArray), .slice none 0 0, .int .i64 0, .int .i64 0, .int .i64 0] from (kOp_mkM _ _ _ (⟨1, 1, 1, (⟨0, 0, 0⟩ : SElem), (⟨#[97]⟩ : ByteArray), ([] : List (SElem)), 0, 0, 0⟩ : SOp) (Kd.R_nil _ _ _ _ _))) rfl (Reps.front (show Kd.M kOp _ _ _ (⟨1, 2, 2, (⟨0, 0, 0⟩ : SElem), (⟨#[]⟩ : ByteArray), ([] : List (SElem)), 1, 1, 0⟩ : SOp) [.int .i64 1, .int .i64 2, .int .i64 2, .int .i64 0, .int .i64 0, .int .i64 0, .string (⟨#[]⟩ : ByteArray), .slice none 0 0, .int .i64 1, .int .i64 1, .int .i64 0] from (kOp_mkM _ _ _ (⟨1, 2, 2, (⟨0, 0, 0⟩ : SElem), (⟨#[]⟩ : ByteArray), ([] : List (SElem)), 1, 1, 0⟩ : SOp) (Kd.R_nil _ _ _ _ _))) rfl (Reps.none _ _) rfl) rfl)); intro v197 w35 ho36 hb hg_ hnew_; clear hg_ hnew_; (first | rw [← Ny196.out] at ho36 | (simp only [Int.reduceToNat] at ho36; rw [← Ny196.out] at ho36)); have HO198 := Aside0.mk (Kd.S_lower ho36 (below_size (bw HB))); replace HB := bs HB hb; clear hb ho36; obtain ⟨Ao38, co38, eo38⟩ := Kd.S_slice HO198.out; subst eo38; have q37 : (1 : Int) ≤ ((y196.length : Int) : Int) := of_decide_eq_true (by first | (with_reducible assumption) | assumption); obtain ⟨i037, hi037, _, hsz37, _⟩ := info_parts info38; have hroom37 : y196.length ≤ co38 := (Kd.S_reads' HO198.out).2.1; have hC37 : Kd.C kOp _ Ao38 y196.length y196 := (Kd.S_reads' HO198.out).2.2; have hcut37 := cut_to (P := Try.prog) 24 38 .i64 Try.underlying24 hi037 Ao38 y196.length co38 1 (by omega) q37 hroom37; have hr37 := Kd.C_take (m := 1) hC37 (by omega); have hy37 : y199.length = (1 : Int).toNat := (by rw [Ny199.out, List.length_take]; omega); rw [← Ny199.out] at hr37; rw [← hy37] at hcut37; have HR202 := Aside0.mk hr37; have HC202 := Aside0.mk (show y199.length ≤ co38 from by omega); clear hr37 hC37 hroom37 hi037 hsz37; have KY37 := Aside0.mk hy37; clear hy37; have KL37 := Aside0.mk (show 1 ≤ y196.length from by omega); replace q37 := eq_true q37) | ((with_reducible refine gate_callee (f := 7) rfl ?_); refine gl (some 18) Try.func7 #[.slice Ao38 y199.length co38] (h := ?_); (with_reducible refine (doc_Text.calls _ _ y199 t203 t204 _ ?side1 ?side2 A3.out).mono ?_); (case side1 => repeat (first | exact (by repeat (first | (with_reducible exact HR202.out) | (with_reducible refine Kd.C_alloc ?_ _) | (with_reducible refine Kd.C_drewN ?_ _) | (with_reducible refine Kd.C_drew ?_) | exact HR202.out)) | (with_reducible refine Kd.C_alloc ?_ _) | (with_reducible refine Kd.C_drewN ?_ _) | (with_reducible refine Kd.C_drew ?_))); (case side2 => exact HC202.out); rintro e w39 ⟨rfl, hb⟩; refine ⟨_, rfl, ?_⟩; replace HO198 := Aside0.mk (Kd.S_below (by (with_reducible repeat (first | apply Kd.S_alloc | apply Kd.S_drewN | apply Kd.S_drew)); exact HO198.out) hb); replace HR202 := Aside0.mk (Kd.C_below (by repeat (first | (with_reducible exact HR202.out) | (with_reducible refine Kd.C_alloc ?_ _) | (with_reducible refine Kd.C_drewN ?_ _) | (with_reducible refine Kd.C_drew ?_) | exact HR202.out)) hb); replace HB := bs HB hb; (try clear hb); (try clear hb2); (try clear hk); (try clear hi)) | ((with_reducible refine gate_callee (f := 7) rfl ?_); refine gl (some 23) Try.func7 #[.slice Ao38 y196.length co38] (h := ?_); (with_reducible refine (doc_Text.calls _ _ y196 t205 t206 _ ?side1 ?side2 A4.out).mono ?_); (case side1 => repeat (first | exact (Kd.S_reads' HO198.out).2.2 | (with_reducible refine Kd.C_alloc ?_ _) | (with_reducible refine Kd.C_drewN ?_ _) | (with_reducible refine Kd.C_drew ?_))); (case side2 => exact (Kd.S_reads' HO198.out).2.1); rintro e w40 ⟨rfl, hb⟩; refine ⟨_, rfl, ?_⟩; replace HO198 := Aside0.mk (Kd.S_below (by (with_reducible repeat (first | apply Kd.S_alloc | apply Kd.S_drewN | apply Kd.S_drew)); exact HO198.out) hb); replace HR202 := Aside0.mk (Kd.C_below (by repeat (first | (with_reducible exact HR202.out) | (with_reducible refine Kd.C_alloc ?_ _) | (with_reducible refine Kd.C_drewN ?_ _) | (with_reducible refine Kd.C_drew ?_) | exact HR202.out)) hb); replace HB := bs HB hb; (try clear hb); (try clear hb2); (try clear hk); (try clear hi)) | ((with_reducible refine gate_callee (f := 8) rfl ?_); refine gl (some 27) Try.func8 #[.int .i64 t195] (h := ?_); (with_reducible refine (lectionarylaw6_num.calls t195 t207 _ A5.out).mono ?_); rintro e w' ⟨rfl, ⟨nd, rfl⟩⟩; refine ⟨_, rfl, ?_⟩) | (go_at_call 8; (with_reducible refine (lectionarylaw6_num.calls t204 t208 _ A7.out).mono ?_); rintro e w' ⟨rfl, ⟨nd, rfl⟩⟩) | (go_at_call 8; (with_reducible refine (lectionarylaw6_num.calls t206 t209 _ A9.out).mono ?_); rintro e w' ⟨rfl, ⟨nd, rfl⟩⟩))
    go_ret
    exact ⟨re, bw HB⟩
   rw [if_neg c8] at H
   have c8b0 : (t208 == 0) = false := beq_eq_false_iff_ne.mpr c8
   have c8b1 : (t208 != 0) = true := bne_iff_ne.mpr c8
   obtain rfl := Option.some.inj H
   go_enter Try.func14, Try.ntmps14
   go_wp2_with (first | ((with_reducible refine gate_callee (f := 7) rfl ?_); refine gl (some 9) Try.func7 #[.slice none 0 0] (h := ?_); (refine (doc_Text.calls _ _ ([] : List (SOp)) t194 t195 _ ?side1 ?side2 A1.out).mono ?_); (case side1 => exact Kd.C_nil _ _); (case side2 => exact Nat.le_refl _); rintro e w41 ⟨rfl, hb⟩; refine ⟨_, rfl, ?_⟩; replace HB := bs HB hb; (try clear hb); (try clear hb2); (try clear hk); (try clear hi)) | ((with_reducible refine gate_dst (N := 14) rfl ?_); refine Kd.S_lit kOp _ 38 ?hg (N := 14) ?hd (xs := ([(⟨1, 1, 1, (⟨0, 0, 0⟩ : SElem), (⟨#[97]⟩ : ByteArray), ([] : List (SElem)), 0, 0, 0⟩ : SOp), (⟨1, 2, 2, (⟨0, 0, 0⟩ : SElem), (⟨#[]⟩ : ByteArray), ([] : List (SElem)), 1, 1, 0⟩ : SOp)] : List (SOp))) (inner := [.int .i64 1, .int .i64 1, .int .i64 1, .int .i64 0, .int .i64 0, .int .i64 0, .string (⟨#[97]⟩ : ByteArray), .slice none 0 0, .int .i64 0, .int .i64 0, .int .i64 0, .int .i64 1, .int .i64 2, .int .i64 2, .int .i64 0, .int .i64 0, .int .i64 0, .string (⟨#[]⟩ : ByteArray), .slice none 0 0, .int .i64 1, .int .i64 1, .int .i64 0]) (ok := fun _ => True) (okp := fun _ => True) ?hr ?hp (fun _ hk => hk) trivial (Below.refl _ _) (Nat.le_refl _) (by simp) ?_; (case hd => rfl); (case hg => rfl); (case hr => first | (go_simp; done) | (go_simp; rfl)); (case hp => exact (Reps.front (show Kd.M kOp _ _ _ (⟨1, 1, 1, (⟨0, 0, 0⟩ : SElem), (⟨#[97]⟩ : ByteArray), ([] : List (SElem)), 0, 0, 0⟩ : SOp) [.int .i64 1, .int .i64 1, .int .i64 1, .int .i64 0, .int .i64 0, .int .i64 0, .string (⟨#[97]⟩ : ByteArray), .slice none 0 0, .int .i64 0, .int .i64 0, .int .i64 0] from (kOp_mkM _ _ _ (⟨1, 1, 1, (⟨0, 0, 0⟩ : SElem), (⟨#[97]⟩ : ByteArray), ([] : List (SElem)), 0, 0, 0⟩ : SOp) (Kd.R_nil _ _ _ _ _))) rfl (Reps.front (show Kd.M kOp _ _ _ (⟨1, 2, 2, (⟨0, 0, 0⟩ : SElem), (⟨#[]⟩ : ByteArray), ([] : List (SElem)), 1, 1, 0⟩ : SOp) [.int .i64 1, .int .i64 2, .int .i64 2, .int .i64 0, .int .i64 0, .int .i64 0, .string (⟨#[]⟩ : ByteArray), .slice none 0 0, .int .i64 1, .int .i64 1, .int .i64 0] from (kOp_mkM _ _ _ (⟨1, 2, 2, (⟨0, 0, 0⟩ : SElem), (⟨#[]⟩ : ByteArray), ([] : List (SElem)), 1, 1, 0⟩ : SOp) (Kd.R_nil _ _ _ _ _))) rfl (Reps.none _ _) rfl) rfl)); intro v197 w42 ho43 hb hg_ hnew_; clear hg_ hnew_; (first | rw [← Ny196.out] at ho43 | (simp only [Int.reduceToNat] at ho43; rw [← Ny196.out] at ho43)); have HO198 := Aside0.mk (Kd.S_lower ho43 (below_size (bw HB))); replace HB := bs HB hb; clear hb ho43; obtain ⟨Ao45, co45, eo45⟩ := Kd.S_slice HO198.out; subst eo45; have q44 : (1 : Int) ≤ ((y196.length : Int) : Int) := of_decide_eq_true (by first | (with_reducible assumption) | assumption); obtain ⟨i044, hi044, _, hsz44, _⟩ := info_parts info38; have hroom44 : y196.length ≤ co45 := (Kd.S_reads' HO198.out).2.1; have hC44 : Kd.C kOp _ Ao45 y196.length y196 := (Kd.S_reads' HO198.out).2.2; have hcut44 := cut_to (P := Try.prog) 24 38 .i64 Try.underlying24 hi044 Ao45 y196.length co45 1 (by omega) q44 hroom44; have hr44 := Kd.C_take (m := 1) hC44 (by omega); have hy44 : y199.length = (1 : Int).toNat := (by rw [Ny199.out, List.length_take]; omega); rw [← Ny199.out] at hr44; rw [← hy44] at hcut44; have HR202 := Aside0.mk hr44; have HC202 := Aside0.mk (show y199.length ≤ co45 from by omega); clear hr44 hC44 hroom44 hi044 hsz44; have KY44 := Aside0.mk hy44; clear hy44; have KL44 := Aside0.mk (show 1 ≤ y196.length from by omega); replace q44 := eq_true q44) | ((with_reducible refine gate_callee (f := 7) rfl ?_); refine gl (some 18) Try.func7 #[.slice Ao45 y199.length co45] (h := ?_); (with_reducible refine (doc_Text.calls _ _ y199 t203 t204 _ ?side1 ?side2 A3.out).mono ?_); (case side1 => repeat (first | exact (by repeat (first | (with_reducible exact HR202.out) | (with_reducible refine Kd.C_alloc ?_ _) | (with_reducible refine Kd.C_drewN ?_ _) | (with_reducible refine Kd.C_drew ?_) | exact HR202.out)) | (with_reducible refine Kd.C_alloc ?_ _) | (with_reducible refine Kd.C_drewN ?_ _) | (with_reducible refine Kd.C_drew ?_))); (case side2 => exact HC202.out); rintro e w46 ⟨rfl, hb⟩; refine ⟨_, rfl, ?_⟩; replace HO198 := Aside0.mk (Kd.S_below (by (with_reducible repeat (first | apply Kd.S_alloc | apply Kd.S_drewN | apply Kd.S_drew)); exact HO198.out) hb); replace HR202 := Aside0.mk (Kd.C_below (by repeat (first | (with_reducible exact HR202.out) | (with_reducible refine Kd.C_alloc ?_ _) | (with_reducible refine Kd.C_drewN ?_ _) | (with_reducible refine Kd.C_drew ?_) | exact HR202.out)) hb); replace HB := bs HB hb; (try clear hb); (try clear hb2); (try clear hk); (try clear hi)) | ((with_reducible refine gate_callee (f := 7) rfl ?_); refine gl (some 23) Try.func7 #[.slice Ao45 y196.length co45] (h := ?_); (with_reducible refine (doc_Text.calls _ _ y196 t205 t206 _ ?side1 ?side2 A4.out).mono ?_); (case side1 => repeat (first | exact (Kd.S_reads' HO198.out).2.2 | (with_reducible refine Kd.C_alloc ?_ _) | (with_reducible refine Kd.C_drewN ?_ _) | (with_reducible refine Kd.C_drew ?_))); (case side2 => exact (Kd.S_reads' HO198.out).2.1); rintro e w47 ⟨rfl, hb⟩; refine ⟨_, rfl, ?_⟩; replace HO198 := Aside0.mk (Kd.S_below (by (with_reducible repeat (first | apply Kd.S_alloc | apply Kd.S_drewN | apply Kd.S_drew)); exact HO198.out) hb); replace HR202 := Aside0.mk (Kd.C_below (by repeat (first | (with_reducible exact HR202.out) | (with_reducible refine Kd.C_alloc ?_ _) | (with_reducible refine Kd.C_drewN ?_ _) | (with_reducible refine Kd.C_drew ?_) | exact HR202.out)) hb); replace HB := bs HB hb; (try clear hb); (try clear hb2); (try clear hk); (try clear hi)) | ((with_reducible refine gate_callee (f := 8) rfl ?_); refine gl (some 27) Try.func8 #[.int .i64 t195] (h := ?_); (with_reducible refine (lectionarylaw6_num.calls t195 t207 _ A5.out).mono ?_); rintro e w' ⟨rfl, ⟨nd, rfl⟩⟩; refine ⟨_, rfl, ?_⟩) | (go_at_call 8; (with_reducible refine (lectionarylaw6_num.calls t204 t208 _ A7.out).mono ?_); rintro e w' ⟨rfl, ⟨nd, rfl⟩⟩))
   go_ret
   exact ⟨re, bw HB⟩
  rw [if_neg c6] at H
  have c6b0 : (t207 == 0) = false := beq_eq_false_iff_ne.mpr c6
  have c6b1 : (t207 != 0) = true := bne_iff_ne.mpr c6
  obtain rfl := Option.some.inj H
  go_enter Try.func14, Try.ntmps14
  go_wp2_with (first | ((with_reducible refine gate_callee (f := 7) rfl ?_); refine gl (some 9) Try.func7 #[.slice none 0 0] (h := ?_); (refine (doc_Text.calls _ _ ([] : List (SOp)) t194 t195 _ ?side1 ?side2 A1.out).mono ?_); (case side1 => exact Kd.C_nil _ _); (case side2 => exact Nat.le_refl _); rintro e w48 ⟨rfl, hb⟩; refine ⟨_, rfl, ?_⟩; replace HB := bs HB hb; (try clear hb); (try clear hb2); (try clear hk); (try clear hi)) | ((with_reducible refine gate_dst (N := 14) rfl ?_); refine Kd.S_lit kOp _ 38 ?hg (N := 14) ?hd (xs := ([(⟨1, 1, 1, (⟨0, 0, 0⟩ : SElem), (⟨#[97]⟩ : ByteArray), ([] : List (SElem)), 0, 0, 0⟩ : SOp), (⟨1, 2, 2, (⟨0, 0, 0⟩ : SElem), (⟨#[]⟩ : ByteArray), ([] : List (SElem)), 1, 1, 0⟩ : SOp)] : List (SOp))) (inner := [.int .i64 1, .int .i64 1, .int .i64 1, .int .i64 0, .int .i64 0, .int .i64 0, .string (⟨#[97]⟩ : ByteArray), .slice none 0 0, .int .i64 0, .int .i64 0, .int .i64 0, .int .i64 1, .int .i64 2, .int .i64 2, .int .i64 0, .int .i64 0, .int .i64 0, .string (⟨#[]⟩ : ByteArray), .slice none 0 0, .int .i64 1, .int .i64 1, .int .i64 0]) (ok := fun _ => True) (okp := fun _ => True) ?hr ?hp (fun _ hk => hk) trivial (Below.refl _ _) (Nat.le_refl _) (by simp) ?_; (case hd => rfl); (case hg => rfl); (case hr => first | (go_simp; done) | (go_simp; rfl)); (case hp => exact (Reps.front (show Kd.M kOp _ _ _ (⟨1, 1, 1, (⟨0, 0, 0⟩ : SElem), (⟨#[97]⟩ : ByteArray), ([] : List (SElem)), 0, 0, 0⟩ : SOp) [.int .i64 1, .int .i64 1, .int .i64 1, .int .i64 0, .int .i64 0, .int .i64 0, .string (⟨#[97]⟩ : ByteArray), .slice none 0 0, .int .i64 0, .int .i64 0, .int .i64 0] from (kOp_mkM _ _ _ (⟨1, 1, 1, (⟨0, 0, 0⟩ : SElem), (⟨#[97]⟩ : ByteArray), ([] : List (SElem)), 0, 0, 0⟩ : SOp) (Kd.R_nil _ _ _ _ _))) rfl (Reps.front (show Kd.M kOp _ _ _ (⟨1, 2, 2, (⟨0, 0, 0⟩ : SElem), (⟨#[]⟩ : ByteArray), ([] : List (SElem)), 1, 1, 0⟩ : SOp) [.int .i64 1, .int .i64 2, .int .i64 2, .int .i64 0, .int .i64 0, .int .i64 0, .string (⟨#[]⟩ : ByteArray), .slice none 0 0, .int .i64 1, .int .i64 1, .int .i64 0] from (kOp_mkM _ _ _ (⟨1, 2, 2, (⟨0, 0, 0⟩ : SElem), (⟨#[]⟩ : ByteArray), ([] : List (SElem)), 1, 1, 0⟩ : SOp) (Kd.R_nil _ _ _ _ _))) rfl (Reps.none _ _) rfl) rfl)); intro v197 w49 ho50 hb hg_ hnew_; clear hg_ hnew_; (first | rw [← Ny196.out] at ho50 | (simp only [Int.reduceToNat] at ho50; rw [← Ny196.out] at ho50)); have HO198 := Aside0.mk (Kd.S_lower ho50 (below_size (bw HB))); replace HB := bs HB hb; clear hb ho50; obtain ⟨Ao52, co52, eo52⟩ := Kd.S_slice HO198.out; subst eo52; have q51 : (1 : Int) ≤ ((y196.length : Int) : Int) := of_decide_eq_true (by first | (with_reducible assumption) | assumption); obtain ⟨i051, hi051, _, hsz51, _⟩ := info_parts info38; have hroom51 : y196.length ≤ co52 := (Kd.S_reads' HO198.out).2.1; have hC51 : Kd.C kOp _ Ao52 y196.length y196 := (Kd.S_reads' HO198.out).2.2; have hcut51 := cut_to (P := Try.prog) 24 38 .i64 Try.underlying24 hi051 Ao52 y196.length co52 1 (by omega) q51 hroom51; have hr51 := Kd.C_take (m := 1) hC51 (by omega); have hy51 : y199.length = (1 : Int).toNat := (by rw [Ny199.out, List.length_take]; omega); rw [← Ny199.out] at hr51; rw [← hy51] at hcut51; have HR202 := Aside0.mk hr51; have HC202 := Aside0.mk (show y199.length ≤ co52 from by omega); clear hr51 hC51 hroom51 hi051 hsz51; have KY51 := Aside0.mk hy51; clear hy51; have KL51 := Aside0.mk (show 1 ≤ y196.length from by omega); replace q51 := eq_true q51) | ((with_reducible refine gate_callee (f := 7) rfl ?_); refine gl (some 18) Try.func7 #[.slice Ao52 y199.length co52] (h := ?_); (with_reducible refine (doc_Text.calls _ _ y199 t203 t204 _ ?side1 ?side2 A3.out).mono ?_); (case side1 => repeat (first | exact (by repeat (first | (with_reducible exact HR202.out) | (with_reducible refine Kd.C_alloc ?_ _) | (with_reducible refine Kd.C_drewN ?_ _) | (with_reducible refine Kd.C_drew ?_) | exact HR202.out)) | (with_reducible refine Kd.C_alloc ?_ _) | (with_reducible refine Kd.C_drewN ?_ _) | (with_reducible refine Kd.C_drew ?_))); (case side2 => exact HC202.out); rintro e w53 ⟨rfl, hb⟩; refine ⟨_, rfl, ?_⟩; replace HO198 := Aside0.mk (Kd.S_below (by (with_reducible repeat (first | apply Kd.S_alloc | apply Kd.S_drewN | apply Kd.S_drew)); exact HO198.out) hb); replace HR202 := Aside0.mk (Kd.C_below (by repeat (first | (with_reducible exact HR202.out) | (with_reducible refine Kd.C_alloc ?_ _) | (with_reducible refine Kd.C_drewN ?_ _) | (with_reducible refine Kd.C_drew ?_) | exact HR202.out)) hb); replace HB := bs HB hb; (try clear hb); (try clear hb2); (try clear hk); (try clear hi)) | ((with_reducible refine gate_callee (f := 7) rfl ?_); refine gl (some 23) Try.func7 #[.slice Ao52 y196.length co52] (h := ?_); (with_reducible refine (doc_Text.calls _ _ y196 t205 t206 _ ?side1 ?side2 A4.out).mono ?_); (case side1 => repeat (first | exact (Kd.S_reads' HO198.out).2.2 | (with_reducible refine Kd.C_alloc ?_ _) | (with_reducible refine Kd.C_drewN ?_ _) | (with_reducible refine Kd.C_drew ?_))); (case side2 => exact (Kd.S_reads' HO198.out).2.1); rintro e w54 ⟨rfl, hb⟩; refine ⟨_, rfl, ?_⟩; replace HO198 := Aside0.mk (Kd.S_below (by (with_reducible repeat (first | apply Kd.S_alloc | apply Kd.S_drewN | apply Kd.S_drew)); exact HO198.out) hb); replace HR202 := Aside0.mk (Kd.C_below (by repeat (first | (with_reducible exact HR202.out) | (with_reducible refine Kd.C_alloc ?_ _) | (with_reducible refine Kd.C_drewN ?_ _) | (with_reducible refine Kd.C_drew ?_) | exact HR202.out)) hb); replace HB := bs HB hb; (try clear hb); (try clear hb2); (try clear hk); (try clear hi)) | ((with_reducible refine gate_callee (f := 8) rfl ?_); refine gl (some 27) Try.func8 #[.int .i64 t195] (h := ?_); (with_reducible refine (lectionarylaw6_num.calls t195 t207 _ A5.out).mono ?_); rintro e w' ⟨rfl, ⟨nd, rfl⟩⟩; refine ⟨_, rfl, ?_⟩))
  go_ret
  exact ⟨re, bw HB⟩
 rw [if_neg c2] at H
 exact absurd H (by simp)
def doc_Visible.f (l0 : List (SOp)) : Option ((List (SElem)) × Int) := (tree_May.f l0).bind fun t210 => (if t210 = true then ((doc_Seen.f l0).bind fun t211 => (some (t211, 0))) else (some (([] : List (SElem)), 1)))
set_option maxHeartbeats 8000000 in
set_option maxRecDepth 100000 in
theorem doc_Visible.calls (A0 : Option Addr) (c0 : Nat) (l0 : List (SOp)) (r1 : List (SElem)) (r2 : Int) (w : World) (hr0 : Kd.C kOp w A0 l0.length l0) (hc0 : l0.length ≤ c0) (h : doc_Visible.f l0 = some (r1, r2)) :
  Calls Try.prog 15 #[.slice A0 l0.length c0] w fun e w' => ∃ v0_ : Value, e = .returned (.tuple #[v0_, .int .i64 r2]) ∧ Kd.R kElem 36 w' w.heap.size (fun _ => True) v0_ r1 ∧ Below w.heap.size w w' := by
 have HR0 := Aside0.mk hr0
 have HC0 := Aside0.mk hc0
 clear hr0 hc0
 have HB := Aside0.mk (Below.refl w.heap.size w)
 have H : ((tree_May.f l0).bind fun t210 => (if t210 = true then ((doc_Seen.f l0).bind fun t211 => (some (t211, 0))) else (some (([] : List (SElem)), 1)))) = some (r1, r2) := h
 clear h
 replace H := Option.bind_eq_some_iff.mp H
 obtain ⟨t210, A20, H⟩ := H
 replace H : (if t210 = true then ((doc_Seen.f l0).bind fun t211 => (some (t211, 0))) else (some (([] : List (SElem)), 1))) = some (r1, r2) := H
 have A2 := Aside0.mk A20
 clear A20
 by_cases c3 : t210 = true
 ·subst c3
  have H1 : ((doc_Seen.f l0).bind fun t211 => (some (t211, 0))) = some (r1, r2) := by rw [if_pos rfl] at H; exact H
  clear H
  have H := H1
  clear H1
  replace H := Option.bind_eq_some_iff.mp H
  obtain ⟨t211, A40, H⟩ := H
  replace H : (some (t211, 0)) = some (r1, r2) := H
  have A4 := Aside0.mk A40
  clear A40
  simp only [Option.some.injEq, Prod.mk.injEq] at H
  obtain ⟨rfl, rfl⟩ := H
  go_enter Try.func15, Try.ntmps15
  go_wp2_with (first | ((with_reducible refine gate_callee (f := 27) rfl ?_); refine gl (some 5) Try.func27 #[.slice A0 l0.length c0] (h := ?_); (with_reducible refine (tree_May.calls _ _ l0 true _ ?side1 ?side2 A2.out).mono ?_); (case side1 => repeat (first | exact HR0.out | (with_reducible refine Kd.C_alloc ?_ _) | (with_reducible refine Kd.C_drewN ?_ _) | (with_reducible refine Kd.C_drew ?_))); (case side2 => exact HC0.out); rintro e w5 ⟨rfl, hb⟩; refine ⟨_, rfl, ?_⟩; replace HB := bs HB hb; (try clear hb); (try clear hb2); (try clear hk); (try clear hi)) | ((with_reducible refine gate_callee (f := 34) rfl ?_); refine gl (some 8) Try.func34 #[.slice A0 l0.length c0] (h := ?_); (with_reducible refine (doc_Seen.calls _ _ l0 t211 _ ?side1 ?side2 A4.out).mono ?_); (case side1 => repeat (first | exact (Kd.C_below HR0.out HB.out) | (with_reducible refine Kd.C_alloc ?_ _) | (with_reducible refine Kd.C_drewN ?_ _) | (with_reducible refine Kd.C_drew ?_))); (case side2 => exact HC0.out); rintro e w6 ⟨v212, rfl, ho0, hb⟩; refine ⟨_, rfl, ?_⟩; have HO213 := Aside0.mk (Kd.R_lower ho0 (below_size (bw HB))); replace HB := bs HB hb; (try clear hb); (try clear hb2); (try clear hk); (try clear hi); (try clear ho0)))
  go_ret2
  exact ⟨_, re, by (with_reducible repeat (first | apply Kd.R_alloc | apply Kd.R_drewN | apply Kd.R_drew)); exact HO213.out, bw HB⟩
 replace c3 := Bool.eq_false_iff.mpr c3
 subst c3
 have H1 : (some (([] : List (SElem)), 1)) = some (r1, r2) := by rw [if_neg (show ¬ (false = true) by decide)] at H; exact H
 clear H
 have H := H1
 clear H1
 simp only [Option.some.injEq, Prod.mk.injEq] at H
 obtain ⟨rfl, rfl⟩ := H
 go_enter Try.func15, Try.ntmps15
 go_wp2_with (first | ((with_reducible refine gate_callee (f := 27) rfl ?_); refine gl (some 5) Try.func27 #[.slice A0 l0.length c0] (h := ?_); (with_reducible refine (tree_May.calls _ _ l0 false _ ?side1 ?side2 A2.out).mono ?_); (case side1 => repeat (first | exact HR0.out | (with_reducible refine Kd.C_alloc ?_ _) | (with_reducible refine Kd.C_drewN ?_ _) | (with_reducible refine Kd.C_drew ?_))); (case side2 => exact HC0.out); rintro e w7 ⟨rfl, hb⟩; refine ⟨_, rfl, ?_⟩; replace HB := bs HB hb; (try clear hb); (try clear hb2); (try clear hk); (try clear hi)))
 go_ret2
 exact ⟨_, re, by first | exact Kd.R_nil _ _ _ _ _ | exact Kd.N_nil _ _ _ _ _ | exact Kd.V_nil _ _ _ _ _ | exact Kd.Q_nil _ _ _ _ _ | exact Kd.S_nil _ _ _ _ _, bw HB⟩
end Go.Proofs.Ytonoaflfobajcaa.L
end

section
namespace Go.Proofs.Ytonoaflfobajcaa.L
open Go.RowKit Go.Proofs.YtonoaflfobajcaaW.PrintWords Go.Proofs.YtonoaflfobajcaaW.PrintLast Go.Proofs.YtonoaflfobajcaaW.PrintMore
attribute [local go_sem] max2_int min2_int max_two min_two max_three min_three max_four min_four
set_option linter.unusedVariables false
set_option linter.unusedSimpArgs false
attribute [local go_sem high] eqAElem
def tree_Written.f (l0 : List (SOp)) (a1_0 : Int) (a1_1 : Int) (a1_2 : Int) : Option (Bool) := (tree_Find.f l0 a1_0 a1_1).bind fun t215 => (if t215 ≥ 0 then (if a1_2 ≥ 0 then (if 0 ≤ t215 then (if t215 < (l0.length : Int) then ((op_Size.f ((rd_Op l0 t215).f0) ((rd_Op l0 t215).f1) ((rd_Op l0 t215).f2) ((rd_Op l0 t215).f3.f0) ((rd_Op l0 t215).f3.f1) ((rd_Op l0 t215).f3.f2) ((rd_Op l0 t215).f4) ((rd_Op l0 t215).f5) ((rd_Op l0 t215).f6) ((rd_Op l0 t215).f7) ((rd_Op l0 t215).f8)).bind fun t217 => (some (decide (a1_2 < t217)))) else (none)) else (none)) else (some false)) else (some false))
def tree_Written.T2 : Bool × List (List Nat × List Nat) := (true, [([], []), ([0], [0]), ([1], [1]), ([2], [2]), ([3, 2], [2, 3]), ([4, 2], [2, 4]), ([2, 5], [2, 5]), ([6, 2], [6]), ([7], [7]), ([8, 7], [7, 8]), ([7], [7]), ([7], [7]), ([10, 11, 7], [7, 10, 11]), ([12, 7], [7, 12]), ([13, 7, 7], [7, 13]), ([9, 14, 7], [7, 9, 14]), ([7, 15], [7, 15]), ([16, 14, 0, 1, 2, 3, 4, 5, 6, 7, 8, 9, 10, 11, 12, 13, 14, 15, 16], [16])])
def tree_Written.B2 : List Nat := [0, 1, 3, 7, 15, 31, 63, 127, 255, 511, 255, 255, 3327, 7423, 15615, 32767, 65535, 131071]
theorem tree_Written.tab2 : rtab .any (opsOf Try.f35 2) = tree_Written.T2 := by kernel_rfl
theorem tree_Written.bits2 : waitsOk tree_Written.T2.2 tree_Written.B2 = true := by kernel_rfl
set_option maxHeartbeats 8000000 in
set_option maxRecDepth 100000 in
theorem tree_Written.calls (A0 : Option Addr) (c0 : Nat) (l0 : List (SOp)) (a1_0 : Int) (a1_1 : Int) (a1_2 : Int) (r : Bool) (w : World) (hr0 : Kd.C kOp w A0 l0.length l0) (hc0 : l0.length ≤ c0) (h : tree_Written.f l0 a1_0 a1_1 a1_2 = some r) :
  Calls Try.prog 35 #[.slice A0 l0.length c0, .agg #[.int .i64 a1_0, .int .i64 a1_1, .int .i64 a1_2]] w fun e w' => e = .returned (.bool r) ∧ Below w.heap.size w w' := by
 have hu36 := Try.underlying36
 have hu38 := Try.underlying38
 have HR0 := Aside0.mk hr0
 have HC0 := Aside0.mk hc0
 clear hr0 hc0
 have HB := Aside0.mk (Below.refl w.heap.size w)
 have H : ((tree_Find.f l0 a1_0 a1_1).bind fun t215 => (if t215 ≥ 0 then (if a1_2 ≥ 0 then (if 0 ≤ t215 then (if t215 < (l0.length : Int) then ((op_Size.f ((rd_Op l0 t215).f0) ((rd_Op l0 t215).f1) ((rd_Op l0 t215).f2) ((rd_Op l0 t215).f3.f0) ((rd_Op l0 t215).f3.f1) ((rd_Op l0 t215).f3.f2) ((rd_Op l0 t215).f4) ((rd_Op l0 t215).f5) ((rd_Op l0 t215).f6) ((rd_Op l0 t215).f7) ((rd_Op l0 t215).f8)).bind fun t217 => (some (decide (a1_2 < t217)))) else (none)) else (none)) else (some false)) else (some false))) = some r := h
 clear h
 replace H := Option.bind_eq_some_iff.mp H
 obtain ⟨t215, A30, H⟩ := H
 replace H : (if t215 ≥ 0 then (if a1_2 ≥ 0 then (if 0 ≤ t215 then (if t215 < (l0.length : Int) then ((op_Size.f ((rd_Op l0 t215).f0) ((rd_Op l0 t215).f1) ((rd_Op l0 t215).f2) ((rd_Op l0 t215).f3.f0) ((rd_Op l0 t215).f3.f1) ((rd_Op l0 t215).f3.f2) ((rd_Op l0 t215).f4) ((rd_Op l0 t215).f5) ((rd_Op l0 t215).f6) ((rd_Op l0 t215).f7) ((rd_Op l0 t215).f8)).bind fun t217 => (some (decide (a1_2 < t217)))) else (none)) else (none)) else (some false)) else (some false)) = some r := H
 have A3 := Aside0.mk A30
 clear A30
 by_cases c4 : t215 ≥ 0
 ·rw [if_pos c4] at H
  have c4b0 : decide (0 ≤ t215) = true := decide_eq_true c4
  clear c4
  by_cases c5 : a1_2 ≥ 0
  ·rw [if_pos c5] at H
   have c5b0 : decide (0 ≤ a1_2) = true := decide_eq_true c5
   clear c5
   by_cases c6 : 0 ≤ t215
   ·rw [if_pos c6] at H
    have c6b0 : decide (0 ≤ t215) = true := decide_eq_true c6
    clear c6
    by_cases c7 : t215 < (l0.length : Int)
    ·rw [if_pos c7] at H
     have c7b0 : decide (t215 < (l0.length : Int)) = true := decide_eq_true c7
     clear c7
     replace H := Option.bind_eq_some_iff.mp H
     obtain ⟨t217, A80, H⟩ := H
     replace H : (some (decide (a1_2 < t217))) = some r := H
     have A8 := Aside0.mk A80
     clear A80
     obtain rfl := Option.some.inj H
     go_enter Try.func35, Try.ntmps35
     try go_wp2_with (first | ((with_reducible refine gate_dst (N := 3) rfl ?_); refine bx 3 #[.int .i64 a1_0, .int .i64 a1_1, .int .i64 a1_2] 36 (h := ?_); intro gb214 hg w9 hbox hb; have BK214 := Aside0.mk (hbox); have GW214 := bz HB hg; have GE214 := bz HB hg; replace HB := bs HB hb; clear hb hbox hg; obtain ⟨hcz10_0, hcz10_1, hcz10_2, hfz10_0, hfz10_1, hfz10_2⟩ := kc3 BK214) | ((with_reducible refine gate_callee (f := 33) rfl ?_); refine gl (some 11) Try.func33 #[.slice A0 l0.length c0, .int .i64 a1_0, .int .i64 a1_1] (h := ?_); (with_reducible refine (tree_Find.calls _ _ l0 a1_0 a1_1 t215 _ ?side1 ?side2 A3.out).mono ?_); (case side1 => repeat (first | exact (Kd.C_below HR0.out HB.out) | (with_reducible refine Kd.C_alloc ?_ _) | (with_reducible refine Kd.C_drewN ?_ _) | (with_reducible refine Kd.C_drew ?_))); (case side2 => exact HC0.out); rintro e w11 ⟨rfl, hb⟩; refine ⟨_, rfl, ?_⟩; replace BK214 := bl BK214 hb; replace HB := bs HB hb; (try clear hb); (try clear hb2); (try clear hk); (try clear hi)))
     have n0_ := Aside0.mk (blk_drew BK214.out)
     have n1_ := Aside0.mk (below_drew1 HB.out)
     clear BK214
     clear HB
     have BK214 := n0_
     have HB := n1_
     clear n0_ n1_
     have p216 : 0 ≤ (t215 : Int) := of_decide_eq_true (by first | (with_reducible assumption) | assumption)
     have q216 : t215 < (l0.length : Int) := of_decide_eq_true (by first | (with_reducible assumption) | assumption)
     obtain ⟨ad216, A216_7, c216_7, e216, hx216_0, hx216_1, hx216_2, hx216_3, hx216_4, hx216_5, hx216_6, hx216_7, hx216_8, hx216_9, hx216_10, hl216_7, hi216_7⟩ := at_Op HR0.out t215 p216 q216
     have hw216_10 := hx216_10
     have hw216_9 := hx216_9
     have hw216_8 := hx216_8
     have hw216_7 := hx216_7
     have hw216_6 := hx216_6
     have hw216_5 := hx216_5
     have hw216_4 := hx216_4
     have hw216_3 := hx216_3
     have hw216_2 := hx216_2
     have hw216_1 := hx216_1
     have hw216_0 := hx216_0
     cases e216
     replace hx216_0 := cl HB hx216_0
     replace hx216_1 := cl HB hx216_1
     replace hx216_2 := cl HB hx216_2
     replace hx216_3 := cl HB hx216_3
     replace hx216_4 := cl HB hx216_4
     replace hx216_5 := cl HB hx216_5
     replace hx216_6 := cl HB hx216_6
     replace hx216_7 := cl HB hx216_7
     replace hx216_8 := cl HB hx216_8
     replace hx216_9 := cl HB hx216_9
     replace hx216_10 := cl HB hx216_10
     have HR216_7 := Aside0.mk hi216_7
     have HC216_7 := Aside0.mk hl216_7
     clear hi216_7 hl216_7
     replace p216 := eq_true p216
     replace q216 := eq_true q216
     refine stP (fun w' => B3 w' gb214 (.int .i64 a1_0) (.int .i64 a1_1) (.int .i64 a1_2) (w'.cell? (ad216.add ((t215).toNat * 11)) = some (.int .i64 ((rd_Op l0 t215).f0)) ∧ w'.cell? ⟨(ad216.add ((t215).toNat * 11)).block, (ad216.add ((t215).toNat * 11)).off + 1, none⟩ = some (.int .i64 ((rd_Op l0 t215).f1)) ∧ w'.cell? ⟨(ad216.add ((t215).toNat * 11)).block, (ad216.add ((t215).toNat * 11)).off + 2, none⟩ = some (.int .i64 ((rd_Op l0 t215).f2)) ∧ w'.cell? ⟨(ad216.add ((t215).toNat * 11)).block, (ad216.add ((t215).toNat * 11)).off + 3, none⟩ = some (.int .i64 ((rd_Op l0 t215).f3.f0)) ∧ w'.cell? ⟨(ad216.add ((t215).toNat * 11)).block, (ad216.add ((t215).toNat * 11)).off + 4, none⟩ = some (.int .i64 ((rd_Op l0 t215).f3.f1)) ∧ w'.cell? ⟨(ad216.add ((t215).toNat * 11)).block, (ad216.add ((t215).toNat * 11)).off + 5, none⟩ = some (.int .i64 ((rd_Op l0 t215).f3.f2)) ∧ w'.cell? ⟨(ad216.add ((t215).toNat * 11)).block, (ad216.add ((t215).toNat * 11)).off + 6, none⟩ = some (.string ((rd_Op l0 t215).f4)) ∧ w'.cell? ⟨(ad216.add ((t215).toNat * 11)).block, (ad216.add ((t215).toNat * 11)).off + 7, none⟩ = some (.slice A216_7 ((rd_Op l0 t215).f5).length c216_7) ∧ w'.cell? ⟨(ad216.add ((t215).toNat * 11)).block, (ad216.add ((t215).toNat * 11)).off + 8, none⟩ = some (.int .i64 ((rd_Op l0 t215).f6)) ∧ w'.cell? ⟨(ad216.add ((t215).toNat * 11)).block, (ad216.add ((t215).toNat * 11)).off + 9, none⟩ = some (.int .i64 ((rd_Op l0 t215).f7)) ∧ w'.cell? ⟨(ad216.add ((t215).toNat * 11)).block, (ad216.add ((t215).toNat * 11)).off + 10, none⟩ = some (.int .i64 ((rd_Op l0 t215).f8)))) 18 (b3 BK214 ⟨(cl HB hw216_0), (cl HB hw216_1), (cl HB hw216_2), (cl HB hw216_3), (cl HB hw216_4), (cl HB hw216_5), (cl HB hw216_6), (cl HB hw216_7), (cl HB hw216_8), (cl HB hw216_9), (cl HB hw216_10)⟩) (h := fun hHeld => ?_); refine with_tabW tree_Written.tab2 tree_Written.bits2 (fun HT_ HW_ => ?_)
     generalize w11.drew = w12 at BK214 HB HR216_7 hx216_0 hx216_1 hx216_10 hx216_2 hx216_3 hx216_4 hx216_5 hx216_6 hx216_7 hx216_8 hx216_9 hHeld ⊢
     refine pu HT_ 0 12 1 (h := ?_)
     refine pu HT_ 1 13 3 (h := ?_)
     refine pu HT_ 2 14 7 (h := ?_)
     refine pu HT_ 3 15 15 (h := ?_)
     refine tk HT_ HW_ hHeld 4 16 31 (h := ?_)
     refine pu HT_ 5 17 63 (h := ?_)
     refine pu HT_ 6 18 127 (h := ?_)
     refine pu HT_ 7 19 255 (h := ?_)
     refine pu HT_ 8 20 511 (h := ?_)
     refine pu HT_ 10 22 1535 (h := ?_)
     refine pu HT_ 11 23 3583 (h := ?_)
     refine pu HT_ 12 24 7679 (h := ?_)
     refine tk HT_ HW_ hHeld 9 21 8191 (h := ?_)
     refine tk HT_ HW_ hHeld 13 25 16383 (h := ?_)
     refine on HT_ 14 (some 26) 32767 (h := fun K hK => ?_)
     refine gS Try.func45 #[.agg #[.int .i64 ((rd_Op l0 t215).f0), .int .i64 ((rd_Op l0 t215).f1), .int .i64 ((rd_Op l0 t215).f2), .int .i64 ((rd_Op l0 t215).f3.f0), .int .i64 ((rd_Op l0 t215).f3.f1), .int .i64 ((rd_Op l0 t215).f3.f2), .string ((rd_Op l0 t215).f4), .slice A216_7 ((rd_Op l0 t215).f5).length c216_7, .int .i64 ((rd_Op l0 t215).f6), .int .i64 ((rd_Op l0 t215).f7), .int .i64 ((rd_Op l0 t215).f8)]] (h := ?_)
     with_reducible refine (op_Size.calls ((rd_Op l0 t215).f0) ((rd_Op l0 t215).f1) ((rd_Op l0 t215).f2) ((rd_Op l0 t215).f3.f0) ((rd_Op l0 t215).f3.f1) ((rd_Op l0 t215).f3.f2) ((rd_Op l0 t215).f4) _ _ ((rd_Op l0 t215).f5) ((rd_Op l0 t215).f6) ((rd_Op l0 t215).f7) ((rd_Op l0 t215).f8) t217 _ ?side1 ?side2 A8.out).mono ?_
     (case side1 => repeat (first | exact (Kd.C_below HR216_7.out HB.out) | (with_reducible refine Kd.C_alloc ?_ _) | (with_reducible refine Kd.C_drewN ?_ _) | (with_reducible refine Kd.C_drew ?_)))
     (case side2 => exact HC216_7.out)
     rintro e w13 ⟨rfl, hb⟩
     refine ⟨_, rfl, ?_⟩
     have n0_ := bl BK214 hb
     have n1_ := bs HB hb
     clear BK214
     clear HB
     have BK214 := n0_
     have HB := n1_
     clear n0_ n1_
     (try clear hb)
     (try clear hb2)
     (try clear hk)
     (try clear hi)
     refine hK.out _ _ (b3 BK214 ⟨(cl HB hw216_0), (cl HB hw216_1), (cl HB hw216_2), (cl HB hw216_3), (cl HB hw216_4), (cl HB hw216_5), (cl HB hw216_6), (cl HB hw216_7), (cl HB hw216_8), (cl HB hw216_9), (cl HB hw216_10)⟩) (fun hHeld => ?_)
     clear hK K
     refine nm (h := ?_)
     refine pu HT_ 15 27 65535 (h := ?_)
     refine pu HT_ 16 28 131071 (h := ?_)
     refine pu HT_ 17 4 262143 (h := ?_)
     refine dn HT_ (h := ?_)
     try go_wp2
     go_ret
     exact ⟨re, bw HB⟩
    rw [if_neg c7] at H
    exact absurd H (by simp)
   rw [if_neg c6] at H
   exact absurd H (by simp)
  rw [if_neg c5] at H
  have c5b0 : decide (0 ≤ a1_2) = false := decide_eq_false c5
  clear c5
  obtain rfl := Option.some.inj H
  go_enter Try.func35, Try.ntmps35
  try go_wp2_with (first | ((with_reducible refine gate_dst (N := 3) rfl ?_); refine bx 3 #[.int .i64 a1_0, .int .i64 a1_1, .int .i64 a1_2] 36 (h := ?_); intro gb214 hg w14 hbox hb; have BK214 := Aside0.mk (hbox); have GW214 := bz HB hg; have GE214 := bz HB hg; replace HB := bs HB hb; clear hb hbox hg; obtain ⟨hcz15_0, hcz15_1, hcz15_2, hfz15_0, hfz15_1, hfz15_2⟩ := kc3 BK214) | ((with_reducible refine gate_callee (f := 33) rfl ?_); refine gl (some 11) Try.func33 #[.slice A0 l0.length c0, .int .i64 a1_0, .int .i64 a1_1] (h := ?_); (with_reducible refine (tree_Find.calls _ _ l0 a1_0 a1_1 t215 _ ?side1 ?side2 A3.out).mono ?_); (case side1 => repeat (first | exact (Kd.C_below HR0.out HB.out) | (with_reducible refine Kd.C_alloc ?_ _) | (with_reducible refine Kd.C_drewN ?_ _) | (with_reducible refine Kd.C_drew ?_))); (case side2 => exact HC0.out); rintro e w16 ⟨rfl, hb⟩; refine ⟨_, rfl, ?_⟩; replace BK214 := bl BK214 hb; replace HB := bs HB hb; (try clear hb); (try clear hb2); (try clear hk); (try clear hi)))
  have n0_ := Aside0.mk (blk_drew BK214.out)
  have n1_ := Aside0.mk (below_drew1 HB.out)
  clear BK214
  clear HB
  have BK214 := n0_
  have HB := n1_
  clear n0_ n1_
  refine stP (fun w' => E3 w' gb214 (.int .i64 a1_0) (.int .i64 a1_1) (.int .i64 a1_2)) 18 (e3 BK214) (h := fun hHeld => ?_); refine with_tabW tree_Written.tab2 tree_Written.bits2 (fun HT_ HW_ => ?_)
  generalize w16.drew = w17 at BK214 HB hHeld ⊢
  refine pu HT_ 0 12 1 (h := ?_)
  refine pu HT_ 1 13 3 (h := ?_)
  refine pu HT_ 2 14 7 (h := ?_)
  refine pu HT_ 3 15 15 (h := ?_)
  refine tk HT_ HW_ hHeld 4 16 31 (h := ?_)
  refine pu HT_ 5 17 63 (h := ?_)
  refine pu HT_ 6 18 127 (h := ?_)
  refine pu HT_ 7 19 255 (h := ?_)
  refine off HT_ 8 20 511 (h := ?_)
  refine off HT_ 9 21 1023 (h := ?_)
  refine off HT_ 10 22 2047 (h := ?_)
  refine off HT_ 11 23 4095 (h := ?_)
  refine off HT_ 12 24 8191 (h := ?_)
  refine off HT_ 13 25 16383 (h := ?_)
  refine off HT_ 14 26 32767 (h := ?_)
  refine off HT_ 15 27 65535 (h := ?_)
  refine pu HT_ 16 28 131071 (h := ?_)
  refine pu HT_ 17 4 262143 (h := ?_)
  refine dn HT_ (h := ?_)
  try go_wp2
  go_ret
  exact ⟨re, bw HB⟩
 rw [if_neg c4] at H
 have c4b0 : decide (0 ≤ t215) = false := decide_eq_false c4
 clear c4
 obtain rfl := Option.some.inj H
 go_enter Try.func35, Try.ntmps35
 try go_wp2_with (first | ((with_reducible refine gate_dst (N := 3) rfl ?_); refine bx 3 #[.int .i64 a1_0, .int .i64 a1_1, .int .i64 a1_2] 36 (h := ?_); intro gb214 hg w18 hbox hb; have BK214 := Aside0.mk (hbox); have GW214 := bz HB hg; have GE214 := bz HB hg; replace HB := bs HB hb; clear hb hbox hg; obtain ⟨hcz19_0, hcz19_1, hcz19_2, hfz19_0, hfz19_1, hfz19_2⟩ := kc3 BK214) | ((with_reducible refine gate_callee (f := 33) rfl ?_); refine gl (some 11) Try.func33 #[.slice A0 l0.length c0, .int .i64 a1_0, .int .i64 a1_1] (h := ?_); (with_reducible refine (tree_Find.calls _ _ l0 a1_0 a1_1 t215 _ ?side1 ?side2 A3.out).mono ?_); (case side1 => repeat (first | exact (Kd.C_below HR0.out HB.out) | (with_reducible refine Kd.C_alloc ?_ _) | (with_reducible refine Kd.C_drewN ?_ _) | (with_reducible refine Kd.C_drew ?_))); (case side2 => exact HC0.out); rintro e w20 ⟨rfl, hb⟩; refine ⟨_, rfl, ?_⟩; replace BK214 := bl BK214 hb; replace HB := bs HB hb; (try clear hb); (try clear hb2); (try clear hk); (try clear hi)))
 have n0_ := Aside0.mk (blk_drew BK214.out)
 have n1_ := Aside0.mk (below_drew1 HB.out)
 clear BK214
 clear HB
 have BK214 := n0_
 have HB := n1_
 clear n0_ n1_
 refine stP (fun w' => True) 18 trivial (h := fun hHeld => ?_); refine with_tabW tree_Written.tab2 tree_Written.bits2 (fun HT_ HW_ => ?_)
 generalize w20.drew = w21 at BK214 HB hHeld ⊢
 refine pu HT_ 0 12 1 (h := ?_)
 refine pu HT_ 1 13 3 (h := ?_)
 refine pu HT_ 2 14 7 (h := ?_)
 refine off HT_ 3 15 15 (h := ?_)
 refine off HT_ 4 16 31 (h := ?_)
 refine off HT_ 5 17 63 (h := ?_)
 refine pu HT_ 6 18 127 (h := ?_)
 refine pu HT_ 7 19 255 (h := ?_)
 refine off HT_ 8 20 511 (h := ?_)
 refine off HT_ 9 21 1023 (h := ?_)
 refine off HT_ 10 22 2047 (h := ?_)
 refine off HT_ 11 23 4095 (h := ?_)
 refine off HT_ 12 24 8191 (h := ?_)
 refine off HT_ 13 25 16383 (h := ?_)
 refine off HT_ 14 26 32767 (h := ?_)
 refine off HT_ 15 27 65535 (h := ?_)
 refine pu HT_ 16 28 131071 (h := ?_)
 refine pu HT_ 17 4 262143 (h := ?_)
 refine dn HT_ (h := ?_)
 try go_wp2
 go_ret
 exact ⟨re, bw HB⟩
def doc_Rune.f (l0 : List (SOp)) (a1_0 : Int) (a1_1 : Int) (a1_2 : Int) : Option (Int × Int) := (tree_May.f l0).bind fun t219 => (if t219 = true then ((tree_Written.f l0 a1_0 a1_1 a1_2).bind fun t220 => (if t220 = true then ((doc_At.f l0 a1_0 a1_1 a1_2).bind fun t221 => (some (t221, 0))) else (some (0, 3)))) else (some (0, 1)))
set_option maxHeartbeats 8000000 in
set_option maxRecDepth 100000 in
theorem doc_Rune.calls (A0 : Option Addr) (c0 : Nat) (l0 : List (SOp)) (a1_0 : Int) (a1_1 : Int) (a1_2 : Int) (r1 : Int) (r2 : Int) (w : World) (hr0 : Kd.C kOp w A0 l0.length l0) (hc0 : l0.length ≤ c0) (h : doc_Rune.f l0 a1_0 a1_1 a1_2 = some (r1, r2)) :
  Calls Try.prog 16 #[.slice A0 l0.length c0, .agg #[.int .i64 a1_0, .int .i64 a1_1, .int .i64 a1_2]] w fun e w' => e = .returned (.tuple #[.int .i32 r1, .int .i64 r2]) ∧ Below w.heap.size w w' := by
 have hu36 := Try.underlying36
 have HR0 := Aside0.mk hr0
 have HC0 := Aside0.mk hc0
 clear hr0 hc0
 have HB := Aside0.mk (Below.refl w.heap.size w)
 have H : ((tree_May.f l0).bind fun t219 => (if t219 = true then ((tree_Written.f l0 a1_0 a1_1 a1_2).bind fun t220 => (if t220 = true then ((doc_At.f l0 a1_0 a1_1 a1_2).bind fun t221 => (some (t221, 0))) else (some (0, 3)))) else (some (0, 1)))) = some (r1, r2) := h
 clear h
 replace H := Option.bind_eq_some_iff.mp H
 obtain ⟨t219, A30, H⟩ := H
 replace H : (if t219 = true then ((tree_Written.f l0 a1_0 a1_1 a1_2).bind fun t220 => (if t220 = true then ((doc_At.f l0 a1_0 a1_1 a1_2).bind fun t221 => (some (t221, 0))) else (some (0, 3)))) else (some (0, 1))) = some (r1, r2) := H
 have A3 := Aside0.mk A30
 clear A30
 by_cases c4 : t219 = true
 ·subst c4
  have H1 : ((tree_Written.f l0 a1_0 a1_1 a1_2).bind fun t220 => (if t220 = true then ((doc_At.f l0 a1_0 a1_1 a1_2).bind fun t221 => (some (t221, 0))) else (some (0, 3)))) = some (r1, r2) := by rw [if_pos rfl] at H; exact H
  clear H
  have H := H1
  clear H1
  replace H := Option.bind_eq_some_iff.mp H
  obtain ⟨t220, A50, H⟩ := H
  replace H : (if t220 = true then ((doc_At.f l0 a1_0 a1_1 a1_2).bind fun t221 => (some (t221, 0))) else (some (0, 3))) = some (r1, r2) := H
  have A5 := Aside0.mk A50
  clear A50
  by_cases c6 : t220 = true
  ·subst c6
   have H1 : ((doc_At.f l0 a1_0 a1_1 a1_2).bind fun t221 => (some (t221, 0))) = some (r1, r2) := by rw [if_pos rfl] at H; exact H
   clear H
   have H := H1
   clear H1
   replace H := Option.bind_eq_some_iff.mp H
   obtain ⟨t221, A70, H⟩ := H
   replace H : (some (t221, 0)) = some (r1, r2) := H
   have A7 := Aside0.mk A70
   clear A70
   simp only [Option.some.injEq, Prod.mk.injEq] at H
   obtain ⟨rfl, rfl⟩ := H
   go_enter Try.func16, Try.ntmps16
   go_wp2_with (first | ((with_reducible refine gate_dst (N := 3) rfl ?_); refine bx 3 #[.int .i64 a1_0, .int .i64 a1_1, .int .i64 a1_2] 36 (h := ?_); intro gb218 hg w8 hbox hb; have BK218 := Aside0.mk (hbox); have GW218 := bz HB hg; have GE218 := bz HB hg; replace HB := bs HB hb; clear hb hbox hg) | ((with_reducible refine gate_callee (f := 27) rfl ?_); refine gl (some 8) Try.func27 #[.slice A0 l0.length c0] (h := ?_); (with_reducible refine (tree_May.calls _ _ l0 true _ ?side1 ?side2 A3.out).mono ?_); (case side1 => repeat (first | exact (Kd.C_below HR0.out HB.out) | (with_reducible refine Kd.C_alloc ?_ _) | (with_reducible refine Kd.C_drewN ?_ _) | (with_reducible refine Kd.C_drew ?_))); (case side2 => exact HC0.out); rintro e w9 ⟨rfl, hb⟩; refine ⟨_, rfl, ?_⟩; replace BK218 := bl BK218 hb; replace HB := bs HB hb; (try clear hb); (try clear hb2); (try clear hk); (try clear hi); obtain ⟨hcz10_0, hcz10_1, hcz10_2, hfz10_0, hfz10_1, hfz10_2⟩ := kc3 BK218) | ((with_reducible refine gate_callee (f := 35) rfl ?_); refine gl (some 13) Try.func35 #[.slice A0 l0.length c0, .agg #[.int .i64 a1_0, .int .i64 a1_1, .int .i64 a1_2]] (h := ?_); (with_reducible refine (tree_Written.calls _ _ l0 a1_0 a1_1 a1_2 true _ ?side1 ?side2 A5.out).mono ?_); (case side1 => repeat (first | exact (Kd.C_below HR0.out HB.out) | (with_reducible refine Kd.C_alloc ?_ _) | (with_reducible refine Kd.C_drewN ?_ _) | (with_reducible refine Kd.C_drew ?_))); (case side2 => exact HC0.out); rintro e w11 ⟨rfl, hb⟩; refine ⟨_, rfl, ?_⟩; replace BK218 := bl BK218 hb; replace HB := bs HB hb; (try clear hb); (try clear hb2); (try clear hk); (try clear hi); obtain ⟨hcz12_0, hcz12_1, hcz12_2, hfz12_0, hfz12_1, hfz12_2⟩ := kc3 BK218) | ((with_reducible refine gate_callee (f := 36) rfl ?_); refine gl (some 17) Try.func36 #[.slice A0 l0.length c0, .agg #[.int .i64 a1_0, .int .i64 a1_1, .int .i64 a1_2]] (h := ?_); (with_reducible refine (doc_At.calls _ _ l0 a1_0 a1_1 a1_2 t221 _ ?side1 ?side2 A7.out).mono ?_); (case side1 => repeat (first | exact (Kd.C_below HR0.out HB.out) | (with_reducible refine Kd.C_alloc ?_ _) | (with_reducible refine Kd.C_drewN ?_ _) | (with_reducible refine Kd.C_drew ?_))); (case side2 => exact HC0.out); rintro e w13 ⟨rfl, hb⟩; refine ⟨_, rfl, ?_⟩; replace BK218 := bl BK218 hb; replace HB := bs HB hb; (try clear hb); (try clear hb2); (try clear hk); (try clear hi)))
   go_ret2
   exact ⟨re, bw HB⟩
  replace c6 := Bool.eq_false_iff.mpr c6
  subst c6
  have H1 : (some (0, 3)) = some (r1, r2) := by rw [if_neg (show ¬ (false = true) by decide)] at H; exact H
  clear H
  have H := H1
  clear H1
  simp only [Option.some.injEq, Prod.mk.injEq] at H
  obtain ⟨rfl, rfl⟩ := H
  go_enter Try.func16, Try.ntmps16
  go_wp2_with (first | ((with_reducible refine gate_dst (N := 3) rfl ?_); refine bx 3 #[.int .i64 a1_0, .int .i64 a1_1, .int .i64 a1_2] 36 (h := ?_); intro gb218 hg w14 hbox hb; have BK218 := Aside0.mk (hbox); have GW218 := bz HB hg; have GE218 := bz HB hg; replace HB := bs HB hb; clear hb hbox hg) | ((with_reducible refine gate_callee (f := 27) rfl ?_); refine gl (some 8) Try.func27 #[.slice A0 l0.length c0] (h := ?_); (with_reducible refine (tree_May.calls _ _ l0 true _ ?side1 ?side2 A3.out).mono ?_); (case side1 => repeat (first | exact (Kd.C_below HR0.out HB.out) | (with_reducible refine Kd.C_alloc ?_ _) | (with_reducible refine Kd.C_drewN ?_ _) | (with_reducible refine Kd.C_drew ?_))); (case side2 => exact HC0.out); rintro e w15 ⟨rfl, hb⟩; refine ⟨_, rfl, ?_⟩; replace BK218 := bl BK218 hb; replace HB := bs HB hb; (try clear hb); (try clear hb2); (try clear hk); (try clear hi); obtain ⟨hcz16_0, hcz16_1, hcz16_2, hfz16_0, hfz16_1, hfz16_2⟩ := kc3 BK218) | ((with_reducible refine gate_callee (f := 35) rfl ?_); refine gl (some 13) Try.func35 #[.slice A0 l0.length c0, .agg #[.int .i64 a1_0, .int .i64 a1_1, .int .i64 a1_2]] (h := ?_); (with_reducible refine (tree_Written.calls _ _ l0 a1_0 a1_1 a1_2 false _ ?side1 ?side2 A5.out).mono ?_); (case side1 => repeat (first | exact (Kd.C_below HR0.out HB.out) | (with_reducible refine Kd.C_alloc ?_ _) | (with_reducible refine Kd.C_drewN ?_ _) | (with_reducible refine Kd.C_drew ?_))); (case side2 => exact HC0.out); rintro e w17 ⟨rfl, hb⟩; refine ⟨_, rfl, ?_⟩; replace BK218 := bl BK218 hb; replace HB := bs HB hb; (try clear hb); (try clear hb2); (try clear hk); (try clear hi)))
  go_ret2
  exact ⟨re, bw HB⟩
 replace c4 := Bool.eq_false_iff.mpr c4
 subst c4
 have H1 : (some (0, 1)) = some (r1, r2) := by rw [if_neg (show ¬ (false = true) by decide)] at H; exact H
 clear H
 have H := H1
 clear H1
 simp only [Option.some.injEq, Prod.mk.injEq] at H
 obtain ⟨rfl, rfl⟩ := H
 go_enter Try.func16, Try.ntmps16
 go_wp2_with (first | ((with_reducible refine gate_dst (N := 3) rfl ?_); refine bx 3 #[.int .i64 a1_0, .int .i64 a1_1, .int .i64 a1_2] 36 (h := ?_); intro gb218 hg w18 hbox hb; have BK218 := Aside0.mk (hbox); have GW218 := bz HB hg; have GE218 := bz HB hg; replace HB := bs HB hb; clear hb hbox hg) | ((with_reducible refine gate_callee (f := 27) rfl ?_); refine gl (some 8) Try.func27 #[.slice A0 l0.length c0] (h := ?_); (with_reducible refine (tree_May.calls _ _ l0 false _ ?side1 ?side2 A3.out).mono ?_); (case side1 => repeat (first | exact (Kd.C_below HR0.out HB.out) | (with_reducible refine Kd.C_alloc ?_ _) | (with_reducible refine Kd.C_drewN ?_ _) | (with_reducible refine Kd.C_drew ?_))); (case side2 => exact HC0.out); rintro e w19 ⟨rfl, hb⟩; refine ⟨_, rfl, ?_⟩; replace BK218 := bl BK218 hb; replace HB := bs HB hb; (try clear hb); (try clear hb2); (try clear hk); (try clear hi)))
 go_ret2
 exact ⟨re, bw HB⟩
def lectionaryref0_At.l0 : Nat → List (SElem) → Int → Int → Int → Int → Option (Int)
 | 0, _, _, _, _, _ => none
 | k + 1, x0, x5, x223000, x223001, x223002 => if x5 < (x0.length : Int) then (if 0 ≤ x5 then (if (((rd_Elem x0 x5).f0) == x223000 && (((rd_Elem x0 x5).f1) == x223001 && (((rd_Elem x0 x5).f2) == x223002))) = true then (some x5) else (lectionaryref0_At.l0 k x0 (wrap64 (x5 + 1)) x223000 x223001 x223002)) else (none)) else (some (-1))
def lectionaryref0_At.f (k : Nat) (l0 : List (SElem)) (a1_0 : Int) (a1_1 : Int) (a1_2 : Int) : Option (Int) := lectionaryref0_At.l0 k l0 0 a1_0 a1_1 a1_2
set_option maxHeartbeats 8000000 in
set_option maxRecDepth 100000 in
theorem lectionaryref0_At.calls (k : Nat) (A0 : Option Addr) (c0 : Nat) (l0 : List (SElem)) (a1_0 : Int) (a1_1 : Int) (a1_2 : Int) (r : Int) (w : World) (hr0 : Kd.C kElem w A0 l0.length l0) (hc0 : l0.length ≤ c0) (h : lectionaryref0_At.f k l0 a1_0 a1_1 a1_2 = some r) :
  Calls Try.prog 17 #[.slice A0 l0.length c0, .agg #[.int .i64 a1_0, .int .i64 a1_1, .int .i64 a1_2]] w fun e w' => e = .returned (.int .i64 r) ∧ Below w.heap.size w w' := by
 have hu36 := Try.underlying36
 have HR0 := Aside0.mk hr0
 have HC0 := Aside0.mk hc0
 clear hr0 hc0
 have HB := Aside0.mk (Below.refl w.heap.size w)
 have H : (lectionaryref0_At.l0 k l0 0 a1_0 a1_1 a1_2) = some r := h
 clear h
 have H' := Aside0.mk H
 clear H
 go_enter Try.func17, Try.ntmps17
 go_wp2_with (first | ((with_reducible refine gate_dst (N := 3) rfl ?_); refine bx 3 #[.int .i64 a1_0, .int .i64 a1_1, .int .i64 a1_2] 36 (h := ?_); intro gb222 hg w3 hbox hb; have BK222 := Aside0.mk (hbox); have GW222 := bz HB hg; have GE222 := bz HB hg; replace HB := bs HB hb; clear hb hbox hg))
 repeat (go_quiet (first | ((with_reducible refine gate_dst (N := 3) rfl ?_); refine bx 3 #[.int .i64 a1_0, .int .i64 a1_1, .int .i64 a1_2] 36 (h := ?_); intro gb222 hg w3 hbox hb; have BK222 := Aside0.mk (hbox); have GW222 := bz HB hg; have GE222 := bz HB hg; replace HB := bs HB hb; clear hb hbox hg)); try go_wp2_with (first | ((with_reducible refine gate_dst (N := 3) rfl ?_); refine bx 3 #[.int .i64 a1_0, .int .i64 a1_1, .int .i64 a1_2] 36 (h := ?_); intro gb222 hg w3 hbox hb; have BK222 := Aside0.mk (hbox); have GW222 := bz HB hg; have GE222 := bz HB hg; replace HB := bs HB hb; clear hb hbox hg)))
 go_loopg [5] k (fun kq v5 w' => ∃ (x5_1 : Int), v5 = .int .i64 x5_1 ∧ Aside0 (lectionaryref0_At.l0 kq l0 x5_1 a1_0 a1_1 a1_2 = some r) ∧ Aside0 (kq ≤ k) ∧ Aside0 (w'.heap[gb222]? = some (.cells #[.int .i64 a1_0, .int .i64 a1_1, .int .i64 a1_2] 36 (0, 0))) ∧ Aside0 (Below w.heap.size w w'))
 case atStart => exact ⟨(0), rf, H', ⟨Nat.le_refl _⟩, ⟨kk BK222⟩, ⟨bw HB⟩⟩
 case round =>
  clear H'
  obtain ⟨x5_1, rfl, HA, HK1, BK222, HB⟩ := hrel
  cases gk with
  | zero => exact absurd HA.out (by simp [lectionaryref0_At.l0])
  | succ k1 =>
   have H := HA.out
   clear HA
   simp only [lectionaryref0_At.l0] at H
   by_cases c4 : x5_1 < (l0.length : Int)
   ·rw [if_pos c4] at H
    have c4b0 : decide (x5_1 < (l0.length : Int)) = true := decide_eq_true c4
    clear c4
    by_cases c5 : 0 ≤ x5_1
    ·rw [if_pos c5] at H
     have c5b0 : decide (0 ≤ x5_1) = true := decide_eq_true c5
     clear c5
     by_cases c6 : (((rd_Elem l0 x5_1).f0) == a1_0 && (((rd_Elem l0 x5_1).f1) == a1_1 && (((rd_Elem l0 x5_1).f2) == a1_2))) = true
     ·rw [if_pos c6] at H
      have c6b0 : (((rd_Elem l0 x5_1).f0) == a1_0 && (((rd_Elem l0 x5_1).f1) == a1_1 && (((rd_Elem l0 x5_1).f2) == a1_2))) = true := c6
      (try (have c6b1 : decide (((rd_Elem l0 x5_1).f0) = a1_0 && (((rd_Elem l0 x5_1).f1) == a1_1 && (((rd_Elem l0 x5_1).f2) == a1_2))) = true := by simpa using c6))
      (try (have c6b2 : (((rd_Elem l0 x5_1).f0) == a1_0 && (((rd_Elem l0 x5_1).f1) == a1_1 && (((rd_Elem l0 x5_1).f2) == a1_2))) = true := by simpa using c6))
      clear c6
      obtain rfl := Option.some.inj H
      have p223 : 0 ≤ (x5_1 : Int) := of_decide_eq_true (by first | (with_reducible assumption) | assumption)
      have q223 : x5_1 < (l0.length : Int) := of_decide_eq_true (by first | (with_reducible assumption) | assumption)
      obtain ⟨ad223, e223, hx223_0, hx223_1, hx223_2⟩ := at_Elem HR0.out x5_1 p223 q223
      cases e223
      replace hx223_0 := cl HB hx223_0
      replace hx223_1 := cl HB hx223_1
      replace hx223_2 := cl HB hx223_2
      replace p223 := eq_true p223
      replace q223 := eq_true q223
      obtain ⟨hcz7_0, hcz7_1, hcz7_2, hfz7_0, hfz7_1, hfz7_2⟩ := kc3 BK222
      go_wp2
      repeat (go_quiet (fail); try go_wp2)
      go_ret
      exact ⟨re, bw HB⟩
     rw [if_neg c6] at H
     have c6b0 : (((rd_Elem l0 x5_1).f0) == a1_0 && (((rd_Elem l0 x5_1).f1) == a1_1 && (((rd_Elem l0 x5_1).f2) == a1_2))) = false := by simpa using c6
     (try (have c6b1 : decide (((rd_Elem l0 x5_1).f0) = a1_0 && (((rd_Elem l0 x5_1).f1) == a1_1 && (((rd_Elem l0 x5_1).f2) == a1_2))) = false := by simpa using c6))
     (try (have c6b2 : (((rd_Elem l0 x5_1).f0) == a1_0 && (((rd_Elem l0 x5_1).f1) == a1_1 && (((rd_Elem l0 x5_1).f2) == a1_2))) = false := by simpa using c6))
     (try (have c6b3 : ¬ (((rd_Elem l0 x5_1).f0) = a1_0 && (((rd_Elem l0 x5_1).f1) == a1_1 && (((rd_Elem l0 x5_1).f2) == a1_2))) := by simpa using c6))
     clear c6
     have H' := Aside0.mk H
     clear H
     have p223 : 0 ≤ (x5_1 : Int) := of_decide_eq_true (by first | (with_reducible assumption) | assumption)
     have q223 : x5_1 < (l0.length : Int) := of_decide_eq_true (by first | (with_reducible assumption) | assumption)
     obtain ⟨ad223, e223, hx223_0, hx223_1, hx223_2⟩ := at_Elem HR0.out x5_1 p223 q223
     cases e223
     replace hx223_0 := cl HB hx223_0
     replace hx223_1 := cl HB hx223_1
     replace hx223_2 := cl HB hx223_2
     replace p223 := eq_true p223
     replace q223 := eq_true q223
     obtain ⟨hcz8_0, hcz8_1, hcz8_2, hfz8_0, hfz8_1, hfz8_2⟩ := kc3 BK222
     go_wp2
     repeat (go_quiet (fail); try go_wp2)
     go_roundg k1
     case measure => have := HK1.out; omega
     case rel => exact ⟨(wrap64 (x5_1 + 1)), rf, H', ⟨by have := HK1.out; omega⟩, ⟨kk BK222⟩, ⟨bw HB⟩⟩
    rw [if_neg c5] at H
    exact absurd H (by simp)
   rw [if_neg c4] at H
   have c4b0 : decide (x5_1 < (l0.length : Int)) = false := decide_eq_false c4
   clear c4
   obtain rfl := Option.some.inj H
   go_wp2
   repeat (go_quiet (fail); try go_wp2)
   go_ret
   exact ⟨re, bw HB⟩
end Go.Proofs.Ytonoaflfobajcaa.L
end
