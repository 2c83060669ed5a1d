/- Part 6 of the proof that for every argument the law DocSame answers true: of any row that may be, the elements that are visible are among all and in their order, the text is their runes one by one, each one's edit is effective, none stands twice, and what goes by an effective edit is not visible; for any row at all, without any condition. -/
import Derived.Test.YtonoaflfobajcaaZDS5
import Derived.Lib.SliceRun
section
namespace Go.Proofs.Ytonoaflfobajcaa.L
open Go.RowKit Go.Proofs.YtonoaflfobajcaaW.PrintWords Go.Proofs.YtonoaflfobajcaaW.PrintLast Go.Proofs.YtonoaflfobajcaaW.PrintMore
set_option linter.unusedVariables false
set_option linter.unusedSimpArgs false
theorem SElem.ext3 {a b : SElem} (h0 : a.f0 = b.f0) (h1 : a.f1 = b.f1) (h2 : a.f2 = b.f2) : a = b := by cases a; cases b; simp_all
theorem key3_inj {a b : SElem} (h : key3 a = key3 b) : a = b := by
  unfold key3 at h; injection h with h0 h; injection h with h1 h2; exact SElem.ext3 h0 h1 h2
def chainE (o : SOp) : List SElem := (List.range (sizeOf' o)).map fun j : Nat => ⟨o.f0, o.f1, (j : Int)⟩
def insO (x : List SElem) (o : SOp) : List SElem := if isBegin o.f3 then chainE o ++ x else x.flatMap fun e => if key3 e = key3 o.f3 then e :: chainE o else [e]
def ordL (l : List SOp) : List SElem := l.foldl insO []
theorem ordL_app (l : List SOp) (o : SOp) : ordL (l ++ [o]) = insO (ordL l) o := by simp [ordL]
inductive WalkL (ch : SElem → List SElem) : List SElem → List SElem → Prop
  | nil : WalkL ch [] []
  | cons {x : SElem} {xs L1 L2 : List SElem} : WalkL ch (ch x) L1 → WalkL ch xs L2 → WalkL ch (x :: xs) (x :: (L1 ++ L2))
def chl (l : List SOp) (e : SElem) : List SElem := belowL l (gU l l.length (key3 e)) e
theorem gU_app (l : List SOp) (o : SOp) : ∀ i, i ≤ l.length → gU (l ++ [o]) i = gU l i
  | 0, _ => rfl
  | i + 1, h => by
    unfold gU
    rw [gU_app l o i (by omega), rd_Op_app l o i (by omega)]
theorem gU_snoc (l : List SOp) (o : SOp) (x : K3) : gU (l ++ [o]) (l ++ [o]).length x = if o.f4.toList.isEmpty = false ∧ x = key3 o.f3 then (l.length : Int) :: gU l l.length x else gU l l.length x := by
  rw [show (l ++ [o]).length = l.length + 1 by simp]
  conv => lhs; unfold gU
  rw [gU_app l o _ (Nat.le_refl _), rd_Op_last]
  cases h : o.f4.toList.isEmpty
  · simp only [Bool.false_eq_true, if_false, true_and]
    unfold updU
    by_cases e : x = key3 o.f3
    · subst e; simp
    · simp [e]
  · simp
theorem gU_range (l : List SOp) : ∀ i x k, k ∈ gU l i x → 0 ≤ k ∧ k < (i : Int) ∧ key3 (rd_Op l k).f3 = x ∧ (rd_Op l k).f4.toList.isEmpty = false
  | 0, x, k, h => by simp [gU] at h
  | i + 1, x, k, h => by
    unfold gU at h
    cases hz : (rd_Op l (i : Int)).f4.toList.isEmpty
    · rw [hz] at h
      simp only [Bool.false_eq_true, if_false] at h
      unfold updU at h
      split at h
      · rename_i e
        rcases List.mem_cons.1 h with rfl | h
        · exact ⟨by omega, by omega, e.symm, hz⟩
        · have := gU_range l i _ k h; rw [← e] at this; exact ⟨this.1, by omega, this.2.2⟩
      · have := gU_range l i x k h; exact ⟨this.1, by omega, this.2.2⟩
    · rw [hz] at h
      simp only [if_true] at h
      have := gU_range l i x k h; exact ⟨this.1, by omega, this.2.2⟩
theorem atE_app (l : List SOp) (o : SOp) (k : Int) (h0 : 0 ≤ k) (h : k < (l.length : Int)) : atE (l ++ [o]) k = atE l k := by
  obtain ⟨n, rfl⟩ := Int.eq_ofNat_of_zero_le h0
  unfold atE
  rw [rd_Op_app l o n (by omega)]
theorem findOp_cases (l : List SOp) (a b : Int) : (∃ i, ∃ h : i < l.length, l[i].f0 = a ∧ l[i].f1 = b ∧ (∀ j (hj : j < i), ¬ ((l[j]'(by omega)).f0 = a ∧ (l[j]'(by omega)).f1 = b)) ∧ findOp l a b = (i : Int)) ∨ ((∀ p ∈ l, ¬ (p.f0 = a ∧ p.f1 = b)) ∧ findOp l a b = -1) := by
  unfold findOp
  rcases firstAt_cases (fun i => nameIs a b (rd_Op l i)) l.length with ⟨i, h1, h2, h3, h4⟩ | ⟨h1, h2⟩
  · refine .inl ⟨i, h1, ?_⟩
    rw [rd_Op_nat _ _ h1] at h2
    unfold nameIs at h2; simp at h2
    refine ⟨h2.1, h2.2, fun j hj => ?_, h4⟩
    have := h3 j hj
    rw [rd_Op_nat _ _ (by omega)] at this
    unfold nameIs at this; simpa using this
  · refine .inr ⟨fun p hp => ?_, h2⟩
    obtain ⟨i, hi, rfl⟩ := List.getElem_of_mem hp
    have := h1 i hi
    rw [rd_Op_nat _ _ hi] at this
    unfold nameIs at this; simpa using this
theorem findOp_app_other (l : List SOp) (o : SOp) (a b : Int) (h : ¬ (o.f0 = a ∧ o.f1 = b)) : findOp (l ++ [o]) a b = findOp l a b := by
  rcases findOp_cases l a b with ⟨i, hi, h0, h1, hb, e⟩ | ⟨hn, e⟩
  · rw [e]
    rcases findOp_cases (l ++ [o]) a b with ⟨j, hj, g0, g1, gb, e'⟩ | ⟨hn', _⟩
    · rw [e']
      rcases Nat.lt_trichotomy i j with hlt | rfl | hlt
      · exact absurd ⟨by rw [List.getElem_append_left hi]; exact h0, by rw [List.getElem_append_left hi]; exact h1⟩ (gb i hlt)
      · rfl
      · exfalso
        rw [List.getElem_append_left (by omega)] at g0 g1
        exact hb j hlt ⟨g0, g1⟩
    · exact absurd ⟨h0, h1⟩ (hn' _ (List.mem_append_left _ (List.getElem_mem hi)))
  · rw [e]
    rcases findOp_cases (l ++ [o]) a b with ⟨j, hj, g0, g1, gb, e'⟩ | ⟨hn', e'⟩
    · exfalso
      have hm := List.getElem_mem hj
      rcases List.mem_append.1 hm with hm | hm
      · exact hn _ hm ⟨g0, g1⟩
      · simp only [List.mem_singleton] at hm; rw [hm] at g0 g1; exact h ⟨g0, g1⟩
    · exact e'
theorem findOp_fresh (l : List SOp) (o : SOp) (h : ∀ p ∈ l, ¬ (p.f0 = o.f0 ∧ p.f1 = o.f1)) : findOp (l ++ [o]) o.f0 o.f1 = (l.length : Int) := by
  rcases findOp_cases (l ++ [o]) o.f0 o.f1 with ⟨j, hj, g0, g1, gb, e'⟩ | ⟨hn', e'⟩
  · rw [e']
    by_cases ej : j < l.length
    · exfalso
      rw [List.getElem_append_left ej] at g0 g1
      exact h _ (List.getElem_mem ej) ⟨g0, g1⟩
    · simp at hj; omega
  · exact absurd ⟨rfl, rfl⟩ (hn' o (by simp))
theorem nextL_app (l : List SOp) (o : SOp) (e : SElem) (h : ¬ (o.f0 = e.f0 ∧ o.f1 = e.f1)) : nextL (l ++ [o]) e = nextL l e := by
  unfold nextL
  rw [findOp_app_other l o _ _ h]
  rcases findOp_cases l e.f0 e.f1 with ⟨i, hi, _, _, _, e'⟩ | ⟨_, e'⟩
  · rw [e', rd_Op_app l o i hi]
  · rw [e']; simp
theorem chl_mem {l : List SOp} {e x : SElem} (h : x ∈ chl l e) : ∃ p ∈ l, p.f0 = x.f0 ∧ p.f1 = x.f1 := by
  unfold chl belowL at h
  rcases List.mem_append.1 h with h | h
  · obtain ⟨k, hk, rfl⟩ := List.mem_map.1 h
    obtain ⟨h0, h1, _⟩ := gU_range l _ _ _ hk
    obtain ⟨n, rfl⟩ := Int.eq_ofNat_of_zero_le h0
    unfold atE
    rw [rd_Op_nat _ _ (by omega)]
    exact ⟨l[n], List.getElem_mem _, rfl, rfl⟩
  · unfold nextL at h
    split at h
    · rename_i hc
      simp only [List.mem_singleton] at h
      subst h
      rcases findOp_cases l e.f0 e.f1 with ⟨i, hi, _, _, _, e'⟩ | ⟨_, e'⟩
      · rw [e', rd_Op_nat _ _ hi]; exact ⟨l[i], List.getElem_mem _, rfl, rfl⟩
      · omega
    · simp at h
def old (o : SOp) (e : SElem) : Prop := ¬ (o.f0 = e.f0 ∧ o.f1 = e.f1)
theorem chl_old {l : List SOp} {o : SOp} (hf : ∀ p ∈ l, ¬ (p.f0 = o.f0 ∧ p.f1 = o.f1)) {e x : SElem} (h : x ∈ chl l e) : old o x := by
  obtain ⟨p, hp, h0, h1⟩ := chl_mem h
  rintro ⟨e0, e1⟩
  exact hf p hp ⟨by omega, by omega⟩
def headE (o : SOp) (e : SElem) : List SElem := if o.f4.toList.isEmpty = false ∧ key3 e = key3 o.f3 then [⟨o.f0, o.f1, 0⟩] else []
theorem chl_app (l : List SOp) (o : SOp) (e : SElem) (h : old o e) : chl (l ++ [o]) e = headE o e ++ chl l e := by
  unfold chl belowL
  rw [gU_snoc, nextL_app l o e h]
  have hm : ∀ x : K3, (gU l l.length x).map (atE (l ++ [o])) = (gU l l.length x).map (atE l) := fun x =>
    List.map_congr_left fun k hk => atE_app l o k (gU_range l _ _ _ hk).1 (gU_range l _ _ _ hk).2.1
  have hl : atE (l ++ [o]) (l.length : Int) = ⟨o.f0, o.f1, 0⟩ := by unfold atE; rw [rd_Op_last]
  unfold headE
  split
  · rw [List.map_cons, hm, hl]; rfl
  · rw [hm]; rfl
theorem size_pos {o : SOp} (h : o.f4.toList.isEmpty = false) : 0 < sizeOf' o := by
  rcases Nat.eq_zero_or_pos (sizeOf' o) with e | e
  · have := (runesOf_nil _).1 e; rw [h] at this; cases this
  · exact e
theorem chl_own {l : List SOp} {o : SOp} (hr : RowOk l) (hn : NextOk l o) (j : Nat) (hj : j < 12) : chl (l ++ [o]) ⟨o.f0, o.f1, (j : Int)⟩ = if j + 1 < sizeOf' o then [⟨o.f0, o.f1, ((j + 1 : Nat) : Int)⟩] else [] := by
  have hf := hn.fresh hr
  have hpos := opOk_pos hn.ok
  have hU : gU (l ++ [o]) (l ++ [o]).length (key3 ⟨o.f0, o.f1, (j : Int)⟩) = [] := by
    rw [List.eq_nil_iff_forall_not_mem]
    intro k hk
    obtain ⟨h0, h1, h2, h3⟩ := gU_range _ _ _ _ hk
    obtain ⟨n, rfl⟩ := Int.eq_ofNat_of_zero_le h0
    have hk := key3_inj h2
    have hwr : ∀ i (hi : i < (l ++ [o]).length), wr l ((l ++ [o])[i]).f3 := by
      clear hk h2 h3
      intro i hi
      by_cases e : i < l.length
      · rw [List.getElem_append_left e]
        have key : ∀ l : List SOp, RowOk l → ∀ p ∈ l, wr l p.f3 := by
          intro l hr
          induction hr with
          | nil => intro p hp; cases hp
          | snoc h1 h2 ih =>
            intro p hp
            have up : ∀ (l : List SOp) (o : SOp) (e : SElem), wr l e → wr (l ++ [o]) e := fun l o e h => h.imp id fun ⟨h, p, hp, hh⟩ => ⟨h, p, List.mem_append_left _ hp, hh⟩
            rcases List.mem_append.1 hp with hp | hp
            · exact up _ _ _ (ih p hp)
            · simp at hp; subst hp; exact up _ _ _ h2.after
        exact key l hr _ (List.getElem_mem e)
      · obtain rfl : i = l.length := by simp at hi; omega
        simp; exact hn.after
    have := hwr n (by omega)
    rw [← rd_Op_nat, hk] at this
    rcases this with h | ⟨_, p, hp, e0, e1, _⟩
    · unfold isBegin at h; simp at h; omega
    · exact hf p hp ⟨e0, e1⟩
  unfold chl belowL
  rw [hU]
  unfold nextL
  simp only [List.map_nil, List.nil_append]
  rw [findOp_fresh l o hf, rd_Op_last, wrap64_small (by omega) (by omega)]
  by_cases h : j + 1 < sizeOf' o
  · rw [if_pos h, if_pos ⟨by omega, by omega⟩]; rfl
  · rw [if_neg h, if_neg (by omega)]
theorem walk_chain {l : List SOp} {o : SOp} (hr : RowOk l) (hn : NextOk l o) : ∀ d j, j + d = sizeOf' o → WalkL (chl (l ++ [o])) (if j < sizeOf' o then [⟨o.f0, o.f1, (j : Int)⟩] else []) ((List.range' j d).map fun j : Nat => (⟨o.f0, o.f1, (j : Int)⟩ : SElem))
  | 0, j, h => by rw [if_neg (by omega)]; exact .nil
  | d + 1, j, h => by
    rw [if_pos (by omega), List.range'_succ, List.map_cons]
    have h12 := (opOk_size2 hn.ok).1
    have := walk_chain hr hn d (j + 1) (by omega)
    rw [← chl_own hr hn j (by omega)] at this
    have := WalkL.cons this (.nil (ch := chl (l ++ [o])))
    rwa [List.append_nil] at this
theorem walk_append {ch : SElem → List SElem} {xs ys L M : List SElem} (h : WalkL ch xs L) (h2 : WalkL ch ys M) : WalkL ch (xs ++ ys) (L ++ M) := by
  induction h with
  | nil => exact h2
  | cons h1 h3 ih1 ih3 =>
    rw [List.cons_append, List.cons_append, List.append_assoc]
    exact .cons h1 ih3
theorem walk_head {l : List SOp} {o : SOp} (hr : RowOk l) (hn : NextOk l o) (e : SElem) : WalkL (chl (l ++ [o])) (headE o e) (if key3 e = key3 o.f3 then chainE o else []) := by
  have h := walk_chain hr hn (sizeOf' o) 0 (by omega)
  rw [← List.range_eq_range'] at h
  unfold headE
  by_cases he : key3 e = key3 o.f3
  · simp only [he, and_true, if_true]
    cases hz : o.f4.toList.isEmpty
    · rw [if_pos (size_pos hz)] at h; exact h
    · have e0 : sizeOf' o = 0 := (runesOf_nil _).2 hz
      unfold chainE; rw [e0]; simpa using WalkL.nil
  · simp only [he, and_false, if_false]; exact .nil
def ins1 (o : SOp) (x : List SElem) : List SElem := x.flatMap fun e => if key3 e = key3 o.f3 then e :: chainE o else [e]
theorem walk_more {l : List SOp} {o : SOp} (hr : RowOk l) (hn : NextOk l o) {xs L : List SElem} (h : WalkL (chl l) xs L) (ho : ∀ x ∈ xs, old o x) : WalkL (chl (l ++ [o])) xs (ins1 o L) := by
  have hf := hn.fresh hr
  induction h with
  | nil => exact .nil
  | cons h1 h2 ih1 ih2 =>
    rename_i x xs L1 L2
    have g1 := ih1 (fun y hy => chl_old hf hy)
    have g2 := ih2 (fun y hy => ho y (List.mem_cons_of_mem _ hy))
    have hx := ho x List.mem_cons_self
    have hh := walk_append (walk_head hr hn x) g1
    rw [← chl_app l o x hx] at hh
    have := WalkL.cons hh g2
    unfold ins1 at this ⊢
    rw [List.flatMap_cons, List.flatMap_append]
    split
    · rename_i e; rw [if_pos e] at this; simpa using this
    · rename_i e; rw [if_neg e] at this; simpa using this
def bgE : SElem := ⟨0, 0, 0⟩
theorem isBegin_iff (e : SElem) : isBegin e = true ↔ e = bgE := by
  unfold isBegin bgE
  constructor
  · intro h; simp at h; exact SElem.ext3 h.1 h.2.1 h.2.2
  · rintro rfl; rfl
theorem mem_ordL {l : List SOp} (h : RowOk l) : ∀ e, e ∈ ordL l ↔ ∃ p ∈ l, p.f0 = e.f0 ∧ p.f1 = e.f1 ∧ 0 ≤ e.f2 ∧ e.f2 < (sizeOf' p : Int) := by
  induction h with
  | nil => intro e; simp [ordL]
  | snoc h1 h2 ih =>
    rename_i l o
    intro e
    have hch : ∀ e, e ∈ chainE o ↔ o.f0 = e.f0 ∧ o.f1 = e.f1 ∧ 0 ≤ e.f2 ∧ e.f2 < (sizeOf' o : Int) := by
      intro e
      unfold chainE
      rw [List.mem_map]
      constructor
      · rintro ⟨j, hj, rfl⟩; rw [List.mem_range] at hj; exact ⟨rfl, rfl, by simp only; omega, by simp only; omega⟩
      · rintro ⟨a, b, c, d⟩
        exact ⟨e.f2.toNat, List.mem_range.2 (by omega), SElem.ext3 a b (by simp only; omega)⟩
    have goal : e ∈ insO (ordL l) o ↔ e ∈ ordL l ∨ e ∈ chainE o := by
      unfold insO
      split
      · rw [List.mem_append]; exact or_comm
      · rename_i hb
        rw [List.mem_flatMap]
        constructor
        · rintro ⟨x, hx, he⟩
          split at he
          · rcases List.mem_cons.1 he with rfl | he
            · exact .inl hx
            · exact .inr he
          · simp at he; subst he; exact .inl hx
        · rintro (he | he)
          · exact ⟨e, he, by split <;> simp⟩
          · rcases h2.after with h | ⟨h0, p, hp, k0, k1, k2⟩
            · exact absurd h hb
            · exact ⟨o.f3, (ih o.f3).2 ⟨p, hp, k0, k1, h0, k2⟩, by rw [if_pos rfl]; exact List.mem_cons_of_mem _ he⟩
    rw [ordL_app, goal, ih, hch]
    constructor
    · rintro (⟨p, hp, h⟩ | h)
      · exact ⟨p, List.mem_append_left _ hp, h⟩
      · exact ⟨o, by simp, h⟩
    · rintro ⟨p, hp, h⟩
      rcases List.mem_append.1 hp with hp | hp
      · exact .inl ⟨p, hp, h⟩
      · simp at hp; subst hp; exact .inr h
theorem ordL_pos {l : List SOp} (h : RowOk l) {e : SElem} (he : e ∈ ordL l) : 1 ≤ e.f0 ∧ 1 ≤ e.f1 ∧ 0 ≤ e.f2 := by
  obtain ⟨p, hp, h0, h1, h2, _⟩ := (mem_ordL h e).1 he
  have := opOk_pos (h.oks p hp)
  omega
theorem ins1_begin {l : List SOp} (h : RowOk l) {o : SOp} (hb : o.f3 = bgE) : ins1 o (ordL l) = ordL l := by
  have : ∀ x : List SElem, (∀ e ∈ x, e ∈ ordL l) → ins1 o x = x := by
    intro x
    induction x with
    | nil => intro _; rfl
    | cons e x ih =>
      intro hx
      unfold ins1 at ih ⊢
      rw [List.flatMap_cons, ih (fun y hy => hx y (List.mem_cons_of_mem _ hy)), if_neg]
      · rfl
      · intro e'
        have h1 := ordL_pos h (hx e List.mem_cons_self)
        rw [key3_inj e', hb] at h1
        simp [bgE] at h1
  exact this _ fun _ h => h
theorem ordL_walk {l : List SOp} (h : RowOk l) : WalkL (chl l) (chl l bgE) (ordL l) := by
  induction h with
  | nil =>
    have : chl [] bgE = [] := by
      unfold chl belowL nextL findOp; simp [gU, firstAt]
    rw [this]; exact .nil
  | snoc h1 h2 ih =>
    rename_i l o
    have hf := h2.fresh h1
    have hpos := opOk_pos h2.ok
    have hob : old o bgE := by unfold old bgE; simp only; omega
    have g := walk_append (walk_head h1 h2 bgE) (walk_more h1 h2 ih (fun y hy => chl_old hf hy))
    rw [← chl_app l o bgE hob] at g
    rw [ordL_app]
    unfold insO
    by_cases hb : isBegin o.f3 = true
    · have hb' := (isBegin_iff _).1 hb
      rw [if_pos hb]
      rw [if_pos (by rw [hb']), ins1_begin h1 hb'] at g
      exact g
    · rw [if_neg hb]
      rw [if_neg (fun e => hb ((isBegin_iff _).2 (key3_inj e).symm))] at g
      exact g
theorem chain_length (o : SOp) : (chainE o).length = sizeOf' o := by simp [chainE]
theorem chain_nodup (o : SOp) : (chainE o).Nodup := by
  unfold chainE List.Nodup
  rw [List.pairwise_map]
  refine List.Pairwise.imp ?_ List.nodup_range
  intro a b h e
  injection e with _ _ e
  omega
theorem chain_name {o : SOp} {e : SElem} (h : e ∈ chainE o) : o.f0 = e.f0 ∧ o.f1 = e.f1 := by
  unfold chainE at h
  obtain ⟨j, _, rfl⟩ := List.mem_map.1 h
  exact ⟨rfl, rfl⟩
theorem insO_form {l : List SOp} {o : SOp} (h : RowOk l) (h2 : NextOk l o) (hnd : (ordL l).Nodup) :
    (isBegin o.f3 = true ∧ ordL (l ++ [o]) = chainE o ++ ordL l) ∨ (isBegin o.f3 = false ∧ ∃ A B, ordL l = A ++ o.f3 :: B ∧ o.f3 ∉ A ∧ o.f3 ∉ B ∧ ordL (l ++ [o]) = A ++ o.f3 :: (chainE o ++ B)) := by
  rw [ordL_app]
  unfold insO
  cases hb : isBegin o.f3
  · refine .inr ⟨rfl, ?_⟩
    have hm : o.f3 ∈ ordL l := by
      rcases h2.after with h' | ⟨h0, p, hp, k0, k1, k2⟩
      · rw [hb] at h'; cases h'
      · exact (mem_ordL h _).2 ⟨p, hp, k0, k1, h0, k2⟩
    obtain ⟨A, B, e⟩ := List.append_of_mem hm
    rw [e] at hnd
    have hA : o.f3 ∉ A := by
      intro hA
      exact (List.nodup_append.1 hnd).2.2 _ hA _ List.mem_cons_self rfl
    have hB : o.f3 ∉ B := (List.nodup_cons.1 (List.nodup_append.1 hnd).2.1).1
    refine ⟨A, B, e, hA, hB, ?_⟩
    have stay : ∀ x : List SElem, o.f3 ∉ x → (x.flatMap fun e => if key3 e = key3 o.f3 then e :: chainE o else [e]) = x := by
      intro x
      induction x with
      | nil => intro _; rfl
      | cons y x ih =>
        intro hx
        rw [List.mem_cons, not_or] at hx
        rw [List.flatMap_cons, ih hx.2, if_neg (fun e => hx.1 (key3_inj e).symm)]
        rfl
    rw [e]
    simp only [Bool.false_eq_true, if_false]
    rw [List.flatMap_append, List.flatMap_cons, stay A hA, stay B hB, if_pos rfl]
    simp
  · exact .inl ⟨rfl, by simp⟩
theorem ordL_nodup {l : List SOp} (h : RowOk l) : (ordL l).Nodup ∧ (ordL l).length = total l := by
  induction h with
  | nil => exact ⟨List.nodup_nil, rfl⟩
  | snoc h1 h2 ih =>
    rename_i l o
    have hf := h2.fresh h1
    have hno : ∀ e ∈ ordL l, e ∉ chainE o := by
      intro e he hc
      obtain ⟨p, hp, e0, e1, _⟩ := (mem_ordL h1 e).1 he
      obtain ⟨g0, g1⟩ := chain_name hc
      exact hf p hp ⟨by omega, by omega⟩
    rw [total_app]
    rcases insO_form h1 h2 ih.1 with ⟨_, e⟩ | ⟨_, A, B, e1, hA, hB, e⟩
    · rw [e]
      refine ⟨List.nodup_append.2 ⟨chain_nodup o, ih.1, ?_⟩, by rw [List.length_append, chain_length, ih.2]; omega⟩
      rintro a ha b hb rfl
      exact hno a hb ha
    · rw [e]
      have hnd := ih.1
      rw [e1] at hnd
      have hl := ih.2
      rw [e1] at hl
      have ha := List.nodup_append.1 hnd
      have hb := List.nodup_cons.1 ha.2.1
      constructor
      · refine List.nodup_append.2 ⟨ha.1, List.nodup_cons.2 ⟨?_, List.nodup_append.2 ⟨chain_nodup o, hb.2, ?_⟩⟩, ?_⟩
        · intro hm
          rcases List.mem_append.1 hm with hm | hm
          · exact hno o.f3 (by rw [e1]; simp) hm
          · exact hb.1 hm
        · rintro a ha b hb rfl
          exact hno a (by rw [e1]; simp [hb]) ha
        · rintro a haA b hb' rfl
          rcases List.mem_cons.1 hb' with rfl | hb'
          · exact hA haA
          · rcases List.mem_append.1 hb' with hc | hB'
            · exact hno a (by rw [e1]; simp [haA]) hc
            · exact ha.2.2 a haA a (List.mem_cons_of_mem _ hB') rfl
      · simp only [List.length_append, List.length_cons, chain_length] at hl ⊢
        omega
def clr (U : K3 → List Int) (L : List SElem) : K3 → List Int := fun y => if y ∈ L.map key3 then [] else U y
theorem clr_nil (U : K3 → List Int) : clr U [] = U := by funext y; simp [clr]
theorem clr_clr (U : K3 → List Int) (L M : List SElem) : clr (clr U L) M = clr U (L ++ M) := by
  funext y
  unfold clr
  rw [List.map_append]
  by_cases h : y ∈ M.map key3
  · rw [if_pos h, if_pos (List.mem_append_right _ h)]
  · rw [if_neg h]
    by_cases h2 : y ∈ L.map key3
    · rw [if_pos h2, if_pos (List.mem_append_left _ h2)]
    · rw [if_neg h2, if_neg (by rw [List.mem_append]; exact fun h' => h'.elim h2 h)]
theorem clr_one (U : K3 → List Int) (e : SElem) : updU U (key3 e) [] = clr U [e] := by
  funext y; simp [clr, updU]
theorem clr_out {U : K3 → List Int} {L : List SElem} {e : SElem} (h : e ∉ L) : clr U L (key3 e) = U (key3 e) := by
  unfold clr
  rw [if_neg]
  intro hm
  obtain ⟨x, hx, he⟩ := List.mem_map.1 hm
  exact h (key3_inj he ▸ hx)
theorem walkF_of (l : List SOp) {xs L : List SElem} (h : WalkL (chl l) xs L) : ∀ (k : Nat) (U : K3 → List Int) (all : List SElem), L.length ≤ k → L.Nodup → (∀ e ∈ L, U (key3 e) = gU l l.length (key3 e)) → all.length + L.length ≤ 900000 → xs.foldlM (stepF l k) (U, all) = some (clr U L, all ++ L) := by
  induction h with
  | nil => intro k U all _ _ _ _; simp [clr_nil]
  | cons h1 h2 ih1 ih2 =>
    rename_i x xs L1 L2
    intro k U all hk hnd hU hlen
    have hnx := List.nodup_cons.1 hnd
    have hna := List.nodup_append.1 hnx.2
    simp only [List.length_cons, List.length_append] at hk hlen
    obtain ⟨k', rfl⟩ : ∃ k', k = k' + 1 := ⟨k - 1, by omega⟩
    rw [List.foldlM_cons]
    have hx : x ∉ L1 ∧ x ∉ L2 := by
      have := hnx.1; rw [List.mem_append, not_or] at this; exact this
    have s1 : stepF l (k' + 1) (U, all) x = some (clr U (x :: L1), all ++ (x :: L1)) := by
      unfold stepF
      simp only
      rw [if_pos (by omega), walkF_succ, hU x List.mem_cons_self, clr_one]
      have := ih1 k' (clr U [x]) (all ++ [x]) (by omega) hna.1 (fun e he => by
        rw [clr_out (by rw [List.mem_singleton]; rintro rfl; exact hx.1 he)]
        exact hU e (List.mem_cons_of_mem _ (List.mem_append_left _ he))) (by simp; omega)
      unfold chl at this
      rw [this, clr_clr]
      simp
    rw [s1]
    simp only [Option.bind_eq_bind, Option.bind_some]
    have := ih2 (k' + 1) (clr U (x :: L1)) (all ++ (x :: L1)) (by omega) hna.2.1 (fun e he => by
        rw [clr_out]
        · exact hU e (List.mem_cons_of_mem _ (List.mem_append_right _ he))
        · intro hm
          rcases List.mem_cons.1 hm with rfl | hm
          · exact hx.2 he
          · exact hna.2.2 e hm e he rfl) (by simp; omega)
    rw [this, clr_clr]
    simp
theorem smalls_ok {l : List SOp} (hs : smalls l = true) (h : RowOk l) : okRow l = true := by
  unfold okRow
  simp only [Bool.and_eq_true, decide_eq_true_eq, List.all_eq_true]
  exact ⟨⟨hs, h.sums.1⟩, h.oks⟩
theorem tree_All_f {l : List SOp} (hs : smalls l = true) (h : RowOk l) : tree_All.f l = some (ordL l) := by
  unfold tree_All.f
  rw [if_pos (smalls_ok hs h)]
  have hnd := ordL_nodup h
  have hsum := h.sums
  have hw := ordL_walk h
  show (walkF l (999 + 1) (gU l l.length) [] bgE).map (·.2) = _
  rw [walkF_succ, clr_one]
  have := walkF_of l hw 999 (clr (gU l l.length) [bgE]) [] (by omega) hnd.1 (fun e he => by
    rw [clr_out]
    rw [List.mem_singleton]; rintro rfl
    have := ordL_pos h he; simp [bgE] at this) (by simp; omega)
  unfold chl at this
  rw [this]
  simp
end Go.Proofs.Ytonoaflfobajcaa.L
end

section
namespace Go.Proofs.Ytonoaflfobajcaa.L
open Go.RowKit Go.Proofs.YtonoaflfobajcaaW.PrintWords Go.Proofs.YtonoaflfobajcaaW.PrintLast Go.Proofs.YtonoaflfobajcaaW.PrintMore
set_option linter.unusedVariables false
set_option linter.unusedSimpArgs false
theorem isPrefix_next {l : List SOp} (h : RowOk l) (n : Nat) (hn : n < l.length) : NextOk (l.take n) l[n] ∧ RowOk (l.take n) := by
  have h1 := h.take (n + 1)
  rw [List.take_succ_eq_append_getElem hn] at h1
  exact ⟨h1.snoc_inv.2, h1.snoc_inv.1⟩
end Go.Proofs.Ytonoaflfobajcaa.L
end

section
namespace Go.Proofs.Ytonoaflfobajcaa.L
open Go.RowKit Go.Proofs.YtonoaflfobajcaaW.PrintWords Go.Proofs.YtonoaflfobajcaaW.PrintLast Go.Proofs.YtonoaflfobajcaaW.PrintMore
set_option linter.unusedVariables false
set_option linter.unusedSimpArgs false
structure GoesR (l : List SOp) (o : SOp) : Prop where
  ok : opOk o = true
  seq : o.f1 = (countS l o.f0 : Int) + 1
  after : wr l o.f3
  gone : ∀ e ∈ o.f5, wr l e
  tog : o.f2 = 2 → ∃ p ∈ l, p.f2 = 1 ∧ p.f0 = o.f6 ∧ p.f1 = o.f7
def writtenB (l : List SOp) (e : SElem) : Bool := decide (0 ≤ findOp l e.f0 e.f1) && decide (0 ≤ e.f2) && decide (e.f2 < (sizeOf' (rd_Op l (findOp l e.f0 e.f1)) : Int))
theorem findOp_mem {l : List SOp} (h : RowOk l) {p : SOp} (hp : p ∈ l) : ∃ i, ∃ hi : i < l.length, findOp l p.f0 p.f1 = (i : Int) ∧ l[i] = p := by
  rcases findOp_cases l p.f0 p.f1 with ⟨i, hi, h0, h1, _, e⟩ | ⟨hn, _⟩
  · refine ⟨i, hi, e, ?_⟩
    obtain ⟨j, hj, rfl⟩ := List.getElem_of_mem hp
    have uniq : ∀ a b (ha : a < l.length) (hb : b < l.length), a < b → ¬ (l[a].f0 = l[b].f0 ∧ l[a].f1 = l[b].f1) := by
      intro a b ha hb hab
      obtain ⟨g, g'⟩ := isPrefix_next h b hb
      have := g.fresh g' l[a] (List.mem_take_iff_getElem.2 ⟨a, by omega, rfl⟩)
      exact this
    rcases Nat.lt_trichotomy i j with hlt | rfl | hlt
    · exact absurd ⟨h0, h1⟩ (uniq i j hi hj hlt)
    · rfl
    · exact absurd ⟨h0.symm, h1.symm⟩ (uniq j i hj hi hlt)
  · exact absurd ⟨rfl, rfl⟩ (hn p hp)
theorem mem_written {l : List SOp} (h : RowOk l) (e : SElem) : writtenB l e = true ↔ e ∈ ordL l := by
  rw [mem_ordL h]
  unfold writtenB
  simp only [Bool.and_eq_true, decide_eq_true_eq]
  constructor
  · rintro ⟨⟨h0, h1⟩, h2⟩
    rcases findOp_cases l e.f0 e.f1 with ⟨i, hi, e0, e1, _, ef⟩ | ⟨_, ef⟩
    · rw [ef, rd_Op_nat _ _ hi] at h2
      exact ⟨l[i], List.getElem_mem hi, e0, e1, h1, h2⟩
    · omega
  · rintro ⟨p, hp, e0, e1, h1, h2⟩
    obtain ⟨i, hi, ef, ei⟩ := findOp_mem h hp
    rw [← e0, ← e1, ef, rd_Op_nat _ _ hi, ei]
    exact ⟨⟨by omega, h1⟩, h2⟩
end Go.Proofs.Ytonoaflfobajcaa.L
end

section
namespace Go.Proofs.Ytonoaflfobajcaa.L
open Go.RowKit Go.Proofs.YtonoaflfobajcaaW.PrintWords Go.Proofs.YtonoaflfobajcaaW.PrintLast Go.Proofs.YtonoaflfobajcaaW.PrintMore
set_option linter.unusedVariables false
set_option linter.unusedSimpArgs false
def cstep (l : List SOp) (n : List Int) (o : SOp) : List Int :=
  if o.f2 = 2 then (if o.f8 = n.getD (findOp l o.f6 o.f7).toNat 0 then n.set (findOp l o.f6 o.f7).toNat (n.getD (findOp l o.f6 o.f7).toNat 0 + 1) else n) else n
def countsL (l : List SOp) : List Int := l.foldl (cstep l) (List.replicate l.length 0)
def cntStep (s q : Int) (n : Int) (o : SOp) : Int := if o.f2 = 2 ∧ o.f6 = s ∧ o.f7 = q ∧ o.f8 = n then n + 1 else n
def cntR (l : List SOp) (s q : Int) : Int := l.foldl (cntStep s q) 0
theorem cstep_length (l : List SOp) (n : List Int) (o : SOp) : (cstep l n o).length = n.length := by
  unfold cstep; split
  · split <;> simp
  · rfl
theorem counts_length (l : List SOp) : (countsL l).length = l.length := by
  have : ∀ (ms : List SOp) (n : List Int), (ms.foldl (cstep l) n).length = n.length := by
    intro ms
    induction ms with
    | nil => intro n; rfl
    | cons o ms ih => intro n; rw [List.foldl_cons, ih, cstep_length]
  unfold countsL; rw [this]; simp
theorem name_inj {l : List SOp} (h : RowOk l) {i j : Nat} (hi : i < l.length) (hj : j < l.length) (h0 : l[i].f0 = l[j].f0) (h1 : l[i].f1 = l[j].f1) : i = j := by
  obtain ⟨a, ha, e1, _⟩ := findOp_mem h (List.getElem_mem hi)
  obtain ⟨b, hb, e2, _⟩ := findOp_mem h (List.getElem_mem hj)
  have uniq : ∀ a b (ha : a < l.length) (hb : b < l.length), a < b → ¬ (l[a].f0 = l[b].f0 ∧ l[a].f1 = l[b].f1) := by
    intro a b ha hb hab
    obtain ⟨g, g'⟩ := isPrefix_next h b hb
    exact g.fresh g' l[a] (List.mem_take_iff_getElem.2 ⟨a, by omega, rfl⟩)
  rcases Nat.lt_trichotomy i j with hlt | rfl | hlt
  · exact absurd ⟨h0, h1⟩ (uniq i j hi hj hlt)
  · rfl
  · exact absurd ⟨h0.symm, h1.symm⟩ (uniq j i hj hi hlt)
theorem findOp_at {l : List SOp} (h : RowOk l) {i : Nat} (hi : i < l.length) : findOp l l[i].f0 l[i].f1 = (i : Int) := by
  obtain ⟨a, ha, e1, e2⟩ := findOp_mem h (List.getElem_mem hi)
  rw [e1]
  have := name_inj h ha hi (by rw [e2]) (by rw [e2])
  omega
theorem tog_found {l : List SOp} (h : RowOk l) {o : SOp} (ho : o ∈ l) (h2 : o.f2 = 2) : ∃ i, ∃ hi : i < l.length, l[i].f2 = 1 ∧ l[i].f0 = o.f6 ∧ l[i].f1 = o.f7 ∧ findOp l o.f6 o.f7 = (i : Int) := by
  obtain ⟨j, hj, rfl⟩ := List.getElem_of_mem ho
  obtain ⟨a, _⟩ := isPrefix_next h j hj
  obtain ⟨p, hp, k1, k2, k3⟩ := a.tog h2
  obtain ⟨i, hi, rfl⟩ := List.getElem_of_mem (List.mem_of_mem_take hp)
  refine ⟨i, hi, k1, k2, k3, ?_⟩
  rw [← k2, ← k3, findOp_at h hi]
theorem counts_at {l : List SOp} (h : RowOk l) {i : Nat} (hi : i < l.length) : (countsL l).getD i 0 = cntR l l[i].f0 l[i].f1 := by
  have key : ∀ (ms : List SOp) (n : List Int), (∀ o ∈ ms, o ∈ l) → n.length = l.length → (ms.foldl (cstep l) n).getD i 0 = ms.foldl (cntStep l[i].f0 l[i].f1) (n.getD i 0) := by
    intro ms
    induction ms with
    | nil => intro n _ _; rfl
    | cons o ms ih =>
      intro n hm hn
      rw [List.foldl_cons, List.foldl_cons, ih _ (fun x hx => hm x (List.mem_cons_of_mem _ hx)) (by rw [cstep_length]; exact hn)]
      congr 1
      unfold cstep cntStep
      by_cases h2 : o.f2 = 2
      · obtain ⟨j, hj, _, k2, k3, e⟩ := tog_found h (hm o List.mem_cons_self) h2
        rw [if_pos h2, e, Int.toNat_natCast]
        by_cases hij : j = i
        · subst hij
          by_cases h8 : o.f8 = n.getD j 0
          · rw [if_pos h8, if_pos ⟨h2, k2.symm, k3.symm, h8⟩]
            simp [List.getD_eq_getElem?_getD, List.getElem?_set, hn, hi]
          · rw [if_neg h8, if_neg (fun hh => h8 hh.2.2.2)]
        · have hne : ¬ (o.f2 = 2 ∧ o.f6 = l[i].f0 ∧ o.f7 = l[i].f1 ∧ o.f8 = n.getD i 0) := fun hh => hij (name_inj h hj hi (by rw [k2, hh.2.1]) (by rw [k3, hh.2.2.1]))
          rw [if_neg hne]
          split
          · simp [List.getD_eq_getElem?_getD, List.getElem?_set, hij]
          · rfl
      · rw [if_neg h2, if_neg (fun hh => h2 hh.1)]
  unfold countsL cntR
  rw [key l _ (fun _ h => h) (by simp)]
  congr 1
  simp [List.getD_eq_getElem?_getD, hi]
def workE (l : List SOp) (o : SOp) : Bool := o.f2 == 1 && cntR l o.f0 o.f1 % 2 == 0
def goneE (l : List SOp) (e : SElem) : Bool := l.any fun o => workE l o && decide (e ∈ o.f5)
def thereE (l : List SOp) (e : SElem) : Bool := l.any fun o => workE l o && decide (e ∈ chainE o)
def seenL (l : List SOp) : List SElem := (ordL l).filter fun e => !(goneE l e || !thereE l e)
theorem mem_chain (o : SOp) (e : SElem) : e ∈ chainE o ↔ o.f0 = e.f0 ∧ o.f1 = e.f1 ∧ 0 ≤ e.f2 ∧ e.f2 < (sizeOf' o : Int) := by
  unfold chainE
  rw [List.mem_map]
  constructor
  · rintro ⟨j, hj, rfl⟩; rw [List.mem_range] at hj; exact ⟨rfl, rfl, by simp only; omega, by simp only; omega⟩
  · rintro ⟨a, b, c, d⟩
    exact ⟨e.f2.toNat, List.mem_range.2 (by omega), SElem.ext3 a b (by simp only; omega)⟩
theorem elem_op {l : List SOp} (h : RowOk l) {e : SElem} (he : e ∈ ordL l) : ∃ i, ∃ hi : i < l.length, findOp l e.f0 e.f1 = (i : Int) ∧ e ∈ chainE l[i] ∧ ∀ j (hj : j < l.length), e ∈ chainE l[j] → j = i := by
  obtain ⟨p, hp, e0, e1, h2, h3⟩ := (mem_ordL h e).1 he
  obtain ⟨i, hi, ef, rfl⟩ := findOp_mem h hp
  rw [e0, e1] at ef
  refine ⟨i, hi, ef, (mem_chain _ _).2 ⟨e0, e1, h2, h3⟩, fun j hj hj' => ?_⟩
  have := (mem_chain _ _).1 hj'
  exact name_inj h hj hi (by omega) (by omega)
theorem there_iff {l : List SOp} (h : RowOk l) {e : SElem} (he : e ∈ ordL l) : thereE l e = workE l (rd_Op l (findOp l e.f0 e.f1)) := by
  obtain ⟨i, hi, ef, hc, hu⟩ := elem_op h he
  rw [ef, rd_Op_nat _ _ hi]
  unfold thereE
  rw [Bool.eq_iff_iff, List.any_eq_true]
  constructor
  · rintro ⟨o, ho, hw⟩
    simp only [Bool.and_eq_true, decide_eq_true_eq] at hw
    obtain ⟨j, hj, rfl⟩ := List.getElem_of_mem ho
    have := hu j hj hw.2
    subst this
    exact hw.1
  · intro hw
    exact ⟨l[i], List.getElem_mem hi, by simp [hw, hc]⟩
theorem seen_nodup {l : List SOp} (h : RowOk l) : (seenL l).Nodup := (ordL_nodup h).1.filter _
theorem seen_mem {l : List SOp} {e : SElem} : e ∈ seenL l ↔ e ∈ ordL l ∧ goneE l e = false ∧ thereE l e = true := by
  unfold seenL
  rw [List.mem_filter]
  cases goneE l e <;> cases thereE l e <;> simp
end Go.Proofs.Ytonoaflfobajcaa.L
end

section
namespace Go.Proofs.Ytonoaflfobajcaa.L
open Go.RowKit Go.Proofs.YtonoaflfobajcaaW.PrintWords Go.Proofs.YtonoaflfobajcaaW.PrintLast Go.Proofs.YtonoaflfobajcaaW.PrintMore
set_option linter.unusedVariables false
set_option linter.unusedSimpArgs false
structure GoodAsk (l0 : List (List SOp)) (l1 : List SElem) (l2 : List SOp) (l3 : List Int) : Prop where
  n0 : l0.length ≤ 140737488351232
  r0 : ∀ x ∈ l0, x.length ≤ 140737488351232 ∧ ∀ o ∈ x, o.f4.size ≤ 140737488351232 ∧ o.f5.length ≤ 140737488351232
  n1 : l1.length ≤ 140737488351232
  n2 : l2.length ≤ 140737488351232
  r2 : ∀ o ∈ l2, o.f4.size ≤ 140737488351232 ∧ o.f5.length ≤ 140737488351232
  n3 : l3.length ≤ 140737488351232
theorem wrapS {i n : Nat} (h : i < n) (hn : n ≤ 4611686018427387904) : wrap64 ((i : Int) + 1) = ((i + 1 : Nat) : Int) := by
  rw [wrap64_small (by omega) (by omega)]; omega
theorem OpsWeight_some (l : List SOp) (hl : l.length ≤ 140737488351232) : ∀ d i (t : Int), i + d = l.length → ∃ r, Ev (fun k => lectionarylaw0_OpsWeight.l0 k l t (i : Int)) r
  | 0, i, t, h => ⟨t, Ev.step (f := fun _ => some t) (fun k => by simp only [lectionarylaw0_OpsWeight.l0]; rw [if_neg (by omega)]) (Ev.now _)⟩
  | d + 1, i, t, h => by
    by_cases ht : t < 1048576
    · obtain ⟨r, hr⟩ := OpsWeight_some l hl d (i + 1) (wrap64 (t + (wrap64 ((wrap64 (2 + (wrap64 (((rd_Op l (i : Int)).f4.size : Int) / 4)))) + ((rd_Op l (i : Int)).f5.length : Int))))) (by omega)
      refine ⟨r, Ev.step (fun k => ?_) hr⟩
      simp only [lectionarylaw0_OpsWeight.l0]
      rw [if_pos (by omega), if_pos ht, if_pos (by omega), wrapS (show i < l.length by omega) (by omega)]
      rfl
    · exact ⟨t, Ev.step (f := fun _ => some t) (fun k => by simp only [lectionarylaw0_OpsWeight.l0]; rw [if_pos (by omega), if_neg ht]) (Ev.now _)⟩
theorem rd_LOp_mem (l : List (List SOp)) (i : Nat) (h : i < l.length) : rd_LOp l (i : Int) ∈ l := by
  unfold rd_LOp; simp [h]
theorem Heavy_loop {l0 : List (List SOp)} {l1 : List SElem} {l2 : List SOp} {l3 : List Int} (hg : GoodAsk l0 l1 l2 l3) : ∀ d i (t : Int), i + d = l0.length → ∃ r, Ev (fun k => lectionarylaw5_Heavy.l0 k t (i : Int) l0 l1 l2 l3) r
  | 0, i, t, h => ⟨_, Ev.step (f := fun _ => some (decide (t > 900))) (fun k => by simp only [lectionarylaw5_Heavy.l0]; rw [if_neg (by omega)]) (Ev.now _)⟩
  | d + 1, i, t, h => by
    by_cases ht : t < 1048576
    · have hm := rd_LOp_mem l0 i (by omega)
      obtain ⟨q, hq⟩ := OpsWeight_some (rd_LOp l0 (i : Int)) (hg.r0 _ hm).1 _ 0 ((rd_LOp l0 (i : Int)).length : Int) (Nat.zero_add _)
      obtain ⟨r, hr⟩ := Heavy_loop hg d (i + 1) (wrap64 (t + q)) (by omega)
      refine ⟨r, Ev.step (fun k => ?_) (Ev.bind (f := fun k q => lectionarylaw5_Heavy.l0 k (wrap64 (t + q)) ((i + 1 : Nat) : Int) l0 l1 l2 l3) hq hr)⟩
      simp only [lectionarylaw5_Heavy.l0]
      have hn := hg.n0
      rw [if_pos (by omega), if_pos ht, if_pos (by omega), wrapS (show i < l0.length by omega) (by omega)]
      rfl
    · exact ⟨_, Ev.step (f := fun _ => some (decide (t > 900))) (fun k => by simp only [lectionarylaw5_Heavy.l0]; rw [if_pos (by omega), if_neg ht]) (Ev.now _)⟩
theorem Heavy_some {l0 : List (List SOp)} {l1 : List SElem} {l2 : List SOp} {l3 : List Int} (hg : GoodAsk l0 l1 l2 l3) : ∃ r, Ev (fun k => lectionarylaw5_Heavy.f k l0 l1 l2 l3) r := by
  obtain ⟨q, hq⟩ := OpsWeight_some l2 hg.n2 _ 0 (l2.length : Int) (Nat.zero_add _)
  obtain ⟨r, hr⟩ := Heavy_loop hg _ 0 (wrap64 ((wrap64 ((l1.length : Int) + (l3.length : Int))) + q)) (Nat.zero_add _)
  exact ⟨r, Ev.bind (f := fun k q => lectionarylaw5_Heavy.l0 k (wrap64 ((wrap64 ((l1.length : Int) + (l3.length : Int))) + q)) 0 l0 l1 l2 l3) hq hr⟩
theorem good_smalls {l : List SOp} (h : l.length ≤ 140737488351232 ∧ ∀ o ∈ l, o.f4.size ≤ 140737488351232 ∧ o.f5.length ≤ 140737488351232) : smalls l = true := by
  unfold smalls SmB
  simp only [Bool.and_eq_true, decide_eq_true_eq, List.all_eq_true]
  exact ⟨by omega, fun o ho => by have := h.2 o ho; omega⟩
theorem tree_May_f {l : List SOp} (h : smalls l = true) : tree_May.f l = some (mayB l) := by unfold tree_May.f; rw [if_pos h]
end Go.Proofs.Ytonoaflfobajcaa.L
end

section
namespace Go.Proofs.Ytonoaflfobajcaa.L
open Go.RowKit Go.Proofs.YtonoaflfobajcaaW.PrintWords Go.Proofs.YtonoaflfobajcaaW.PrintLast Go.Proofs.YtonoaflfobajcaaW.PrintMore
set_option linter.unusedVariables false
set_option linter.unusedSimpArgs false
theorem bytes1 {n B : Nat} (hB : 1 ≤ B) (h : n * B ≤ reachBytes) : n ≤ 140737488351232 := Nat.le_trans (Nat.le_mul_of_pos_right n hB) h
theorem GoodOp.le {o : SOp} (h : GoodOp o) : o.f4.size ≤ 140737488351232 ∧ o.f5.length ≤ 140737488351232 := ⟨h.1, bytes1 (of_decide_eq_true (by kernel_rfl)) h.2⟩
theorem GoodAsk.of {l0 : List (List SOp)} {l1 : List SElem} {l2 : List SOp} {l3 : List Int}
    (h0 : l0.length * Try.prog.bytesOf 24 ≤ reachBytes ∧ ∀ x ∈ l0, x.length * Try.prog.bytesOf 38 ≤ reachBytes ∧ ∀ o ∈ x, GoodOp o)
    (h1 : l1.length * Try.prog.bytesOf 36 ≤ reachBytes ∧ ∀ x ∈ l1, (Lit.int .i64 x.f0).wf = true ∧ (Lit.int .i64 x.f1).wf = true ∧ (Lit.int .i64 x.f2).wf = true)
    (h2 : l2.length * Try.prog.bytesOf 38 ≤ reachBytes ∧ ∀ x ∈ l2, GoodOp x) (h3 : l3.length * Try.prog.bytesOf 3 ≤ reachBytes ∧ ∀ x ∈ l3, (Lit.int .i64 x).wf = true) : GoodAsk l0 l1 l2 l3 :=
  ⟨bytes1 (of_decide_eq_true (by kernel_rfl)) h0.1, fun x hx => ⟨bytes1 (of_decide_eq_true (by kernel_rfl)) (h0.2 x hx).1, fun o ho => ((h0.2 x hx).2 o ho).le⟩, bytes1 (of_decide_eq_true (by kernel_rfl)) h1.1, bytes1 (of_decide_eq_true (by kernel_rfl)) h2.1, fun o ho => (h2.2 o ho).le, bytes1 (of_decide_eq_true (by kernel_rfl)) h3.1⟩
theorem agg_of_cells {v : Value} {a b : Value} {l : List Value} (h : v.cells.toList = a :: b :: l) : v = .agg (a :: b :: l).toArray := by
  cases v <;> simp [Value.cells] at h
  rw [← h]
theorem opens_Ask (H : Type) : ∀ (enc : TypeId × Value → H) (W : World) (base : Nat) (sp : Nat → Bool) (held : Bool) (fuel : Nat) (cs : List Value) (x : DataW H × List MemPlace), DataW.trod enc Try.prog W base sp held fuel 27 cs = some x → lightW Try.prog 27 x.1 →
    ∃ A0 c0 l0 A1 c1 l1 A2 c2 l2 A3 c3 l3, cs = [.slice A0 l0.length c0, .slice A1 l1.length c1, .slice A2 l2.length c2, .slice A3 l3.length c3] ∧ Kd.C (Kd.slice 38 kOp) W A0 l0.length l0 ∧ l0.length ≤ c0 ∧ Kd.C kElem W A1 l1.length l1 ∧ l1.length ≤ c1 ∧ Kd.C kOp W A2 l2.length l2 ∧ l2.length ≤ c2 ∧ Kd.C (Kd.int .i64) W A3 l3.length l3 ∧ l3.length ≤ c3 ∧ GoodAsk l0 l1 l2 l3 := by
  intro enc W base sp held fuel cs x h hl
  have hS := Opens.struct (H := H) Try.underlying27 (by kernel_rfl)
    (OpensF.cons (opens_LOps H) (by kernel_rfl) rfl rfl (OpensF.cons (opens_Elems H) (by kernel_rfl) rfl rfl (OpensF.cons (opens_Ops H) (by kernel_rfl) rfl rfl (OpensF.last (opens_Ints H) (by kernel_rfl) rfl rfl))))
  obtain ⟨⟨l0, l1, l2, l3⟩, hp, hg⟩ := hS enc W base sp held fuel cs x h hl
  obtain ⟨_, _, rfl, ⟨A0, c0, rfl, h0, g0⟩, ⟨_, _, rfl, ⟨A1, c1, rfl, h1, g1⟩, ⟨_, _, rfl, ⟨A2, c2, rfl, h2, g2⟩, ⟨A3, c3, rfl, h3, g3⟩⟩⟩⟩ := hp
  exact ⟨A0, c0, l0, A1, c1, l1, A2, c2, l2, A3, c3, l3, rfl, g0, h0, g1, h1, g2, h2, g3, h3, GoodAsk.of hg.1 hg.2.1 hg.2.2.1 hg.2.2.2⟩
end Go.Proofs.Ytonoaflfobajcaa.L
end

section
namespace Go.Proofs.Ytonoaflfobajcaa.L
open Go.RowKit Go.Proofs.YtonoaflfobajcaaW.PrintWords Go.Proofs.YtonoaflfobajcaaW.PrintLast Go.Proofs.YtonoaflfobajcaaW.PrintMore
attribute [local go_sem] max2_int min2_int max_two min_two max_three min_three max_four min_four
set_option linter.unusedVariables false
set_option linter.unusedSimpArgs false
def doc_Counts.l0 : Nat → List (SOp) → List Int → List (SOp) → Int → Int → Option (List Int)
 | 0, _, _, _, _, _ => none
 | k + 1, x0, x3, x10, x11, x12 => if x12 < x11 then (if 0 ≤ x12 then (if x12 < (x10.length : Int) then (if ((rd_Op x10 x12).f2) = 2 then ((tree_Find.f x0 ((rd_Op x10 x12).f6) ((rd_Op x10 x12).f7)).bind fun t167 => (if 0 ≤ t167 then (if t167 < (x3.length : Int) then (if ((rd_Op x10 x12).f8) = (rd x3 t167) then (doc_Counts.l0 k x0 (x3.set (t167 : Int).toNat (wrap64 ((rd x3 t167) + 1))) x10 x11 (wrap64 (x12 + 1))) else (doc_Counts.l0 k x0 x3 x10 x11 (wrap64 (x12 + 1)))) else (none)) else (none))) else (doc_Counts.l0 k x0 x3 x10 x11 (wrap64 (x12 + 1)))) else (none)) else (none)) else (some x3)
def doc_Counts.f (k : Nat) (l0 : List (SOp)) : Option (List Int) := if 0 ≤ (l0.length : Int) then (if ((l0.length : Int) : Int).toNat ≤ 35184372088832 then (doc_Counts.l0 k l0 (List.replicate ((l0.length : Int) : Int).toNat 0) l0 (l0.length : Int) 0) else (none)) else (none)
theorem bp11 {W : World} {g : Nat} {t : TypeId} {b0 b1 b2 b3 b4 b5 b6 b7 b8 b9 b10 u0 u1 u2 u3 u4 u5 u6 u7 u8 u9 u10 : Value} (h : W.heap[g]? = some (.cells #[b0, b1, b2, b3, b4, b5, b6, b7, b8, b9, b10] t (0, 0))) : (((((((((((W.setCell ⟨g, 0, none⟩ u0).setCell ⟨g, 1, none⟩ u1).setCell ⟨g, 2, none⟩ u2).setCell ⟨g, 3, none⟩ u3).setCell ⟨g, 4, none⟩ u4).setCell ⟨g, 5, none⟩ u5).setCell ⟨g, 6, none⟩ u6).setCell ⟨g, 7, none⟩ u7).setCell ⟨g, 8, none⟩ u8).setCell ⟨g, 9, none⟩ u9).setCell ⟨g, 10, none⟩ u10).heap[g]? = some (.cells #[u0, u1, u2, u3, u4, u5, u6, u7, u8, u9, u10] t (0, 0)) := by
  have h0 := blk_put (cs' := #[u0, b1, b2, b3, b4, b5, b6, b7, b8, b9, b10]) h 0 u0 rfl
  have h1 := blk_put (cs' := #[u0, u1, b2, b3, b4, b5, b6, b7, b8, b9, b10]) h0 1 u1 rfl
  have h2 := blk_put (cs' := #[u0, u1, u2, b3, b4, b5, b6, b7, b8, b9, b10]) h1 2 u2 rfl
  have h3 := blk_put (cs' := #[u0, u1, u2, u3, b4, b5, b6, b7, b8, b9, b10]) h2 3 u3 rfl
  have h4 := blk_put (cs' := #[u0, u1, u2, u3, u4, b5, b6, b7, b8, b9, b10]) h3 4 u4 rfl
  have h5 := blk_put (cs' := #[u0, u1, u2, u3, u4, u5, b6, b7, b8, b9, b10]) h4 5 u5 rfl
  have h6 := blk_put (cs' := #[u0, u1, u2, u3, u4, u5, u6, b7, b8, b9, b10]) h5 6 u6 rfl
  have h7 := blk_put (cs' := #[u0, u1, u2, u3, u4, u5, u6, u7, b8, b9, b10]) h6 7 u7 rfl
  have h8 := blk_put (cs' := #[u0, u1, u2, u3, u4, u5, u6, u7, u8, b9, b10]) h7 8 u8 rfl
  have h9 := blk_put (cs' := #[u0, u1, u2, u3, u4, u5, u6, u7, u8, u9, b10]) h8 9 u9 rfl
  have h10 := blk_put (cs' := #[u0, u1, u2, u3, u4, u5, u6, u7, u8, u9, u10]) h9 10 u10 rfl
  exact h10
set_option maxHeartbeats 8000000 in
set_option maxRecDepth 100000 in
theorem doc_Counts.calls (k : Nat) (A0 : Option Addr) (c0 : Nat) (l0 : List (SOp)) (r : List Int) (w : World) (hr0 : Kd.C kOp w A0 l0.length l0) (hc0 : l0.length ≤ c0) (h : doc_Counts.f k l0 = some r) :
  Calls Try.prog 30 #[.slice A0 l0.length c0] w fun e w' => ∃ v0_ : Value, e = .returned (v0_) ∧ Kd.R (Kd.int .i64) 3 w' w.heap.size (fun _ => True) v0_ r ∧ Below w.heap.size w w' := by
 have hu38 := Try.underlying38
 have HR0 := Aside0.mk hr0
 have HC0 := Aside0.mk hc0
 clear hr0 hc0
 have HB := Aside0.mk (Below.refl w.heap.size w)
 have H : (if 0 ≤ (l0.length : Int) then (if ((l0.length : Int) : Int).toNat ≤ 35184372088832 then (doc_Counts.l0 k l0 (List.replicate ((l0.length : Int) : Int).toNat 0) l0 (l0.length : Int) 0) else (none)) else (none)) = some r := h
 clear h
 by_cases c2 : 0 ≤ (l0.length : Int)
 ·rw [if_pos c2] at H
  have c2b0 := eq_true c2
  have c2b1 : decide (0 ≤ (l0.length : Int)) = true := decide_eq_true c2
  clear c2
  by_cases c3 : ((l0.length : Int) : Int).toNat ≤ 35184372088832
  ·rw [if_pos c3] at H
   have c3b0 := eq_true c3
   have c3b1 : decide (((l0.length : Int) : Int).toNat ≤ 35184372088832) = true := decide_eq_true c3
   clear c3
   obtain ⟨y162, hy162⟩ : ∃ y_ : List Int, y_ = (List.replicate ((l0.length : Int) : Int).toNat 0) := ⟨_, rfl⟩
   replace H : (doc_Counts.l0 k l0 y162 l0 (l0.length : Int) 0) = some r := by first | (rw [hy162]; with_reducible exact H) | (have H2_ := (Option.bind_some _ _).symm.trans H; rw [hy162]; with_reducible exact H2_) | (have H2_ := (Option.bind_some _ _).symm.trans H; with_reducible exact H2_) | with_reducible exact H | (rw [hy162]; exact H) | exact H
   have Ny162 := Aside0.mk hy162
   clear hy162
   have H' := Aside0.mk H
   clear H
   go_enter Try.func30, Try.ntmps30
   go_wp2_with (first | ((with_reducible refine gate_dst (N := 9) rfl ?_); refine Kd.R_make (Kd.int .i64) _ 3 rfl (N := 9) rfl 25 _ _ rfl (l0.length : Int) rfl rfl Try.underlying25 (.int .i64 0) 8 info3 rfl (by decide) (by omega) 0 (ok := fun _ => True) (okp := fun _ => True) rfl (fun _ hk => hk) trivial (of_decide_eq_true (by first | (with_reducible assumption) | assumption)) (Nat.le_trans (Nat.mul_le_mul_right _ (of_decide_eq_true (by first | (with_reducible assumption) | assumption) : (l0.length : Int).toNat ≤ 35184372088832)) (by omega)) (Below.refl _ _) (Nat.le_refl _) ?_; intro v163 w4 ho5 hb hg_ hnew_; clear hg_ hnew_; (first | rw [← Ny162.out] at ho5 | (simp only [Int.reduceToNat] at ho5; rw [← Ny162.out] at ho5)); have HO164 := Aside0.mk (Kd.R_lower ho5 (below_size (bw HB))); replace HB := bs HB hb; clear hb ho5))
   repeat (go_quiet (first | ((with_reducible refine gate_dst (N := 9) rfl ?_); refine Kd.R_make (Kd.int .i64) _ 3 rfl (N := 9) rfl 25 _ _ rfl (l0.length : Int) rfl rfl Try.underlying25 (.int .i64 0) 8 info3 rfl (by decide) (by omega) 0 (ok := fun _ => True) (okp := fun _ => True) rfl (fun _ hk => hk) trivial (of_decide_eq_true (by first | (with_reducible assumption) | assumption)) (Nat.le_trans (Nat.mul_le_mul_right _ (of_decide_eq_true (by first | (with_reducible assumption) | assumption) : (l0.length : Int).toNat ≤ 35184372088832)) (by omega)) (Below.refl _ _) (Nat.le_refl _) ?_; intro v163 w4 ho5 hb hg_ hnew_; clear hg_ hnew_; (first | rw [← Ny162.out] at ho5 | (simp only [Int.reduceToNat] at ho5; rw [← Ny162.out] at ho5)); have HO164 := Aside0.mk (Kd.R_lower ho5 (below_size (bw HB))); replace HB := bs HB hb; clear hb ho5)); try go_wp2_with (first | ((with_reducible refine gate_dst (N := 9) rfl ?_); refine Kd.R_make (Kd.int .i64) _ 3 rfl (N := 9) rfl 25 _ _ rfl (l0.length : Int) rfl rfl Try.underlying25 (.int .i64 0) 8 info3 rfl (by decide) (by omega) 0 (ok := fun _ => True) (okp := fun _ => True) rfl (fun _ hk => hk) trivial (of_decide_eq_true (by first | (with_reducible assumption) | assumption)) (Nat.le_trans (Nat.mul_le_mul_right _ (of_decide_eq_true (by first | (with_reducible assumption) | assumption) : (l0.length : Int).toNat ≤ 35184372088832)) (by omega)) (Below.refl _ _) (Nat.le_refl _) ?_; intro v163 w4 ho5 hb hg_ hnew_; clear hg_ hnew_; (first | rw [← Ny162.out] at ho5 | (simp only [Int.reduceToNat] at ho5; rw [← Ny162.out] at ho5)); have HO164 := Aside0.mk (Kd.R_lower ho5 (below_size (bw HB))); replace HB := bs HB hb; clear hb ho5)))
   go_loopg [12] k (fun kq v12 w' => ∃ (x3_1 : List Int) (x12_1 : Int), v12 = .int .i64 x12_1 ∧ Aside0 (doc_Counts.l0 kq l0 x3_1 l0 (l0.length : Int) x12_1 = some r) ∧ Aside0 (kq ≤ k) ∧ Aside0 (Kd.R (Kd.int .i64) 3 w' w.heap.size (fun _ => True) v163 x3_1) ∧ Aside0 (Below w.heap.size w w'))
   case atStart => exact ⟨(y162), (0), rf, H', ⟨Nat.le_refl _⟩, ⟨by (with_reducible repeat (first | apply Kd.R_alloc | apply Kd.R_drewN | apply Kd.R_drew)); exact HO164.out⟩, ⟨bw HB⟩⟩
   case round =>
    clear H'
    try clear c2b0; try clear c2b1; try clear c3b0; try clear c3b1
    obtain ⟨x3_1, x12_1, rfl, HA, HK1, HO_3, HB⟩ := hrel
    cases gk with
    | zero => exact absurd HA.out (by simp [doc_Counts.l0])
    | succ k1 =>
     have H := HA.out
     clear HA
     simp only [doc_Counts.l0] at H
     by_cases c6 : x12_1 < (l0.length : Int)
     ·rw [if_pos c6] at H
      have c6b0 : decide (x12_1 < (l0.length : Int)) = true := decide_eq_true c6
      clear c6
      by_cases c7 : 0 ≤ x12_1
      ·rw [if_pos c7] at H
       have c7b0 : decide (0 ≤ x12_1) = true := decide_eq_true c7
       clear c7
       by_cases c8 : x12_1 < (l0.length : Int)
       ·rw [if_pos c8] at H
        have c8b0 : decide (x12_1 < (l0.length : Int)) = true := decide_eq_true c8
        clear c8
        by_cases c9 : ((rd_Op l0 x12_1).f2) = 2
        ·rw [if_pos c9] at H
         have c9b0 : (((rd_Op l0 x12_1).f2) == 2) = true := beq_iff_eq.mpr c9
         have c9b1 : (((rd_Op l0 x12_1).f2) != 2) = false := bne_eq_false_iff_eq.mpr c9
         clear c9
         replace H := Option.bind_eq_some_iff.mp H
         obtain ⟨t167, A100, H⟩ := H
         replace H : (if 0 ≤ t167 then (if t167 < (x3_1.length : Int) then (if ((rd_Op l0 x12_1).f8) = (rd x3_1 t167) then (doc_Counts.l0 k1 l0 (x3_1.set (t167 : Int).toNat (wrap64 ((rd x3_1 t167) + 1))) l0 (l0.length : Int) (wrap64 (x12_1 + 1))) else (doc_Counts.l0 k1 l0 x3_1 l0 (l0.length : Int) (wrap64 (x12_1 + 1)))) else (none)) else (none)) = some r := H
         have A10 := Aside0.mk A100
         clear A100
         by_cases c11 : 0 ≤ t167
         ·rw [if_pos c11] at H
          have c11b0 : decide (0 ≤ t167) = true := decide_eq_true c11
          clear c11
          by_cases c12 : t167 < (x3_1.length : Int)
          ·rw [if_pos c12] at H
           have c12b0 : decide (t167 < (x3_1.length : Int)) = true := decide_eq_true c12
           clear c12
           by_cases c13 : ((rd_Op l0 x12_1).f8) = (rd x3_1 t167)
           ·rw [if_pos c13] at H
            have c13b0 : (((rd_Op l0 x12_1).f8) == (rd x3_1 t167)) = true := beq_iff_eq.mpr c13
            have c13b1 : (((rd_Op l0 x12_1).f8) != (rd x3_1 t167)) = false := bne_eq_false_iff_eq.mpr c13
            clear c13
            obtain ⟨y170, hy170⟩ : ∃ y_ : List Int, y_ = (x3_1.set (t167 : Int).toNat (wrap64 ((rd x3_1 t167) + 1))) := ⟨_, rfl⟩
            replace H : (doc_Counts.l0 k1 l0 y170 l0 (l0.length : Int) (wrap64 (x12_1 + 1))) = some r := by first | (rw [hy170]; with_reducible exact H) | (have H2_ := (Option.bind_some _ _).symm.trans H; rw [hy170]; with_reducible exact H2_) | (have H2_ := (Option.bind_some _ _).symm.trans H; with_reducible exact H2_) | with_reducible exact H | (rw [hy170]; exact H) | exact H
            have Ny170 := Aside0.mk hy170
            clear hy170
            have H' := Aside0.mk H
            clear H
            have p165 : 0 ≤ (x12_1 : Int) := of_decide_eq_true (by first | (with_reducible assumption) | assumption)
            have q165 : x12_1 < (l0.length : Int) := of_decide_eq_true (by first | (with_reducible assumption) | assumption)
            obtain ⟨ad165, A165_7, c165_7, e165, hx165_0, hx165_1, hx165_2, hx165_3, hx165_4, hx165_5, hx165_6, hx165_7, hx165_8, hx165_9, hx165_10, hl165_7, hi165_7⟩ := at_Op HR0.out x12_1 p165 q165
            cases e165
            replace hx165_0 := cl HB hx165_0
            replace hx165_1 := cl HB hx165_1
            replace hx165_2 := cl HB hx165_2
            replace hx165_3 := cl HB hx165_3
            replace hx165_4 := cl HB hx165_4
            replace hx165_5 := cl HB hx165_5
            replace hx165_6 := cl HB hx165_6
            replace hx165_7 := cl HB hx165_7
            replace hx165_8 := cl HB hx165_8
            replace hx165_9 := cl HB hx165_9
            replace hx165_10 := cl HB hx165_10
            have HR165_7 := Aside0.mk hi165_7
            have HC165_7 := Aside0.mk hl165_7
            clear hi165_7 hl165_7
            replace p165 := eq_true p165
            replace q165 := eq_true q165
            go_wp2_with (first | ((with_reducible refine gate_dst (N := 5) rfl ?_); refine bx 5 #[.int .i64 0, .int .i64 0, .int .i64 0, .int .i64 0, .int .i64 0, .int .i64 0, .string (⟨#[]⟩ : ByteArray), .slice none 0 0, .int .i64 0, .int .i64 0, .int .i64 0] 38 (h := ?_); intro gb166 hg w15 hbox hb; have BK166 := Aside0.mk (hbox); have GW166 := bz HB hg; have GE166 := bz HB hg; replace HO_3 := Aside0.mk (Kd.R_below (by (with_reducible repeat (first | apply Kd.R_alloc | apply Kd.R_drewN | apply Kd.R_drew)); exact HO_3.out) hb); replace HB := bs HB hb; clear hb hbox hg; obtain ⟨hcz16_0, hcz16_1, hcz16_2, hcz16_3, hcz16_4, hcz16_5, hcz16_6, hcz16_7, hcz16_8, hcz16_9, hcz16_10, hfz16_0, hfz16_1, hfz16_2, hfz16_3, hfz16_4, hfz16_5, hfz16_6, hfz16_7, hfz16_8, hfz16_9, hfz16_10⟩ := kc11 BK166) | (go_at_call 33; (with_reducible refine (tree_Find.calls _ _ l0 ((rd_Op l0 x12_1).f6) ((rd_Op l0 x12_1).f7) t167 _ ?side1 ?side2 A10.out).mono ?_); (case side1 => exact Kd.C_below HR0.out (bw HB)); (case side2 => exact HC0.out); rintro e w17 ⟨rfl, hb⟩; replace HO_3 := Aside0.mk (Kd.R_below (by (with_reducible repeat (first | apply Kd.R_alloc | apply Kd.R_drewN | apply Kd.R_drew)); exact (Kd.R_mono (Kd.R_far (p := ⟨gb166, 10, none⟩) (Kd.R_far (p := ⟨gb166, 9, none⟩) (Kd.R_far (p := ⟨gb166, 8, none⟩) (Kd.R_far (p := ⟨gb166, 7, none⟩) (Kd.R_far (p := ⟨gb166, 6, none⟩) (Kd.R_far (p := ⟨gb166, 5, none⟩) (Kd.R_far (p := ⟨gb166, 4, none⟩) (Kd.R_far (p := ⟨gb166, 3, none⟩) (Kd.R_far (p := ⟨gb166, 2, none⟩) (Kd.R_far (p := ⟨gb166, 1, none⟩) (Kd.R_far (p := ⟨gb166, 0, none⟩) (Kd.R_types HO_3.out BK166.out (by decide)) (fun _ hk => hk.2) (.int .i64 ((rd_Op l0 x12_1).f0))) (fun _ hk => hk.2) (.int .i64 ((rd_Op l0 x12_1).f1))) (fun _ hk => hk.2) (.int .i64 ((rd_Op l0 x12_1).f2))) (fun _ hk => hk.2) (.int .i64 ((rd_Op l0 x12_1).f3.f0))) (fun _ hk => hk.2) (.int .i64 ((rd_Op l0 x12_1).f3.f1))) (fun _ hk => hk.2) (.int .i64 ((rd_Op l0 x12_1).f3.f2))) (fun _ hk => hk.2) (.string ((rd_Op l0 x12_1).f4))) (fun _ hk => hk.2) (.slice A165_7 ((rd_Op l0 x12_1).f5).length c165_7)) (fun _ hk => hk.2) (.int .i64 ((rd_Op l0 x12_1).f6))) (fun _ hk => hk.2) (.int .i64 ((rd_Op l0 x12_1).f7))) (fun _ hk => hk.2) (.int .i64 ((rd_Op l0 x12_1).f8))) (fun _ h_ => h_.1))) hb); replace BK166 := Aside0.mk (blk_below (g := gb166) (o := .cells #[.int .i64 ((rd_Op l0 x12_1).f0), .int .i64 ((rd_Op l0 x12_1).f1), .int .i64 ((rd_Op l0 x12_1).f2), .int .i64 ((rd_Op l0 x12_1).f3.f0), .int .i64 ((rd_Op l0 x12_1).f3.f1), .int .i64 ((rd_Op l0 x12_1).f3.f2), .string ((rd_Op l0 x12_1).f4), .slice A165_7 ((rd_Op l0 x12_1).f5).length c165_7, .int .i64 ((rd_Op l0 x12_1).f6), .int .i64 ((rd_Op l0 x12_1).f7), .int .i64 ((rd_Op l0 x12_1).f8)] 38 (0, 0)) (bp11 (kk BK166)) hb); replace HB := bs HB hb; (try clear hb); (try clear hb2); (try clear hk); (try clear hi); obtain ⟨hcz18_0, hcz18_1, hcz18_2, hcz18_3, hcz18_4, hcz18_5, hcz18_6, hcz18_7, hcz18_8, hcz18_9, hcz18_10, hfz18_0, hfz18_1, hfz18_2, hfz18_3, hfz18_4, hfz18_5, hfz18_6, hfz18_7, hfz18_8, hfz18_9, hfz18_10⟩ := kc11 BK166; obtain ⟨Ao19, co19, eo19⟩ := Kd.R_slice HO_3.out; subst eo19; have p168 : 0 ≤ (t167 : Int) := of_decide_eq_true (by first | (with_reducible assumption) | assumption); have q168 : t167 < (x3_1.length : Int) := of_decide_eq_true (by first | (with_reducible assumption) | assumption); obtain ⟨ad168, e168, hx168_0⟩ := Kd.at_int (Kd.R_reads' HO_3.out).2.2 t167 p168 q168; cases e168; replace p168 := eq_true p168; replace q168 := eq_true q168; have p169 : 0 ≤ (t167 : Int) := of_decide_eq_true (by first | (with_reducible assumption) | assumption); have q169 : t167 < (x3_1.length : Int) := of_decide_eq_true (by first | (with_reducible assumption) | assumption); obtain ⟨ad169, e169, hx169_0⟩ := Kd.at_int (Kd.R_reads' HO_3.out).2.2 t167 p169 q169; obtain rfl : ad168 = ad169 := (by injection e169); replace p169 := eq_true p169; replace q169 := eq_true q169; have p14 : 0 ≤ (t167 : Int) := of_decide_eq_true (by first | (with_reducible assumption) | assumption); have q14 : (t167 : Int) < ((x3_1.length : Int) : Int) := of_decide_eq_true (by first | (with_reducible assumption) | assumption); obtain ⟨go14, co14, eo14, gb14, gl14, cl14, HG14⟩ := Kd.R_form HO_3.out (by omega); (first | cases eo14 | (injection eo14 with ea_ en_ ec_; (first | subst ea_ | (injection ea_ with ea_; subst ea_)); subst ec_; clear en_)); have GB14 := Aside0.mk gb14; have GG14 := Aside0.mk HG14; clear gb14 gl14 HG14; (first | simp only [add_plain] at hx168_0 | skip); (first | simp only [add_plain] at hx169_0 | skip); obtain ⟨hx14_0, hf14_0⟩ := Kd.R_celln 0 HO_3.out (t167 : Int) p14 q14; replace p14 := eq_true p14; replace q14 := eq_true q14; obtain ⟨hy20_, hz20_⟩ := Kd.R_celln 0 HO_3.out (t167 : Int) (of_decide_eq_true (by first | (with_reducible assumption) | assumption)) (of_decide_eq_true (by first | (with_reducible assumption) | assumption)); have HP20 := Kd.R_putg HO_3.out (t167 : Int) (wrap64 ((rd x3_1 t167) + 1))) | ((with_reducible refine gate_store (t := 3) (p := 37) rfl ?_); (try (rw [drewN_self w17]; generalize hq_ : World.drewN w17 _ = w17; have n0_ := Aside0.mk (Kd.R_at hq_ HO_3.out); have n1_ := Aside0.mk (blk_at hq_ BK166.out); have n2_ := Aside0.mk (below_at hq_ HB.out); clear hq_ HO_3 BK166 HB; have HO_3 := n0_; have BK166 := n1_; have HB := n2_; clear n0_ n1_ n2_; (try (obtain ⟨hy20_, hz20_⟩ := Kd.R_celln 0 HO_3.out (t167 : Int) (of_decide_eq_true (by first | (with_reducible assumption) | assumption)) (of_decide_eq_true (by first | (with_reducible assumption) | assumption)))); (try (have HP20 := Kd.R_putg HO_3.out (t167 : Int) (wrap64 ((rd x3_1 t167) + 1)))))); refine store_event (t := 3) (p := 37) (v := ?vo_w21) (w1 := (w17.setCell ⟨go14, (t167 : Int).toNat, none⟩ (.int .i64 (wrap64 ((rd x3_1 t167) + 1))))) ?hg ?ho ?hn ?hr ?_; (case ho => rfl); (case hg => rfl); (case hn => rfl); (case hr => first | (go_simp; done) | (go_simp; rfl)); intro w21 hw; have hg : w17.grownBy w21 (some go14) := (by rw [hw]; exact HP20.2); have hp_ : Kd.R (Kd.int .i64) 3 w21 w.heap.size (fun _ => True) (.slice (some ⟨go14, 0, none⟩) x3_1.length co19) y170 := (by rw [hw, Ny170.out]; exact HP20.1); clear HP20; replace BK166 := Aside0.mk (blk_grown (kk BK166) hg (Kd.R_ne HO_3.out BK166.out (by decide))); replace HO_3 := Aside0.mk (hp_); replace HB := Aside0.mk ((by rw [hw]; exact below_set (HB.out) GB14.out : Below w.heap.size w w21)); clear hg hw hp_))
            repeat (go_quiet (first | ((with_reducible refine gate_dst (N := 5) rfl ?_); refine bx 5 #[.int .i64 0, .int .i64 0, .int .i64 0, .int .i64 0, .int .i64 0, .int .i64 0, .string (⟨#[]⟩ : ByteArray), .slice none 0 0, .int .i64 0, .int .i64 0, .int .i64 0] 38 (h := ?_); intro gb166 hg w15 hbox hb; have BK166 := Aside0.mk (hbox); have GW166 := bz HB hg; have GE166 := bz HB hg; replace HO_3 := Aside0.mk (Kd.R_below (by (with_reducible repeat (first | apply Kd.R_alloc | apply Kd.R_drewN | apply Kd.R_drew)); exact HO_3.out) hb); replace HB := bs HB hb; clear hb hbox hg; obtain ⟨hcz16_0, hcz16_1, hcz16_2, hcz16_3, hcz16_4, hcz16_5, hcz16_6, hcz16_7, hcz16_8, hcz16_9, hcz16_10, hfz16_0, hfz16_1, hfz16_2, hfz16_3, hfz16_4, hfz16_5, hfz16_6, hfz16_7, hfz16_8, hfz16_9, hfz16_10⟩ := kc11 BK166) | (go_at_call 33; (with_reducible refine (tree_Find.calls _ _ l0 ((rd_Op l0 x12_1).f6) ((rd_Op l0 x12_1).f7) t167 _ ?side1 ?side2 A10.out).mono ?_); (case side1 => exact Kd.C_below HR0.out (bw HB)); (case side2 => exact HC0.out); rintro e w17 ⟨rfl, hb⟩; replace HO_3 := Aside0.mk (Kd.R_below (by (with_reducible repeat (first | apply Kd.R_alloc | apply Kd.R_drewN | apply Kd.R_drew)); exact (Kd.R_mono (Kd.R_far (p := ⟨gb166, 10, none⟩) (Kd.R_far (p := ⟨gb166, 9, none⟩) (Kd.R_far (p := ⟨gb166, 8, none⟩) (Kd.R_far (p := ⟨gb166, 7, none⟩) (Kd.R_far (p := ⟨gb166, 6, none⟩) (Kd.R_far (p := ⟨gb166, 5, none⟩) (Kd.R_far (p := ⟨gb166, 4, none⟩) (Kd.R_far (p := ⟨gb166, 3, none⟩) (Kd.R_far (p := ⟨gb166, 2, none⟩) (Kd.R_far (p := ⟨gb166, 1, none⟩) (Kd.R_far (p := ⟨gb166, 0, none⟩) (Kd.R_types HO_3.out BK166.out (by decide)) (fun _ hk => hk.2) (.int .i64 ((rd_Op l0 x12_1).f0))) (fun _ hk => hk.2) (.int .i64 ((rd_Op l0 x12_1).f1))) (fun _ hk => hk.2) (.int .i64 ((rd_Op l0 x12_1).f2))) (fun _ hk => hk.2) (.int .i64 ((rd_Op l0 x12_1).f3.f0))) (fun _ hk => hk.2) (.int .i64 ((rd_Op l0 x12_1).f3.f1))) (fun _ hk => hk.2) (.int .i64 ((rd_Op l0 x12_1).f3.f2))) (fun _ hk => hk.2) (.string ((rd_Op l0 x12_1).f4))) (fun _ hk => hk.2) (.slice A165_7 ((rd_Op l0 x12_1).f5).length c165_7)) (fun _ hk => hk.2) (.int .i64 ((rd_Op l0 x12_1).f6))) (fun _ hk => hk.2) (.int .i64 ((rd_Op l0 x12_1).f7))) (fun _ hk => hk.2) (.int .i64 ((rd_Op l0 x12_1).f8))) (fun _ h_ => h_.1))) hb); replace BK166 := Aside0.mk (blk_below (g := gb166) (o := .cells #[.int .i64 ((rd_Op l0 x12_1).f0), .int .i64 ((rd_Op l0 x12_1).f1), .int .i64 ((rd_Op l0 x12_1).f2), .int .i64 ((rd_Op l0 x12_1).f3.f0), .int .i64 ((rd_Op l0 x12_1).f3.f1), .int .i64 ((rd_Op l0 x12_1).f3.f2), .string ((rd_Op l0 x12_1).f4), .slice A165_7 ((rd_Op l0 x12_1).f5).length c165_7, .int .i64 ((rd_Op l0 x12_1).f6), .int .i64 ((rd_Op l0 x12_1).f7), .int .i64 ((rd_Op l0 x12_1).f8)] 38 (0, 0)) (bp11 (kk BK166)) hb); replace HB := bs HB hb; (try clear hb); (try clear hb2); (try clear hk); (try clear hi); obtain ⟨hcz18_0, hcz18_1, hcz18_2, hcz18_3, hcz18_4, hcz18_5, hcz18_6, hcz18_7, hcz18_8, hcz18_9, hcz18_10, hfz18_0, hfz18_1, hfz18_2, hfz18_3, hfz18_4, hfz18_5, hfz18_6, hfz18_7, hfz18_8, hfz18_9, hfz18_10⟩ := kc11 BK166; obtain ⟨Ao19, co19, eo19⟩ := Kd.R_slice HO_3.out; subst eo19; have p168 : 0 ≤ (t167 : Int) := of_decide_eq_true (by first | (with_reducible assumption) | assumption); have q168 : t167 < (x3_1.length : Int) := of_decide_eq_true (by first | (with_reducible assumption) | assumption); obtain ⟨ad168, e168, hx168_0⟩ := Kd.at_int (Kd.R_reads' HO_3.out).2.2 t167 p168 q168; cases e168; replace p168 := eq_true p168; replace q168 := eq_true q168; have p169 : 0 ≤ (t167 : Int) := of_decide_eq_true (by first | (with_reducible assumption) | assumption); have q169 : t167 < (x3_1.length : Int) := of_decide_eq_true (by first | (with_reducible assumption) | assumption); obtain ⟨ad169, e169, hx169_0⟩ := Kd.at_int (Kd.R_reads' HO_3.out).2.2 t167 p169 q169; obtain rfl : ad168 = ad169 := (by injection e169); replace p169 := eq_true p169; replace q169 := eq_true q169; have p14 : 0 ≤ (t167 : Int) := of_decide_eq_true (by first | (with_reducible assumption) | assumption); have q14 : (t167 : Int) < ((x3_1.length : Int) : Int) := of_decide_eq_true (by first | (with_reducible assumption) | assumption); obtain ⟨go14, co14, eo14, gb14, gl14, cl14, HG14⟩ := Kd.R_form HO_3.out (by omega); (first | cases eo14 | (injection eo14 with ea_ en_ ec_; (first | subst ea_ | (injection ea_ with ea_; subst ea_)); subst ec_; clear en_)); have GB14 := Aside0.mk gb14; have GG14 := Aside0.mk HG14; clear gb14 gl14 HG14; (first | simp only [add_plain] at hx168_0 | skip); (first | simp only [add_plain] at hx169_0 | skip); obtain ⟨hx14_0, hf14_0⟩ := Kd.R_celln 0 HO_3.out (t167 : Int) p14 q14; replace p14 := eq_true p14; replace q14 := eq_true q14; obtain ⟨hy20_, hz20_⟩ := Kd.R_celln 0 HO_3.out (t167 : Int) (of_decide_eq_true (by first | (with_reducible assumption) | assumption)) (of_decide_eq_true (by first | (with_reducible assumption) | assumption)); have HP20 := Kd.R_putg HO_3.out (t167 : Int) (wrap64 ((rd x3_1 t167) + 1))) | ((with_reducible refine gate_store (t := 3) (p := 37) rfl ?_); (try (rw [drewN_self w17]; generalize hq_ : World.drewN w17 _ = w17; have n0_ := Aside0.mk (Kd.R_at hq_ HO_3.out); have n1_ := Aside0.mk (blk_at hq_ BK166.out); have n2_ := Aside0.mk (below_at hq_ HB.out); clear hq_ HO_3 BK166 HB; have HO_3 := n0_; have BK166 := n1_; have HB := n2_; clear n0_ n1_ n2_; (try (obtain ⟨hy20_, hz20_⟩ := Kd.R_celln 0 HO_3.out (t167 : Int) (of_decide_eq_true (by first | (with_reducible assumption) | assumption)) (of_decide_eq_true (by first | (with_reducible assumption) | assumption)))); (try (have HP20 := Kd.R_putg HO_3.out (t167 : Int) (wrap64 ((rd x3_1 t167) + 1)))))); refine store_event (t := 3) (p := 37) (v := ?vo_w21) (w1 := (w17.setCell ⟨go14, (t167 : Int).toNat, none⟩ (.int .i64 (wrap64 ((rd x3_1 t167) + 1))))) ?hg ?ho ?hn ?hr ?_; (case ho => rfl); (case hg => rfl); (case hn => rfl); (case hr => first | (go_simp; done) | (go_simp; rfl)); intro w21 hw; have hg : w17.grownBy w21 (some go14) := (by rw [hw]; exact HP20.2); have hp_ : Kd.R (Kd.int .i64) 3 w21 w.heap.size (fun _ => True) (.slice (some ⟨go14, 0, none⟩) x3_1.length co19) y170 := (by rw [hw, Ny170.out]; exact HP20.1); clear HP20; replace BK166 := Aside0.mk (blk_grown (kk BK166) hg (Kd.R_ne HO_3.out BK166.out (by decide))); replace HO_3 := Aside0.mk (hp_); replace HB := Aside0.mk ((by rw [hw]; exact below_set (HB.out) GB14.out : Below w.heap.size w w21)); clear hg hw hp_)); try go_wp2_with (first | ((with_reducible refine gate_dst (N := 5) rfl ?_); refine bx 5 #[.int .i64 0, .int .i64 0, .int .i64 0, .int .i64 0, .int .i64 0, .int .i64 0, .string (⟨#[]⟩ : ByteArray), .slice none 0 0, .int .i64 0, .int .i64 0, .int .i64 0] 38 (h := ?_); intro gb166 hg w15 hbox hb; have BK166 := Aside0.mk (hbox); have GW166 := bz HB hg; have GE166 := bz HB hg; replace HO_3 := Aside0.mk (Kd.R_below (by (with_reducible repeat (first | apply Kd.R_alloc | apply Kd.R_drewN | apply Kd.R_drew)); exact HO_3.out) hb); replace HB := bs HB hb; clear hb hbox hg; obtain ⟨hcz16_0, hcz16_1, hcz16_2, hcz16_3, hcz16_4, hcz16_5, hcz16_6, hcz16_7, hcz16_8, hcz16_9, hcz16_10, hfz16_0, hfz16_1, hfz16_2, hfz16_3, hfz16_4, hfz16_5, hfz16_6, hfz16_7, hfz16_8, hfz16_9, hfz16_10⟩ := kc11 BK166) | (go_at_call 33; (with_reducible refine (tree_Find.calls _ _ l0 ((rd_Op l0 x12_1).f6) ((rd_Op l0 x12_1).f7) t167 _ ?side1 ?side2 A10.out).mono ?_); (case side1 => exact Kd.C_below HR0.out (bw HB)); (case side2 => exact HC0.out); rintro e w17 ⟨rfl, hb⟩; replace HO_3 := Aside0.mk (Kd.R_below (by (with_reducible repeat (first | apply Kd.R_alloc | apply Kd.R_drewN | apply Kd.R_drew)); exact (Kd.R_mono (Kd.R_far (p := ⟨gb166, 10, none⟩) (Kd.R_far (p := ⟨gb166, 9, none⟩) (Kd.R_far (p := ⟨gb166, 8, none⟩) (Kd.R_far (p := ⟨gb166, 7, none⟩) (Kd.R_far (p := ⟨gb166, 6, none⟩) (Kd.R_far (p := ⟨gb166, 5, none⟩) (Kd.R_far (p := ⟨gb166, 4, none⟩) (Kd.R_far (p := ⟨gb166, 3, none⟩) (Kd.R_far (p := ⟨gb166, 2, none⟩) (Kd.R_far (p := ⟨gb166, 1, none⟩) (Kd.R_far (p := ⟨gb166, 0, none⟩) (Kd.R_types HO_3.out BK166.out (by decide)) (fun _ hk => hk.2) (.int .i64 ((rd_Op l0 x12_1).f0))) (fun _ hk => hk.2) (.int .i64 ((rd_Op l0 x12_1).f1))) (fun _ hk => hk.2) (.int .i64 ((rd_Op l0 x12_1).f2))) (fun _ hk => hk.2) (.int .i64 ((rd_Op l0 x12_1).f3.f0))) (fun _ hk => hk.2) (.int .i64 ((rd_Op l0 x12_1).f3.f1))) (fun _ hk => hk.2) (.int .i64 ((rd_Op l0 x12_1).f3.f2))) (fun _ hk => hk.2) (.string ((rd_Op l0 x12_1).f4))) (fun _ hk => hk.2) (.slice A165_7 ((rd_Op l0 x12_1).f5).length c165_7)) (fun _ hk => hk.2) (.int .i64 ((rd_Op l0 x12_1).f6))) (fun _ hk => hk.2) (.int .i64 ((rd_Op l0 x12_1).f7))) (fun _ hk => hk.2) (.int .i64 ((rd_Op l0 x12_1).f8))) (fun _ h_ => h_.1))) hb); replace BK166 := Aside0.mk (blk_below (g := gb166) (o := .cells #[.int .i64 ((rd_Op l0 x12_1).f0), .int .i64 ((rd_Op l0 x12_1).f1), .int .i64 ((rd_Op l0 x12_1).f2), .int .i64 ((rd_Op l0 x12_1).f3.f0), .int .i64 ((rd_Op l0 x12_1).f3.f1), .int .i64 ((rd_Op l0 x12_1).f3.f2), .string ((rd_Op l0 x12_1).f4), .slice A165_7 ((rd_Op l0 x12_1).f5).length c165_7, .int .i64 ((rd_Op l0 x12_1).f6), .int .i64 ((rd_Op l0 x12_1).f7), .int .i64 ((rd_Op l0 x12_1).f8)] 38 (0, 0)) (bp11 (kk BK166)) hb); replace HB := bs HB hb; (try clear hb); (try clear hb2); (try clear hk); (try clear hi); obtain ⟨hcz18_0, hcz18_1, hcz18_2, hcz18_3, hcz18_4, hcz18_5, hcz18_6, hcz18_7, hcz18_8, hcz18_9, hcz18_10, hfz18_0, hfz18_1, hfz18_2, hfz18_3, hfz18_4, hfz18_5, hfz18_6, hfz18_7, hfz18_8, hfz18_9, hfz18_10⟩ := kc11 BK166; obtain ⟨Ao19, co19, eo19⟩ := Kd.R_slice HO_3.out; subst eo19; have p168 : 0 ≤ (t167 : Int) := of_decide_eq_true (by first | (with_reducible assumption) | assumption); have q168 : t167 < (x3_1.length : Int) := of_decide_eq_true (by first | (with_reducible assumption) | assumption); obtain ⟨ad168, e168, hx168_0⟩ := Kd.at_int (Kd.R_reads' HO_3.out).2.2 t167 p168 q168; cases e168; replace p168 := eq_true p168; replace q168 := eq_true q168; have p169 : 0 ≤ (t167 : Int) := of_decide_eq_true (by first | (with_reducible assumption) | assumption); have q169 : t167 < (x3_1.length : Int) := of_decide_eq_true (by first | (with_reducible assumption) | assumption); obtain ⟨ad169, e169, hx169_0⟩ := Kd.at_int (Kd.R_reads' HO_3.out).2.2 t167 p169 q169; obtain rfl : ad168 = ad169 := (by injection e169); replace p169 := eq_true p169; replace q169 := eq_true q169; have p14 : 0 ≤ (t167 : Int) := of_decide_eq_true (by first | (with_reducible assumption) | assumption); have q14 : (t167 : Int) < ((x3_1.length : Int) : Int) := of_decide_eq_true (by first | (with_reducible assumption) | assumption); obtain ⟨go14, co14, eo14, gb14, gl14, cl14, HG14⟩ := Kd.R_form HO_3.out (by omega); (first | cases eo14 | (injection eo14 with ea_ en_ ec_; (first | subst ea_ | (injection ea_ with ea_; subst ea_)); subst ec_; clear en_)); have GB14 := Aside0.mk gb14; have GG14 := Aside0.mk HG14; clear gb14 gl14 HG14; (first | simp only [add_plain] at hx168_0 | skip); (first | simp only [add_plain] at hx169_0 | skip); obtain ⟨hx14_0, hf14_0⟩ := Kd.R_celln 0 HO_3.out (t167 : Int) p14 q14; replace p14 := eq_true p14; replace q14 := eq_true q14; obtain ⟨hy20_, hz20_⟩ := Kd.R_celln 0 HO_3.out (t167 : Int) (of_decide_eq_true (by first | (with_reducible assumption) | assumption)) (of_decide_eq_true (by first | (with_reducible assumption) | assumption)); have HP20 := Kd.R_putg HO_3.out (t167 : Int) (wrap64 ((rd x3_1 t167) + 1))) | ((with_reducible refine gate_store (t := 3) (p := 37) rfl ?_); (try (rw [drewN_self w17]; generalize hq_ : World.drewN w17 _ = w17; have n0_ := Aside0.mk (Kd.R_at hq_ HO_3.out); have n1_ := Aside0.mk (blk_at hq_ BK166.out); have n2_ := Aside0.mk (below_at hq_ HB.out); clear hq_ HO_3 BK166 HB; have HO_3 := n0_; have BK166 := n1_; have HB := n2_; clear n0_ n1_ n2_; (try (obtain ⟨hy20_, hz20_⟩ := Kd.R_celln 0 HO_3.out (t167 : Int) (of_decide_eq_true (by first | (with_reducible assumption) | assumption)) (of_decide_eq_true (by first | (with_reducible assumption) | assumption)))); (try (have HP20 := Kd.R_putg HO_3.out (t167 : Int) (wrap64 ((rd x3_1 t167) + 1)))))); refine store_event (t := 3) (p := 37) (v := ?vo_w21) (w1 := (w17.setCell ⟨go14, (t167 : Int).toNat, none⟩ (.int .i64 (wrap64 ((rd x3_1 t167) + 1))))) ?hg ?ho ?hn ?hr ?_; (case ho => rfl); (case hg => rfl); (case hn => rfl); (case hr => first | (go_simp; done) | (go_simp; rfl)); intro w21 hw; have hg : w17.grownBy w21 (some go14) := (by rw [hw]; exact HP20.2); have hp_ : Kd.R (Kd.int .i64) 3 w21 w.heap.size (fun _ => True) (.slice (some ⟨go14, 0, none⟩) x3_1.length co19) y170 := (by rw [hw, Ny170.out]; exact HP20.1); clear HP20; replace BK166 := Aside0.mk (blk_grown (kk BK166) hg (Kd.R_ne HO_3.out BK166.out (by decide))); replace HO_3 := Aside0.mk (hp_); replace HB := Aside0.mk ((by rw [hw]; exact below_set (HB.out) GB14.out : Below w.heap.size w w21)); clear hg hw hp_)))
            go_roundg k1
            case measure => have := HK1.out; omega
            case rel => exact ⟨(y170), (wrap64 (x12_1 + 1)), rf, H', ⟨by have := HK1.out; omega⟩, ⟨by (with_reducible repeat (first | apply Kd.R_alloc | apply Kd.R_drewN | apply Kd.R_drew)); exact HO_3.out⟩, ⟨bw HB⟩⟩
           rw [if_neg c13] at H
           have c13b0 : (((rd_Op l0 x12_1).f8) == (rd x3_1 t167)) = false := beq_eq_false_iff_ne.mpr c13
           have c13b1 : (((rd_Op l0 x12_1).f8) != (rd x3_1 t167)) = true := bne_iff_ne.mpr c13
           have H' := Aside0.mk H
           clear H
           have p165 : 0 ≤ (x12_1 : Int) := of_decide_eq_true (by first | (with_reducible assumption) | assumption)
           have q165 : x12_1 < (l0.length : Int) := of_decide_eq_true (by first | (with_reducible assumption) | assumption)
           obtain ⟨ad165, A165_7, c165_7, e165, hx165_0, hx165_1, hx165_2, hx165_3, hx165_4, hx165_5, hx165_6, hx165_7, hx165_8, hx165_9, hx165_10, hl165_7, hi165_7⟩ := at_Op HR0.out x12_1 p165 q165
           cases e165
           replace hx165_0 := cl HB hx165_0
           replace hx165_1 := cl HB hx165_1
           replace hx165_2 := cl HB hx165_2
           replace hx165_3 := cl HB hx165_3
           replace hx165_4 := cl HB hx165_4
           replace hx165_5 := cl HB hx165_5
           replace hx165_6 := cl HB hx165_6
           replace hx165_7 := cl HB hx165_7
           replace hx165_8 := cl HB hx165_8
           replace hx165_9 := cl HB hx165_9
           replace hx165_10 := cl HB hx165_10
           have HR165_7 := Aside0.mk hi165_7
           have HC165_7 := Aside0.mk hl165_7
           clear hi165_7 hl165_7
           replace p165 := eq_true p165
           replace q165 := eq_true q165
           go_wp2_with (first | ((with_reducible refine gate_dst (N := 5) rfl ?_); refine bx 5 #[.int .i64 0, .int .i64 0, .int .i64 0, .int .i64 0, .int .i64 0, .int .i64 0, .string (⟨#[]⟩ : ByteArray), .slice none 0 0, .int .i64 0, .int .i64 0, .int .i64 0] 38 (h := ?_); intro gb166 hg w22 hbox hb; have BK166 := Aside0.mk (hbox); have GW166 := bz HB hg; have GE166 := bz HB hg; replace HO_3 := Aside0.mk (Kd.R_below (by (with_reducible repeat (first | apply Kd.R_alloc | apply Kd.R_drewN | apply Kd.R_drew)); exact HO_3.out) hb); replace HB := bs HB hb; clear hb hbox hg; obtain ⟨hcz23_0, hcz23_1, hcz23_2, hcz23_3, hcz23_4, hcz23_5, hcz23_6, hcz23_7, hcz23_8, hcz23_9, hcz23_10, hfz23_0, hfz23_1, hfz23_2, hfz23_3, hfz23_4, hfz23_5, hfz23_6, hfz23_7, hfz23_8, hfz23_9, hfz23_10⟩ := kc11 BK166) | (go_at_call 33; (with_reducible refine (tree_Find.calls _ _ l0 ((rd_Op l0 x12_1).f6) ((rd_Op l0 x12_1).f7) t167 _ ?side1 ?side2 A10.out).mono ?_); (case side1 => exact Kd.C_below HR0.out (bw HB)); (case side2 => exact HC0.out); rintro e w24 ⟨rfl, hb⟩; replace HO_3 := Aside0.mk (Kd.R_below (by (with_reducible repeat (first | apply Kd.R_alloc | apply Kd.R_drewN | apply Kd.R_drew)); exact (Kd.R_mono (Kd.R_far (p := ⟨gb166, 10, none⟩) (Kd.R_far (p := ⟨gb166, 9, none⟩) (Kd.R_far (p := ⟨gb166, 8, none⟩) (Kd.R_far (p := ⟨gb166, 7, none⟩) (Kd.R_far (p := ⟨gb166, 6, none⟩) (Kd.R_far (p := ⟨gb166, 5, none⟩) (Kd.R_far (p := ⟨gb166, 4, none⟩) (Kd.R_far (p := ⟨gb166, 3, none⟩) (Kd.R_far (p := ⟨gb166, 2, none⟩) (Kd.R_far (p := ⟨gb166, 1, none⟩) (Kd.R_far (p := ⟨gb166, 0, none⟩) (Kd.R_types HO_3.out BK166.out (by decide)) (fun _ hk => hk.2) (.int .i64 ((rd_Op l0 x12_1).f0))) (fun _ hk => hk.2) (.int .i64 ((rd_Op l0 x12_1).f1))) (fun _ hk => hk.2) (.int .i64 ((rd_Op l0 x12_1).f2))) (fun _ hk => hk.2) (.int .i64 ((rd_Op l0 x12_1).f3.f0))) (fun _ hk => hk.2) (.int .i64 ((rd_Op l0 x12_1).f3.f1))) (fun _ hk => hk.2) (.int .i64 ((rd_Op l0 x12_1).f3.f2))) (fun _ hk => hk.2) (.string ((rd_Op l0 x12_1).f4))) (fun _ hk => hk.2) (.slice A165_7 ((rd_Op l0 x12_1).f5).length c165_7)) (fun _ hk => hk.2) (.int .i64 ((rd_Op l0 x12_1).f6))) (fun _ hk => hk.2) (.int .i64 ((rd_Op l0 x12_1).f7))) (fun _ hk => hk.2) (.int .i64 ((rd_Op l0 x12_1).f8))) (fun _ h_ => h_.1))) hb); replace BK166 := Aside0.mk (blk_below (g := gb166) (o := .cells #[.int .i64 ((rd_Op l0 x12_1).f0), .int .i64 ((rd_Op l0 x12_1).f1), .int .i64 ((rd_Op l0 x12_1).f2), .int .i64 ((rd_Op l0 x12_1).f3.f0), .int .i64 ((rd_Op l0 x12_1).f3.f1), .int .i64 ((rd_Op l0 x12_1).f3.f2), .string ((rd_Op l0 x12_1).f4), .slice A165_7 ((rd_Op l0 x12_1).f5).length c165_7, .int .i64 ((rd_Op l0 x12_1).f6), .int .i64 ((rd_Op l0 x12_1).f7), .int .i64 ((rd_Op l0 x12_1).f8)] 38 (0, 0)) (bp11 (kk BK166)) hb); replace HB := bs HB hb; (try clear hb); (try clear hb2); (try clear hk); (try clear hi); obtain ⟨hcz25_0, hcz25_1, hcz25_2, hcz25_3, hcz25_4, hcz25_5, hcz25_6, hcz25_7, hcz25_8, hcz25_9, hcz25_10, hfz25_0, hfz25_1, hfz25_2, hfz25_3, hfz25_4, hfz25_5, hfz25_6, hfz25_7, hfz25_8, hfz25_9, hfz25_10⟩ := kc11 BK166; obtain ⟨Ao26, co26, eo26⟩ := Kd.R_slice HO_3.out; subst eo26; have p168 : 0 ≤ (t167 : Int) := of_decide_eq_true (by first | (with_reducible assumption) | assumption); have q168 : t167 < (x3_1.length : Int) := of_decide_eq_true (by first | (with_reducible assumption) | assumption); obtain ⟨ad168, e168, hx168_0⟩ := Kd.at_int (Kd.R_reads' HO_3.out).2.2 t167 p168 q168; cases e168; replace p168 := eq_true p168; replace q168 := eq_true q168))
           repeat (go_quiet (first | ((with_reducible refine gate_dst (N := 5) rfl ?_); refine bx 5 #[.int .i64 0, .int .i64 0, .int .i64 0, .int .i64 0, .int .i64 0, .int .i64 0, .string (⟨#[]⟩ : ByteArray), .slice none 0 0, .int .i64 0, .int .i64 0, .int .i64 0] 38 (h := ?_); intro gb166 hg w22 hbox hb; have BK166 := Aside0.mk (hbox); have GW166 := bz HB hg; have GE166 := bz HB hg; replace HO_3 := Aside0.mk (Kd.R_below (by (with_reducible repeat (first | apply Kd.R_alloc | apply Kd.R_drewN | apply Kd.R_drew)); exact HO_3.out) hb); replace HB := bs HB hb; clear hb hbox hg; obtain ⟨hcz23_0, hcz23_1, hcz23_2, hcz23_3, hcz23_4, hcz23_5, hcz23_6, hcz23_7, hcz23_8, hcz23_9, hcz23_10, hfz23_0, hfz23_1, hfz23_2, hfz23_3, hfz23_4, hfz23_5, hfz23_6, hfz23_7, hfz23_8, hfz23_9, hfz23_10⟩ := kc11 BK166) | (go_at_call 33; (with_reducible refine (tree_Find.calls _ _ l0 ((rd_Op l0 x12_1).f6) ((rd_Op l0 x12_1).f7) t167 _ ?side1 ?side2 A10.out).mono ?_); (case side1 => exact Kd.C_below HR0.out (bw HB)); (case side2 => exact HC0.out); rintro e w24 ⟨rfl, hb⟩; replace HO_3 := Aside0.mk (Kd.R_below (by (with_reducible repeat (first | apply Kd.R_alloc | apply Kd.R_drewN | apply Kd.R_drew)); exact (Kd.R_mono (Kd.R_far (p := ⟨gb166, 10, none⟩) (Kd.R_far (p := ⟨gb166, 9, none⟩) (Kd.R_far (p := ⟨gb166, 8, none⟩) (Kd.R_far (p := ⟨gb166, 7, none⟩) (Kd.R_far (p := ⟨gb166, 6, none⟩) (Kd.R_far (p := ⟨gb166, 5, none⟩) (Kd.R_far (p := ⟨gb166, 4, none⟩) (Kd.R_far (p := ⟨gb166, 3, none⟩) (Kd.R_far (p := ⟨gb166, 2, none⟩) (Kd.R_far (p := ⟨gb166, 1, none⟩) (Kd.R_far (p := ⟨gb166, 0, none⟩) (Kd.R_types HO_3.out BK166.out (by decide)) (fun _ hk => hk.2) (.int .i64 ((rd_Op l0 x12_1).f0))) (fun _ hk => hk.2) (.int .i64 ((rd_Op l0 x12_1).f1))) (fun _ hk => hk.2) (.int .i64 ((rd_Op l0 x12_1).f2))) (fun _ hk => hk.2) (.int .i64 ((rd_Op l0 x12_1).f3.f0))) (fun _ hk => hk.2) (.int .i64 ((rd_Op l0 x12_1).f3.f1))) (fun _ hk => hk.2) (.int .i64 ((rd_Op l0 x12_1).f3.f2))) (fun _ hk => hk.2) (.string ((rd_Op l0 x12_1).f4))) (fun _ hk => hk.2) (.slice A165_7 ((rd_Op l0 x12_1).f5).length c165_7)) (fun _ hk => hk.2) (.int .i64 ((rd_Op l0 x12_1).f6))) (fun _ hk => hk.2) (.int .i64 ((rd_Op l0 x12_1).f7))) (fun _ hk => hk.2) (.int .i64 ((rd_Op l0 x12_1).f8))) (fun _ h_ => h_.1))) hb); replace BK166 := Aside0.mk (blk_below (g := gb166) (o := .cells #[.int .i64 ((rd_Op l0 x12_1).f0), .int .i64 ((rd_Op l0 x12_1).f1), .int .i64 ((rd_Op l0 x12_1).f2), .int .i64 ((rd_Op l0 x12_1).f3.f0), .int .i64 ((rd_Op l0 x12_1).f3.f1), .int .i64 ((rd_Op l0 x12_1).f3.f2), .string ((rd_Op l0 x12_1).f4), .slice A165_7 ((rd_Op l0 x12_1).f5).length c165_7, .int .i64 ((rd_Op l0 x12_1).f6), .int .i64 ((rd_Op l0 x12_1).f7), .int .i64 ((rd_Op l0 x12_1).f8)] 38 (0, 0)) (bp11 (kk BK166)) hb); replace HB := bs HB hb; (try clear hb); (try clear hb2); (try clear hk); (try clear hi); obtain ⟨hcz25_0, hcz25_1, hcz25_2, hcz25_3, hcz25_4, hcz25_5, hcz25_6, hcz25_7, hcz25_8, hcz25_9, hcz25_10, hfz25_0, hfz25_1, hfz25_2, hfz25_3, hfz25_4, hfz25_5, hfz25_6, hfz25_7, hfz25_8, hfz25_9, hfz25_10⟩ := kc11 BK166; obtain ⟨Ao26, co26, eo26⟩ := Kd.R_slice HO_3.out; subst eo26; have p168 : 0 ≤ (t167 : Int) := of_decide_eq_true (by first | (with_reducible assumption) | assumption); have q168 : t167 < (x3_1.length : Int) := of_decide_eq_true (by first | (with_reducible assumption) | assumption); obtain ⟨ad168, e168, hx168_0⟩ := Kd.at_int (Kd.R_reads' HO_3.out).2.2 t167 p168 q168; cases e168; replace p168 := eq_true p168; replace q168 := eq_true q168)); try go_wp2_with (first | ((with_reducible refine gate_dst (N := 5) rfl ?_); refine bx 5 #[.int .i64 0, .int .i64 0, .int .i64 0, .int .i64 0, .int .i64 0, .int .i64 0, .string (⟨#[]⟩ : ByteArray), .slice none 0 0, .int .i64 0, .int .i64 0, .int .i64 0] 38 (h := ?_); intro gb166 hg w22 hbox hb; have BK166 := Aside0.mk (hbox); have GW166 := bz HB hg; have GE166 := bz HB hg; replace HO_3 := Aside0.mk (Kd.R_below (by (with_reducible repeat (first | apply Kd.R_alloc | apply Kd.R_drewN | apply Kd.R_drew)); exact HO_3.out) hb); replace HB := bs HB hb; clear hb hbox hg; obtain ⟨hcz23_0, hcz23_1, hcz23_2, hcz23_3, hcz23_4, hcz23_5, hcz23_6, hcz23_7, hcz23_8, hcz23_9, hcz23_10, hfz23_0, hfz23_1, hfz23_2, hfz23_3, hfz23_4, hfz23_5, hfz23_6, hfz23_7, hfz23_8, hfz23_9, hfz23_10⟩ := kc11 BK166) | (go_at_call 33; (with_reducible refine (tree_Find.calls _ _ l0 ((rd_Op l0 x12_1).f6) ((rd_Op l0 x12_1).f7) t167 _ ?side1 ?side2 A10.out).mono ?_); (case side1 => exact Kd.C_below HR0.out (bw HB)); (case side2 => exact HC0.out); rintro e w24 ⟨rfl, hb⟩; replace HO_3 := Aside0.mk (Kd.R_below (by (with_reducible repeat (first | apply Kd.R_alloc | apply Kd.R_drewN | apply Kd.R_drew)); exact (Kd.R_mono (Kd.R_far (p := ⟨gb166, 10, none⟩) (Kd.R_far (p := ⟨gb166, 9, none⟩) (Kd.R_far (p := ⟨gb166, 8, none⟩) (Kd.R_far (p := ⟨gb166, 7, none⟩) (Kd.R_far (p := ⟨gb166, 6, none⟩) (Kd.R_far (p := ⟨gb166, 5, none⟩) (Kd.R_far (p := ⟨gb166, 4, none⟩) (Kd.R_far (p := ⟨gb166, 3, none⟩) (Kd.R_far (p := ⟨gb166, 2, none⟩) (Kd.R_far (p := ⟨gb166, 1, none⟩) (Kd.R_far (p := ⟨gb166, 0, none⟩) (Kd.R_types HO_3.out BK166.out (by decide)) (fun _ hk => hk.2) (.int .i64 ((rd_Op l0 x12_1).f0))) (fun _ hk => hk.2) (.int .i64 ((rd_Op l0 x12_1).f1))) (fun _ hk => hk.2) (.int .i64 ((rd_Op l0 x12_1).f2))) (fun _ hk => hk.2) (.int .i64 ((rd_Op l0 x12_1).f3.f0))) (fun _ hk => hk.2) (.int .i64 ((rd_Op l0 x12_1).f3.f1))) (fun _ hk => hk.2) (.int .i64 ((rd_Op l0 x12_1).f3.f2))) (fun _ hk => hk.2) (.string ((rd_Op l0 x12_1).f4))) (fun _ hk => hk.2) (.slice A165_7 ((rd_Op l0 x12_1).f5).length c165_7)) (fun _ hk => hk.2) (.int .i64 ((rd_Op l0 x12_1).f6))) (fun _ hk => hk.2) (.int .i64 ((rd_Op l0 x12_1).f7))) (fun _ hk => hk.2) (.int .i64 ((rd_Op l0 x12_1).f8))) (fun _ h_ => h_.1))) hb); replace BK166 := Aside0.mk (blk_below (g := gb166) (o := .cells #[.int .i64 ((rd_Op l0 x12_1).f0), .int .i64 ((rd_Op l0 x12_1).f1), .int .i64 ((rd_Op l0 x12_1).f2), .int .i64 ((rd_Op l0 x12_1).f3.f0), .int .i64 ((rd_Op l0 x12_1).f3.f1), .int .i64 ((rd_Op l0 x12_1).f3.f2), .string ((rd_Op l0 x12_1).f4), .slice A165_7 ((rd_Op l0 x12_1).f5).length c165_7, .int .i64 ((rd_Op l0 x12_1).f6), .int .i64 ((rd_Op l0 x12_1).f7), .int .i64 ((rd_Op l0 x12_1).f8)] 38 (0, 0)) (bp11 (kk BK166)) hb); replace HB := bs HB hb; (try clear hb); (try clear hb2); (try clear hk); (try clear hi); obtain ⟨hcz25_0, hcz25_1, hcz25_2, hcz25_3, hcz25_4, hcz25_5, hcz25_6, hcz25_7, hcz25_8, hcz25_9, hcz25_10, hfz25_0, hfz25_1, hfz25_2, hfz25_3, hfz25_4, hfz25_5, hfz25_6, hfz25_7, hfz25_8, hfz25_9, hfz25_10⟩ := kc11 BK166; obtain ⟨Ao26, co26, eo26⟩ := Kd.R_slice HO_3.out; subst eo26; have p168 : 0 ≤ (t167 : Int) := of_decide_eq_true (by first | (with_reducible assumption) | assumption); have q168 : t167 < (x3_1.length : Int) := of_decide_eq_true (by first | (with_reducible assumption) | assumption); obtain ⟨ad168, e168, hx168_0⟩ := Kd.at_int (Kd.R_reads' HO_3.out).2.2 t167 p168 q168; cases e168; replace p168 := eq_true p168; replace q168 := eq_true q168)))
           go_roundg k1
           case measure => have := HK1.out; omega
           case rel => exact ⟨(x3_1), (wrap64 (x12_1 + 1)), rf, H', ⟨by have := HK1.out; omega⟩, ⟨by (with_reducible repeat (first | apply Kd.R_alloc | apply Kd.R_drewN | apply Kd.R_drew)); exact HO_3.out⟩, ⟨bw HB⟩⟩
          rw [if_neg c12] at H
          exact absurd H (by simp)
         rw [if_neg c11] at H
         exact absurd H (by simp)
        rw [if_neg c9] at H
        have c9b0 : (((rd_Op l0 x12_1).f2) == 2) = false := beq_eq_false_iff_ne.mpr c9
        have c9b1 : (((rd_Op l0 x12_1).f2) != 2) = true := bne_iff_ne.mpr c9
        have H' := Aside0.mk H
        clear H
        have p165 : 0 ≤ (x12_1 : Int) := of_decide_eq_true (by first | (with_reducible assumption) | assumption)
        have q165 : x12_1 < (l0.length : Int) := of_decide_eq_true (by first | (with_reducible assumption) | assumption)
        obtain ⟨ad165, A165_7, c165_7, e165, hx165_0, hx165_1, hx165_2, hx165_3, hx165_4, hx165_5, hx165_6, hx165_7, hx165_8, hx165_9, hx165_10, hl165_7, hi165_7⟩ := at_Op HR0.out x12_1 p165 q165
        cases e165
        replace hx165_0 := cl HB hx165_0
        replace hx165_1 := cl HB hx165_1
        replace hx165_2 := cl HB hx165_2
        replace hx165_3 := cl HB hx165_3
        replace hx165_4 := cl HB hx165_4
        replace hx165_5 := cl HB hx165_5
        replace hx165_6 := cl HB hx165_6
        replace hx165_7 := cl HB hx165_7
        replace hx165_8 := cl HB hx165_8
        replace hx165_9 := cl HB hx165_9
        replace hx165_10 := cl HB hx165_10
        have HR165_7 := Aside0.mk hi165_7
        have HC165_7 := Aside0.mk hl165_7
        clear hi165_7 hl165_7
        replace p165 := eq_true p165
        replace q165 := eq_true q165
        go_wp2_with (first | ((with_reducible refine gate_dst (N := 5) rfl ?_); refine bx 5 #[.int .i64 0, .int .i64 0, .int .i64 0, .int .i64 0, .int .i64 0, .int .i64 0, .string (⟨#[]⟩ : ByteArray), .slice none 0 0, .int .i64 0, .int .i64 0, .int .i64 0] 38 (h := ?_); intro gb166 hg w27 hbox hb; have BK166 := Aside0.mk (hbox); have GW166 := bz HB hg; have GE166 := bz HB hg; replace HO_3 := Aside0.mk (Kd.R_below (by (with_reducible repeat (first | apply Kd.R_alloc | apply Kd.R_drewN | apply Kd.R_drew)); exact HO_3.out) hb); replace HB := bs HB hb; clear hb hbox hg; obtain ⟨hcz28_0, hcz28_1, hcz28_2, hcz28_3, hcz28_4, hcz28_5, hcz28_6, hcz28_7, hcz28_8, hcz28_9, hcz28_10, hfz28_0, hfz28_1, hfz28_2, hfz28_3, hfz28_4, hfz28_5, hfz28_6, hfz28_7, hfz28_8, hfz28_9, hfz28_10⟩ := kc11 BK166))
        repeat (go_quiet (first | ((with_reducible refine gate_dst (N := 5) rfl ?_); refine bx 5 #[.int .i64 0, .int .i64 0, .int .i64 0, .int .i64 0, .int .i64 0, .int .i64 0, .string (⟨#[]⟩ : ByteArray), .slice none 0 0, .int .i64 0, .int .i64 0, .int .i64 0] 38 (h := ?_); intro gb166 hg w27 hbox hb; have BK166 := Aside0.mk (hbox); have GW166 := bz HB hg; have GE166 := bz HB hg; replace HO_3 := Aside0.mk (Kd.R_below (by (with_reducible repeat (first | apply Kd.R_alloc | apply Kd.R_drewN | apply Kd.R_drew)); exact HO_3.out) hb); replace HB := bs HB hb; clear hb hbox hg; obtain ⟨hcz28_0, hcz28_1, hcz28_2, hcz28_3, hcz28_4, hcz28_5, hcz28_6, hcz28_7, hcz28_8, hcz28_9, hcz28_10, hfz28_0, hfz28_1, hfz28_2, hfz28_3, hfz28_4, hfz28_5, hfz28_6, hfz28_7, hfz28_8, hfz28_9, hfz28_10⟩ := kc11 BK166)); try go_wp2_with (first | ((with_reducible refine gate_dst (N := 5) rfl ?_); refine bx 5 #[.int .i64 0, .int .i64 0, .int .i64 0, .int .i64 0, .int .i64 0, .int .i64 0, .string (⟨#[]⟩ : ByteArray), .slice none 0 0, .int .i64 0, .int .i64 0, .int .i64 0] 38 (h := ?_); intro gb166 hg w27 hbox hb; have BK166 := Aside0.mk (hbox); have GW166 := bz HB hg; have GE166 := bz HB hg; replace HO_3 := Aside0.mk (Kd.R_below (by (with_reducible repeat (first | apply Kd.R_alloc | apply Kd.R_drewN | apply Kd.R_drew)); exact HO_3.out) hb); replace HB := bs HB hb; clear hb hbox hg; obtain ⟨hcz28_0, hcz28_1, hcz28_2, hcz28_3, hcz28_4, hcz28_5, hcz28_6, hcz28_7, hcz28_8, hcz28_9, hcz28_10, hfz28_0, hfz28_1, hfz28_2, hfz28_3, hfz28_4, hfz28_5, hfz28_6, hfz28_7, hfz28_8, hfz28_9, hfz28_10⟩ := kc11 BK166)))
        go_roundg k1
        case measure => have := HK1.out; omega
        case rel => exact ⟨(x3_1), (wrap64 (x12_1 + 1)), rf, H', ⟨by have := HK1.out; omega⟩, ⟨by (with_reducible repeat (first | apply Kd.R_alloc | apply Kd.R_drewN | apply Kd.R_drew)); exact Kd.R_mono (Kd.R_far (p := ⟨gb166, 10, none⟩) (Kd.R_far (p := ⟨gb166, 9, none⟩) (Kd.R_far (p := ⟨gb166, 8, none⟩) (Kd.R_far (p := ⟨gb166, 7, none⟩) (Kd.R_far (p := ⟨gb166, 6, none⟩) (Kd.R_far (p := ⟨gb166, 5, none⟩) (Kd.R_far (p := ⟨gb166, 4, none⟩) (Kd.R_far (p := ⟨gb166, 3, none⟩) (Kd.R_far (p := ⟨gb166, 2, none⟩) (Kd.R_far (p := ⟨gb166, 1, none⟩) (Kd.R_far (p := ⟨gb166, 0, none⟩) (Kd.R_types HO_3.out BK166.out (by decide)) (fun _ hk => hk.2) (.int .i64 ((rd_Op l0 x12_1).f0))) (fun _ hk => hk.2) (.int .i64 ((rd_Op l0 x12_1).f1))) (fun _ hk => hk.2) (.int .i64 ((rd_Op l0 x12_1).f2))) (fun _ hk => hk.2) (.int .i64 ((rd_Op l0 x12_1).f3.f0))) (fun _ hk => hk.2) (.int .i64 ((rd_Op l0 x12_1).f3.f1))) (fun _ hk => hk.2) (.int .i64 ((rd_Op l0 x12_1).f3.f2))) (fun _ hk => hk.2) (.string ((rd_Op l0 x12_1).f4))) (fun _ hk => hk.2) (.slice A165_7 ((rd_Op l0 x12_1).f5).length c165_7)) (fun _ hk => hk.2) (.int .i64 ((rd_Op l0 x12_1).f6))) (fun _ hk => hk.2) (.int .i64 ((rd_Op l0 x12_1).f7))) (fun _ hk => hk.2) (.int .i64 ((rd_Op l0 x12_1).f8))) (fun _ hk => trivial)⟩, ⟨bw HB⟩⟩
       rw [if_neg c8] at H
       exact absurd H (by simp)
      rw [if_neg c7] at H
      exact absurd H (by simp)
     rw [if_neg c6] at H
     have c6b0 : decide (x12_1 < (l0.length : Int)) = false := decide_eq_false c6
     clear c6
     obtain rfl := Option.some.inj H
     go_wp2
     repeat (go_quiet (fail); try go_wp2)
     go_ret
     exact ⟨_, re, by (with_reducible repeat (first | apply Kd.R_alloc | apply Kd.R_drewN | apply Kd.R_drew)); exact HO_3.out, bw HB⟩
  rw [if_neg c3] at H
  exact absurd H (by simp)
 rw [if_neg c2] at H
 exact absurd H (by simp)
def doc_Works.l0 : Nat → List (SOp) → List Bool → List Int → Int → Int → Option (List Bool)
 | 0, _, _, _, _, _ => none
 | k + 1, x0, x3, x10, x11, x12 => if x12 < x11 then (if 0 ≤ x12 then (if x12 < (x10.length : Int) then (if x12 < (x0.length : Int) then (if ((rd_Op x0 x12).f2) = 1 then (if x12 < (x3.length : Int) then (doc_Works.l0 k x0 (x3.set (x12 : Int).toNat ((Int.tmod (rd x10 x12) 2) == 0)) x10 x11 (wrap64 (x12 + 1))) else (none)) else (if x12 < (x3.length : Int) then (doc_Works.l0 k x0 (x3.set (x12 : Int).toNat false) x10 x11 (wrap64 (x12 + 1))) else (none))) else (none)) else (none)) else (none)) else (some x3)
def doc_Works.f (k : Nat) (l0 : List (SOp)) : Option (List Bool) := if 0 ≤ (l0.length : Int) then (if ((l0.length : Int) : Int).toNat ≤ 281474976710656 then ((doc_Counts.f k l0).bind fun t174 => (doc_Works.l0 k l0 (List.replicate ((l0.length : Int) : Int).toNat false) t174 (t174.length : Int) 0)) else (none)) else (none)
set_option maxHeartbeats 8000000 in
set_option maxRecDepth 100000 in
theorem doc_Works.calls (k : Nat) (A0 : Option Addr) (c0 : Nat) (l0 : List (SOp)) (r : List Bool) (w : World) (hr0 : Kd.C kOp w A0 l0.length l0) (hc0 : l0.length ≤ c0) (h : doc_Works.f k l0 = some r) :
  Calls Try.prog 55 #[.slice A0 l0.length c0] w fun e w' => ∃ v0_ : Value, e = .returned (v0_) ∧ Kd.R Kd.bool 4 w' w.heap.size (fun _ => True) v0_ r ∧ Below w.heap.size w w' := by
 have HR0 := Aside0.mk hr0
 have HC0 := Aside0.mk hc0
 clear hr0 hc0
 have HB := Aside0.mk (Below.refl w.heap.size w)
 have H : (if 0 ≤ (l0.length : Int) then (if ((l0.length : Int) : Int).toNat ≤ 281474976710656 then ((doc_Counts.f k l0).bind fun t174 => (doc_Works.l0 k l0 (List.replicate ((l0.length : Int) : Int).toNat false) t174 (t174.length : Int) 0)) else (none)) else (none)) = some r := h
 clear h
 by_cases c2 : 0 ≤ (l0.length : Int)
 ·rw [if_pos c2] at H
  have c2b0 := eq_true c2
  have c2b1 : decide (0 ≤ (l0.length : Int)) = true := decide_eq_true c2
  clear c2
  by_cases c3 : ((l0.length : Int) : Int).toNat ≤ 281474976710656
  ·rw [if_pos c3] at H
   have c3b0 := eq_true c3
   have c3b1 : decide (((l0.length : Int) : Int).toNat ≤ 281474976710656) = true := decide_eq_true c3
   clear c3
   obtain ⟨y171, hy171⟩ : ∃ y_ : List Bool, y_ = (List.replicate ((l0.length : Int) : Int).toNat false) := ⟨_, rfl⟩
   replace H : ((doc_Counts.f k l0).bind fun t174 => (doc_Works.l0 k l0 y171 t174 (t174.length : Int) 0)) = some r := by first | (rw [hy171]; with_reducible exact H) | (have H2_ := (Option.bind_some _ _).symm.trans H; rw [hy171]; with_reducible exact H2_) | (have H2_ := (Option.bind_some _ _).symm.trans H; with_reducible exact H2_) | with_reducible exact H | (rw [hy171]; exact H) | exact H
   have Ny171 := Aside0.mk hy171
   clear hy171
   replace H := Option.bind_eq_some_iff.mp H
   obtain ⟨t174, A40, H⟩ := H
   replace H : (doc_Works.l0 k l0 y171 t174 (t174.length : Int) 0) = some r := H
   have A4 := Aside0.mk A40
   clear A40
   have H' := Aside0.mk H
   clear H
   go_enter Try.func55, Try.ntmps55
   go_wp2_with (first | ((with_reducible refine gate_dst (N := 8) rfl ?_); refine Kd.R_make Kd.bool _ 4 rfl (N := 8) rfl 86 _ _ rfl (l0.length : Int) rfl rfl Try.underlying86 (.bool false) 1 info4 rfl (by decide) (by omega) false (ok := fun _ => True) (okp := fun _ => True) rfl (fun _ hk => hk) trivial (of_decide_eq_true (by first | (with_reducible assumption) | assumption)) (Nat.le_trans (Nat.mul_le_mul_right _ (of_decide_eq_true (by first | (with_reducible assumption) | assumption) : (l0.length : Int).toNat ≤ 281474976710656)) (by omega)) (Below.refl _ _) (Nat.le_refl _) ?_; intro v172 w5 ho6 hb hg_ hnew_; clear hg_ hnew_; (first | rw [← Ny171.out] at ho6 | (simp only [Int.reduceToNat] at ho6; rw [← Ny171.out] at ho6)); have HO173 := Aside0.mk (Kd.R_lower ho6 (below_size (bw HB))); replace HB := bs HB hb; clear hb ho6) | ((with_reducible refine gate_callee (f := 30) rfl ?_); refine gl (some 10) Try.func30 #[.slice A0 l0.length c0] (h := ?_); (with_reducible refine (doc_Counts.calls k _ _ l0 t174 _ ?side1 ?side2 A4.out).mono ?_); (case side1 => repeat (first | exact (Kd.C_below HR0.out HB.out) | (with_reducible refine Kd.C_alloc ?_ _) | (with_reducible refine Kd.C_drewN ?_ _) | (with_reducible refine Kd.C_drew ?_))); (case side2 => exact HC0.out); rintro e w7 ⟨v175, rfl, ho0, hb⟩; refine ⟨_, rfl, ?_⟩; have HO176 := Aside0.mk (Kd.R_lower ho0 (below_size (bw HB))); replace HO173 := Aside0.mk (Kd.R_below (by (with_reducible repeat (first | apply Kd.R_alloc | apply Kd.R_drewN | apply Kd.R_drew)); exact HO173.out) hb); replace HB := bs HB hb; (try clear hb); (try clear hb2); (try clear hk); (try clear hi); (try clear ho0); obtain ⟨Ao8, co8, eo8⟩ := Kd.R_slice HO176.out; subst eo8))
   go_loopg [12] k (fun kq v12 w' => ∃ (x3_1 : List Bool) (x12_1 : Int), v12 = .int .i64 x12_1 ∧ Aside0 (doc_Works.l0 kq l0 x3_1 t174 (t174.length : Int) x12_1 = some r) ∧ Aside0 (kq ≤ k) ∧ Aside0 (Kd.R Kd.bool 4 w' w.heap.size (fun _ => True) v172 x3_1) ∧ Aside0 (Kd.R (Kd.int .i64) 3 w' w.heap.size (fun _ => True) (.slice Ao8 t174.length co8) t174) ∧ Aside0 (Below w.heap.size w w'))
   case atStart => exact ⟨(y171), (0), rf, H', ⟨Nat.le_refl _⟩, ⟨by (with_reducible repeat (first | apply Kd.R_alloc | apply Kd.R_drewN | apply Kd.R_drew)); exact HO173.out⟩, ⟨by (with_reducible repeat (first | apply Kd.R_alloc | apply Kd.R_drewN | apply Kd.R_drew)); exact HO176.out⟩, ⟨bw HB⟩⟩
   case round =>
    clear H'
    try clear c2b0; try clear c2b1; try clear c3b0; try clear c3b1
    obtain ⟨x3_1, x12_1, rfl, HA, HK1, HO_3, HO_10, HB⟩ := hrel
    cases gk with
    | zero => exact absurd HA.out (by simp [doc_Works.l0])
    | succ k1 =>
     have H := HA.out
     clear HA
     simp only [doc_Works.l0] at H
     by_cases c9 : x12_1 < (t174.length : Int)
     ·rw [if_pos c9] at H
      have c9b0 : decide (x12_1 < (t174.length : Int)) = true := decide_eq_true c9
      clear c9
      by_cases c10 : 0 ≤ x12_1
      ·rw [if_pos c10] at H
       have c10b0 : decide (0 ≤ x12_1) = true := decide_eq_true c10
       clear c10
       by_cases c11 : x12_1 < (t174.length : Int)
       ·rw [if_pos c11] at H
        have c11b0 : decide (x12_1 < (t174.length : Int)) = true := decide_eq_true c11
        clear c11
        by_cases c12 : x12_1 < (l0.length : Int)
        ·rw [if_pos c12] at H
         have c12b0 : decide (x12_1 < (l0.length : Int)) = true := decide_eq_true c12
         clear c12
         by_cases c13 : ((rd_Op l0 x12_1).f2) = 1
         ·rw [if_pos c13] at H
          have c13b0 : (((rd_Op l0 x12_1).f2) == 1) = true := beq_iff_eq.mpr c13
          have c13b1 : (((rd_Op l0 x12_1).f2) != 1) = false := bne_eq_false_iff_eq.mpr c13
          clear c13
          by_cases c14 : x12_1 < (x3_1.length : Int)
          ·rw [if_pos c14] at H
           have c14b0 : decide (x12_1 < (x3_1.length : Int)) = true := decide_eq_true c14
           clear c14
           obtain ⟨y179, hy179⟩ : ∃ y_ : List Bool, y_ = (x3_1.set (x12_1 : Int).toNat ((Int.tmod (rd t174 x12_1) 2) == 0)) := ⟨_, rfl⟩
           replace H : (doc_Works.l0 k1 l0 y179 t174 (t174.length : Int) (wrap64 (x12_1 + 1))) = some r := by first | (rw [hy179]; with_reducible exact H) | (have H2_ := (Option.bind_some _ _).symm.trans H; rw [hy179]; with_reducible exact H2_) | (have H2_ := (Option.bind_some _ _).symm.trans H; with_reducible exact H2_) | with_reducible exact H | (rw [hy179]; exact H) | exact H
           have Ny179 := Aside0.mk hy179
           clear hy179
           have H' := Aside0.mk H
           clear H
           have p177 : 0 ≤ (x12_1 : Int) := of_decide_eq_true (by first | (with_reducible assumption) | assumption)
           have q177 : x12_1 < (t174.length : Int) := of_decide_eq_true (by first | (with_reducible assumption) | assumption)
           obtain ⟨ad177, e177, hx177_0⟩ := Kd.at_int (Kd.R_reads' HO_10.out).2.2 x12_1 p177 q177
           cases e177
           replace p177 := eq_true p177
           replace q177 := eq_true q177
           have p178 : 0 ≤ (x12_1 : Int) := of_decide_eq_true (by first | (with_reducible assumption) | assumption)
           have q178 : x12_1 < (l0.length : Int) := of_decide_eq_true (by first | (with_reducible assumption) | assumption)
           obtain ⟨ad178, A178_7, c178_7, e178, hx178_0, hx178_1, hx178_2, hx178_3, hx178_4, hx178_5, hx178_6, hx178_7, hx178_8, hx178_9, hx178_10, hl178_7, hi178_7⟩ := at_Op HR0.out x12_1 p178 q178
           cases e178
           replace hx178_0 := cl HB hx178_0
           replace hx178_1 := cl HB hx178_1
           replace hx178_2 := cl HB hx178_2
           replace hx178_3 := cl HB hx178_3
           replace hx178_4 := cl HB hx178_4
           replace hx178_5 := cl HB hx178_5
           replace hx178_6 := cl HB hx178_6
           replace hx178_7 := cl HB hx178_7
           replace hx178_8 := cl HB hx178_8
           replace hx178_9 := cl HB hx178_9
           replace hx178_10 := cl HB hx178_10
           have HR178_7 := Aside0.mk hi178_7
           have HC178_7 := Aside0.mk hl178_7
           clear hi178_7 hl178_7
           replace p178 := eq_true p178
           replace q178 := eq_true q178
           have p15 : 0 ≤ (x12_1 : Int) := of_decide_eq_true (by first | (with_reducible assumption) | assumption)
           have q15 : (x12_1 : Int) < ((x3_1.length : Int) : Int) := of_decide_eq_true (by first | (with_reducible assumption) | assumption)
           obtain ⟨go15, co15, eo15, gb15, gl15, cl15, HG15⟩ := Kd.R_form HO_3.out (by omega)
           (first | cases eo15 | (injection eo15 with ea_ en_ ec_; (first | subst ea_ | (injection ea_ with ea_; subst ea_)); subst ec_; clear en_))
           have GB15 := Aside0.mk gb15
           have GG15 := Aside0.mk HG15
           clear gb15 gl15 HG15
           obtain ⟨hx15_0, hf15_0⟩ := Kd.R_celln false HO_3.out (x12_1 : Int) p15 q15
           replace p15 := eq_true p15
           replace q15 := eq_true q15
           have HP16 := Kd.R_putg HO_3.out (x12_1 : Int) ((Int.tmod (rd t174 x12_1) 2) == 0)
           go_wp2_with (first | ((with_reducible refine gate_store (t := 4) (p := 30) rfl ?_); refine store_event (t := 4) (p := 30) (v := ?vo_w17) (w1 := (wr.setCell ⟨go15, (x12_1 : Int).toNat, none⟩ (.bool ((Int.tmod (rd t174 x12_1) 2) == 0)))) ?hg ?ho ?hn ?hr ?_; (case ho => rfl); (case hg => rfl); (case hn => rfl); (case hr => first | (go_simp; done) | (go_simp; rfl)); intro w17 hw; have hg : wr.grownBy w17 (some go15) := (by rw [hw]; exact HP16.2); have hp_ : Kd.R Kd.bool 4 w17 w.heap.size (fun _ => True) (.slice (some ⟨go15, 0, none⟩) x3_1.length co15) y179 := (by rw [hw, Ny179.out]; exact HP16.1); clear HP16; replace HO_10 := Aside0.mk (Kd.R_over' (v := (.slice (some ⟨go15, 0, none⟩) x3_1.length co15)) (by (with_reducible repeat (first | apply Kd.R_alloc | apply Kd.R_drewN | apply Kd.R_drew)); exact HO_10.out) (Kd.R_typed HO_3.out) (by decide) hg); replace HO_3 := Aside0.mk (hp_); replace HB := Aside0.mk ((by rw [hw]; exact below_set (HB.out) GB15.out : Below w.heap.size w w17)); clear hg hw hp_))
           go_roundg k1
           case measure => have := HK1.out; omega
           case rel => exact ⟨(y179), (wrap64 (x12_1 + 1)), rf, H', ⟨by have := HK1.out; omega⟩, ⟨by (with_reducible repeat (first | apply Kd.R_alloc | apply Kd.R_drewN | apply Kd.R_drew)); exact HO_3.out⟩, ⟨by (with_reducible repeat (first | apply Kd.R_alloc | apply Kd.R_drewN | apply Kd.R_drew)); exact HO_10.out⟩, ⟨bw HB⟩⟩
          rw [if_neg c14] at H
          exact absurd H (by simp)
         rw [if_neg c13] at H
         have c13b0 : (((rd_Op l0 x12_1).f2) == 1) = false := beq_eq_false_iff_ne.mpr c13
         have c13b1 : (((rd_Op l0 x12_1).f2) != 1) = true := bne_iff_ne.mpr c13
         by_cases c18 : x12_1 < (x3_1.length : Int)
         ·rw [if_pos c18] at H
          have c18b0 : decide (x12_1 < (x3_1.length : Int)) = true := decide_eq_true c18
          clear c18
          obtain ⟨y180, hy180⟩ : ∃ y_ : List Bool, y_ = (x3_1.set (x12_1 : Int).toNat false) := ⟨_, rfl⟩
          replace H : (doc_Works.l0 k1 l0 y180 t174 (t174.length : Int) (wrap64 (x12_1 + 1))) = some r := by first | (rw [hy180]; with_reducible exact H) | (have H2_ := (Option.bind_some _ _).symm.trans H; rw [hy180]; with_reducible exact H2_) | (have H2_ := (Option.bind_some _ _).symm.trans H; with_reducible exact H2_) | with_reducible exact H | (rw [hy180]; exact H) | exact H
          have Ny180 := Aside0.mk hy180
          clear hy180
          have H' := Aside0.mk H
          clear H
          have p177 : 0 ≤ (x12_1 : Int) := of_decide_eq_true (by first | (with_reducible assumption) | assumption)
          have q177 : x12_1 < (t174.length : Int) := of_decide_eq_true (by first | (with_reducible assumption) | assumption)
          obtain ⟨ad177, e177, hx177_0⟩ := Kd.at_int (Kd.R_reads' HO_10.out).2.2 x12_1 p177 q177
          cases e177
          replace p177 := eq_true p177
          replace q177 := eq_true q177
          have p178 : 0 ≤ (x12_1 : Int) := of_decide_eq_true (by first | (with_reducible assumption) | assumption)
          have q178 : x12_1 < (l0.length : Int) := of_decide_eq_true (by first | (with_reducible assumption) | assumption)
          obtain ⟨ad178, A178_7, c178_7, e178, hx178_0, hx178_1, hx178_2, hx178_3, hx178_4, hx178_5, hx178_6, hx178_7, hx178_8, hx178_9, hx178_10, hl178_7, hi178_7⟩ := at_Op HR0.out x12_1 p178 q178
          cases e178
          replace hx178_0 := cl HB hx178_0
          replace hx178_1 := cl HB hx178_1
          replace hx178_2 := cl HB hx178_2
          replace hx178_3 := cl HB hx178_3
          replace hx178_4 := cl HB hx178_4
          replace hx178_5 := cl HB hx178_5
          replace hx178_6 := cl HB hx178_6
          replace hx178_7 := cl HB hx178_7
          replace hx178_8 := cl HB hx178_8
          replace hx178_9 := cl HB hx178_9
          replace hx178_10 := cl HB hx178_10
          have HR178_7 := Aside0.mk hi178_7
          have HC178_7 := Aside0.mk hl178_7
          clear hi178_7 hl178_7
          replace p178 := eq_true p178
          replace q178 := eq_true q178
          have p19 : 0 ≤ (x12_1 : Int) := of_decide_eq_true (by first | (with_reducible assumption) | assumption)
          have q19 : (x12_1 : Int) < ((x3_1.length : Int) : Int) := of_decide_eq_true (by first | (with_reducible assumption) | assumption)
          obtain ⟨go19, co19, eo19, gb19, gl19, cl19, HG19⟩ := Kd.R_form HO_3.out (by omega)
          (first | cases eo19 | (injection eo19 with ea_ en_ ec_; (first | subst ea_ | (injection ea_ with ea_; subst ea_)); subst ec_; clear en_))
          have GB19 := Aside0.mk gb19
          have GG19 := Aside0.mk HG19
          clear gb19 gl19 HG19
          obtain ⟨hx19_0, hf19_0⟩ := Kd.R_celln false HO_3.out (x12_1 : Int) p19 q19
          replace p19 := eq_true p19
          replace q19 := eq_true q19
          have HP20 := Kd.R_putg HO_3.out (x12_1 : Int) false
          go_wp2_with (first | ((with_reducible refine gate_store (t := 4) (p := 30) rfl ?_); refine store_event (t := 4) (p := 30) (v := ?vo_w21) (w1 := (wr.setCell ⟨go19, (x12_1 : Int).toNat, none⟩ (.bool false))) ?hg ?ho ?hn ?hr ?_; (case ho => rfl); (case hg => rfl); (case hn => rfl); (case hr => first | (go_simp; done) | (go_simp; rfl)); intro w21 hw; have hg : wr.grownBy w21 (some go19) := (by rw [hw]; exact HP20.2); have hp_ : Kd.R Kd.bool 4 w21 w.heap.size (fun _ => True) (.slice (some ⟨go19, 0, none⟩) x3_1.length co19) y180 := (by rw [hw, Ny180.out]; exact HP20.1); clear HP20; replace HO_10 := Aside0.mk (Kd.R_over' (v := (.slice (some ⟨go19, 0, none⟩) x3_1.length co19)) (by (with_reducible repeat (first | apply Kd.R_alloc | apply Kd.R_drewN | apply Kd.R_drew)); exact HO_10.out) (Kd.R_typed HO_3.out) (by decide) hg); replace HO_3 := Aside0.mk (hp_); replace HB := Aside0.mk ((by rw [hw]; exact below_set (HB.out) GB19.out : Below w.heap.size w w21)); clear hg hw hp_))
          go_roundg k1
          case measure => have := HK1.out; omega
          case rel => exact ⟨(y180), (wrap64 (x12_1 + 1)), rf, H', ⟨by have := HK1.out; omega⟩, ⟨by (with_reducible repeat (first | apply Kd.R_alloc | apply Kd.R_drewN | apply Kd.R_drew)); exact HO_3.out⟩, ⟨by (with_reducible repeat (first | apply Kd.R_alloc | apply Kd.R_drewN | apply Kd.R_drew)); exact HO_10.out⟩, ⟨bw HB⟩⟩
         rw [if_neg c18] at H
         exact absurd H (by simp)
        rw [if_neg c12] at H
        exact absurd H (by simp)
       rw [if_neg c11] at H
       exact absurd H (by simp)
      rw [if_neg c10] at H
      exact absurd H (by simp)
     rw [if_neg c9] at H
     have c9b0 : decide (x12_1 < (t174.length : Int)) = false := decide_eq_false c9
     clear c9
     obtain rfl := Option.some.inj H
     go_wp2
     go_ret
     exact ⟨_, re, by (with_reducible repeat (first | apply Kd.R_alloc | apply Kd.R_drewN | apply Kd.R_drew)); exact HO_3.out, bw HB⟩
  rw [if_neg c3] at H
  exact absurd H (by simp)
 rw [if_neg c2] at H
 exact absurd H (by simp)
end Go.Proofs.Ytonoaflfobajcaa.L
end

section
namespace Go.Proofs.Ytonoaflfobajcaa.L
open Go.RowKit Go.Proofs.YtonoaflfobajcaaW.PrintWords Go.Proofs.YtonoaflfobajcaaW.PrintLast Go.Proofs.YtonoaflfobajcaaW.PrintMore
set_option linter.unusedVariables false
set_option linter.unusedSimpArgs false
abbrev RE (w : World) (base : Nat) (v : Value) (xs : List SElem) : Prop := kElem.R 36 w base (fun _ => True) v xs
theorem RE_set {w : World} {base g n c : Nat} {xs : List SElem} (h : RE w base (.slice (some ⟨g, 0, none⟩) n c) xs) (i : Nat) (hi : i < n) (x : SElem) :
    RE (((w.setCell ⟨g, i * 3, none⟩ (.int .i64 x.f0)).setCell ⟨g, i * 3 + 1, none⟩ (.int .i64 x.f1)).setCell ⟨g, i * 3 + 2, none⟩ (.int .i64 x.f2)) base (.slice (some ⟨g, 0, none⟩) n c) (xs.set i x) ∧
      w.grownBy (((w.setCell ⟨g, i * 3, none⟩ (.int .i64 x.f0)).setCell ⟨g, i * 3 + 1, none⟩ (.int .i64 x.f1)).setCell ⟨g, i * 3 + 2, none⟩ (.int .i64 x.f2)) (some g) := by
  obtain ⟨cs, hl, hM, hc, hf⟩ := Kd.R_elem h zElem (i : Int) (by omega) (by omega)
  have hl3 : cs.length = 3 := hl
  have := Kd.R_seg h (i : Int) (by omega) (by omega) (c := cs) (seg := [.int .i64 x.f0, .int .i64 x.f1, .int .i64 x.f2]) (j := 0) (x' := x) (okp := fun k => True ∧ k ≠ g) hl hc (by show 0 + 3 ≤ 3; omega) (by
    have : cs.take 0 ++ [Value.int .i64 x.f0, .int .i64 x.f1, .int .i64 x.f2] ++ cs.drop (0 + [Value.int .i64 x.f0, .int .i64 x.f1, .int .i64 x.f2].length) = [.int .i64 x.f0, .int .i64 x.f1, .int .i64 x.f2] := by
      rw [List.take_zero, List.nil_append, List.drop_eq_nil_of_le (by simp; omega), List.append_nil]
    rw [this]; exact kElem_mkM _ _ _ x) (fun k hk => hk)
  exact this
theorem grown_then {w w1 w2 : World} {row : Option Nat} (h : w.grownBy w1 row) (k : Below w1.heap.size w1 w2) : w.grownBy w2 row :=
  ⟨k.os.trans h.os, k.tape.trans h.tape, k.output.trans h.output, Nat.le_trans h.size k.size, fun i hi hne => (k.block i (Nat.lt_of_lt_of_le hi h.size)).trans (h.block i hi hne)⟩
theorem grown_grown {w w1 w2 : World} {row : Option Nat} (h : w.grownBy w1 row) (k : w1.grownBy w2 row) : w.grownBy w2 row :=
  ⟨k.os.trans h.os, k.tape.trans h.tape, k.output.trans h.output, Nat.le_trans h.size k.size, fun i hi hne => (k.block i (Nat.lt_of_lt_of_le hi h.size) hne).trans (h.block i hi hne)⟩
theorem filter_first (l : List SElem) (p : SElem → Bool) {i : Nat} (hi : i < l.length) (hpi : p (rd_Elem l (i : Int)) = true) (hlt : ∀ j, j < i → p (rd_Elem l (j : Int)) = false) : l.take i = (l.take (i + 1)).filter (fun x => !p x) := by
  rw [List.take_succ_eq_append_getElem hi, List.filter_append]
  rw [rd_Elem_nat _ _ hi] at hpi
  have h1 : (l.take i).filter (fun x => !p x) = l.take i := by
    rw [List.filter_eq_self]
    intro x hx
    obtain ⟨j, hj, rfl⟩ := List.mem_take_iff_getElem.1 hx
    have := hlt j (by omega)
    rw [rd_Elem_nat _ _ (by omega)] at this
    simp [this]
  rw [h1]; simp [hpi]
def zs (n : Nat) : List Value := (Builtin.zeroCells #[.int .i64 0, .int .i64 0, .int .i64 0] n).toList
theorem zs_len (n : Nat) : (zs n).length = n * 3 := by simp [zs, Builtin.zeroCells]
theorem zs_one (n : Nat) : ∀ v ∈ zs n, v.oneCell' = true := by
  intro v hv
  unfold zs Builtin.zeroCells at hv
  simp only [Array.toList_map, List.mem_map] at hv
  obtain ⟨i, _, rfl⟩ := hv
  have h : i % 3 = 0 ∨ i % 3 = 1 ∨ i % 3 = 2 := by omega
  show (#[Value.int .i64 0, .int .i64 0, .int .i64 0][i % 3]!).oneCell' = true
  rcases h with h | h | h <;> rw [h] <;> rfl
theorem run_clear_elem (w : World) (ty : TypeId) (b o n c : Nat) (hn : 0 < n) (hc : ∀ j, j < n * 3 → (w.cell? ⟨b, o + j, none⟩).isSome = true) (hf : ∀ j, j < n * 3 → w.frozen? ⟨b, o + j, none⟩ = false) :
    (Builtin.clear_ #[23] ty #[.slice (some ⟨b, o, none⟩) n c]).run Try.prog w = .ok (.tuple #[]) (w.setCells b o (zs n)) := by
  have hst := run_storeCells_cells (P := Try.prog) b o (zs n) 0 w (by rw [zs_len]; simpa using hc) (by rw [zs_len]; simpa using hf) (zs_one n)
  simp only [Nat.add_zero] at hst
  have hv := Try.zeroValue36
  obtain ⟨m, rfl⟩ : ∃ m, n = m + 1 := ⟨n - 1, by omega⟩
  simp only [Builtin.clear_]
  unfold zs at hst ⊢
  simp [run_underlying Try.underlying23, hv, Value.cells, hst]
theorem RE_clear {w : World} {base g n c : Nat} {xs : List SElem} (h : RE w base (.slice (some ⟨g, 0, none⟩) n c) xs) (a : Nat) (ha : a ≤ n) (seg : List Value) (hs : a * 3 + seg.length ≤ n * 3) :
    RE (w.setCells g (a * 3) seg) base (.slice (some ⟨g, 0, none⟩) a c) (xs.take a) ∧ w.grownBy (w.setCells g (a * 3) seg) (some g) ∧ (∀ j, j < n * 3 → (w.cell? ⟨g, j, none⟩).isSome = true) ∧ ∀ j, w.frozen? ⟨g, j, none⟩ = false := by
  have hn := (Kd.R_reads' h).1
  obtain ⟨_, inner0, own0, hr0⟩ := h
  have hT := Kd.R_take (m := a) (show RE w base (.slice (some ⟨g, 0, none⟩) n c) xs from ⟨fun _ _ => trivial, inner0, own0, hr0⟩) (by omega)
  obtain ⟨hok, inner, ho, hr⟩ := hT
  obtain ⟨ho1, ho2⟩ := ho
  obtain ⟨_, ho02⟩ := own0
  rcases ho02 with ⟨hv, _⟩ | ⟨g0, cap0, cur0, hv0, hb0, hh0, hnc0, hcm0, hcs0, ht0⟩
  · cases hv
  rcases ho2 with ⟨hv, _⟩ | ⟨g', cap', cur, hv, hb, hh, hnc', hcm, hcs, ht⟩
  · cases hv
  injection hv with hA _ hc
  injection hA with hA
  injection hA with hg
  subst hg; subst hc
  injection hv0 with hA _ hc
  injection hA with hA
  injection hA with hg
  subst hg; subst hc
  have e : cur0 = cur := by
    rw [hh] at hh0; injection hh0 with hh0; injection hh0 with hh0; exact hh0.symm
  subst e
  have hfit : a * 3 + seg.length ≤ cur0.size := by
    have h3 : kElem.sz = 3 := rfl
    rw [hcs0, h3]; omega
  obtain ⟨cur', h3, h4, h5⟩ := setCells_row seg (a * 3) w cur0 hh hfit
  obtain ⟨s1, s2, s3, s4⟩ := setCells_same g seg (a * 3) w
  refine ⟨⟨hok, inner, ⟨ho1, .inr ⟨g, c, cur', by rw [List.length_take, Nat.min_eq_left (by omega)], hb, h3, hnc', hcm, by rw [h4, hcs], ?_⟩⟩, hr⟩, ⟨s1, s2, s3, by rw [s4]; exact Nat.le_refl _, fun k _ hk => setCells_far seg _ k (fun he => hk (by rw [he]))⟩, fun j hj => ?_, fun j => blk_frozen hh j⟩
  · rw [← ht, h5]
    have hl : (cur0.toList.take (a * 3)).length = a * 3 := by rw [List.length_take, Array.length_toList]; omega
    have h33 : (xs.take a).length * 3 = a * 3 := by rw [List.length_take]; omega
    show List.take ((xs.take a).length * 3) _ = List.take ((xs.take a).length * 3) _
    rw [h33, List.append_assoc, List.take_append_of_le_length (by omega), List.take_take, Nat.min_self]
  · rw [cell_of_row w g j cur0 _ (0, 0) hh, Array.getElem?_eq_getElem (by have h3 : kElem.sz = 3 := rfl; rw [hcs0, h3]; omega)]
    rfl
set_option maxHeartbeats 4000000 in
set_option maxRecDepth 1000000 in
theorem DeleteFuncElem (gf : Nat) (lb : Array Value) (base c : Nat) (A : Option Addr) (l : List SElem) (p : SElem → Bool) (w : World) (eg : ∀ args w, (callFunc gf args).run Try.prog w = .ok (.enter gf args) w)
    (hm : l.length ≤ 1000000000) (h0 : RE w base (.slice A l.length c) l)
    (hs : ∀ W x, x ∈ l → w.grownBy W (Value.slice A l.length c).ownBlock → Calls Try.prog gf (#[elV x] ++ lb) W fun e w' => e = .returned (.bool (p x)) ∧ Below W.heap.size W w') :
    Calls Try.prog 40 #[.slice A l.length c, .func (.func gf) #[] lb] w fun e w' => ∃ v, e = .returned v ∧ RE w' base v (l.filter fun x => !p x) ∧ w.grownBy w' (Value.slice A l.length c).ownBlock := by
  have hu1 := Try.underlying23
  have hu2 := Try.underlying36
  have cI := IndexFuncElem gf lb A c l (fun i => p (rd_Elem l (i : Int))) (fun _ W => Below w.heap.size w W) (fun _ W => Below w.heap.size w W) w eg (by omega) (Below.refl _ _) (fun i W hb => (Kd.R_reads' (Kd.R_below h0 hb)).2.2) (fun i W hi hb => by
    refine (hs W (rd_Elem l (i : Int)) (by rw [rd_Elem_nat _ _ hi]; exact List.getElem_mem hi) (grown_of_below hb _)).mono ?_
    rintro e w' ⟨rfl, hb'⟩
    have : Below w.heap.size w w' := below_step hb hb'
    exact ⟨rfl, fun _ => this, fun _ => this⟩)
  have HI := Aside0.mk (firstAt_cases (fun i : Nat => p (rd_Elem l (i : Int))) l.length)
  generalize firstAt (fun i : Nat => p (rd_Elem l (i : Int))) l.length l.length 0 = i0 at cI HI
  have CI := Aside0.mk cI
  have HS := Aside0.mk hs
  have H0 := Aside0.mk h0
  clear cI hs h0
  go_enter Try.func40, Try.ntmps40
  go_wp2_with fail
  refine CI.out.mono ?_
  rintro e w1 ⟨rfl, hpost⟩
  have HP := Aside0.mk hpost
  clear hpost CI
  rcases HI.out with ⟨i, hi, hpi, hlt, rfl⟩ | ⟨hno, rfl⟩
  · have hne : ((i : Int) == -1) = false := by simp
    obtain ⟨g, cap, hv, hbg, hgl, _⟩ := Kd.R_form H0.out (by omega)
    injection hv with ha _ hcap
    subst ha; subst hcap
    have hb1 : Below w.heap.size w w1 := by rcases HP.out with ⟨_, _, _, _, h⟩ | ⟨_, h⟩ <;> exact h
    have HG1 := Aside0.mk (grown_of_below hb1 (some g))
    have HR1 := Aside0.mk (Kd.R_below H0.out hb1)
    have HFT := Aside0.mk (filter_first l p hi hpi hlt)
    clear HP HI hb1 H0
    go_wp2
    go_loopg [5, 6, 7] l.length (fun gg s5 s6 _ wr => ∃ (a b : Nat) (xs : List SElem), a < b ∧ b ≤ l.length ∧ l.length - b ≤ gg ∧ s5 = .int .i64 a ∧ s6 = .int .i64 b ∧ Aside0 (xs.length = l.length) ∧ Aside0 (xs.take a = (l.take b).filter (fun x => !p x)) ∧ Aside0 (xs.drop b = l.drop b) ∧ Aside0 (RE wr base (.slice (some ⟨g, 0, none⟩) l.length c) xs) ∧ Aside0 (w.grownBy wr (some g)))
    case atStart => exact ⟨i, i + 1, l, by omega, by omega, by omega, rfl, by go_num, ⟨rfl⟩, HFT, ⟨rfl⟩, HR1, HG1⟩
    case round =>
      clear HFT HR1 HG1
      obtain ⟨a, b, xs, hab, hbn, hgk, rfl, rfl, HL, HF, HD, HR, HG⟩ := hrel
      by_cases hlt2 : b < l.length
      · obtain ⟨g', rfl⟩ : ∃ g', gk = g' + 1 := ⟨gk - 1, by omega⟩
        have hltz : (b : Int) < (l.length : Int) := by omega
        have h0z : (0 : Int) ≤ (b : Int) := by omega
        obtain ⟨hn, _, hC⟩ := Kd.R_reads' HR.out
        obtain ⟨ad, hA, x0, x1, x2⟩ := at_Elem hC (b : Int) h0z (by omega)
        injection hA with hA
        subst hA
        clear hC hn
        simp only [Int.toNat_natCast, add_plain] at x0 x1 x2
        have hx : rd_Elem xs (b : Int) = rd_Elem l (b : Int) := by
          have hb2 : b < xs.length := by rw [HL.out]; exact hlt2
          rw [rd_Elem_nat _ _ hb2, rd_Elem_nat _ _ hlt2]
          have := HD.out
          rw [List.drop_eq_getElem_cons hb2, List.drop_eq_getElem_cons hlt2] at this
          injection this
        rw [hx] at x0 x1 x2
        have HM := Aside0.mk (show rd_Elem l (b : Int) ∈ l by rw [rd_Elem_nat _ _ hlt2]; exact List.getElem_mem hlt2)
        generalize hxe : rd_Elem l (b : Int) = x at x0 x1 x2 HM
        have HXE := Aside0.mk hxe
        clear hxe hx
        have hal : Below wr.heap.size wr (wr.alloc (.cells #[.int .i64 x.f0, .int .i64 x.f1, .int .i64 x.f2] 36)) := below_alloc (Below.refl _ _) _
        have HC := Aside0.mk (HS.out _ x HM.out (grown_then HG.out hal))
        have HG2 := Aside0.mk (grown_then HG.out hal)
        have HR2 := Aside0.mk (Kd.R_below HR.out hal)
        have HLT : xs.length = l.length := HL.out
        have ha1 : a < xs.length := by omega
        clear hal HG HR
        go_wp2_with fail
        refine HC.out.mono ?_
        rintro e w2 ⟨rfl, hb2⟩
        have d0 := pw_cell_below hb2 (show (wr.alloc (.cells #[.int .i64 x.f0, .int .i64 x.f1, .int .i64 x.f2] 36)).cell? ⟨wr.heap.size, 0, none⟩ = some (.int .i64 x.f0) by simp)
        have d1 := pw_cell_below hb2 (show (wr.alloc (.cells #[.int .i64 x.f0, .int .i64 x.f1, .int .i64 x.f2] 36)).cell? ⟨wr.heap.size, 1, none⟩ = some (.int .i64 x.f1) by simp)
        have d2 := pw_cell_below hb2 (show (wr.alloc (.cells #[.int .i64 x.f0, .int .i64 x.f1, .int .i64 x.f2] 36)).cell? ⟨wr.heap.size, 2, none⟩ = some (.int .i64 x.f2) by simp)
        have HG3 := Aside0.mk (grown_then HG2.out hb2)
        have HR3 := Aside0.mk (Kd.R_below HR2.out hb2)
        clear hb2 HG2 HR2 x0 x1 x2 HC
        have hxl : l[b] = x := by rw [← rd_Elem_nat _ _ hlt2]; exact HXE.out
        have hD2 : xs.drop (b + 1) = l.drop (b + 1) := by
          have := HD.out
          rw [List.drop_eq_getElem_cons (show b < xs.length by omega), List.drop_eq_getElem_cons hlt2] at this
          injection this
        have HD2 := Aside0.mk hD2
        have hF2 := HF.out
        cases hp : p x with
        | true =>
          have hF3 : xs.take a = (l.take (b + 1)).filter (fun x => !p x) := by
            rw [List.take_succ_eq_append_getElem hlt2, List.filter_append, hxl, ← hF2]; simp [hp]
          have HF3 := Aside0.mk hF3
          clear hF3 hF2 hD2 hp HF HD hxl
          go_wp2
          go_roundg g'
          case measure => omega
          case rel => exact ⟨a, b + 1, xs, by omega, by omega, by omega, rfl, by go_num, HL, HF3, HD2, HR3, HG3⟩
        | false =>
          have hF3 : (xs.set a x).take (a + 1) = (l.take (b + 1)).filter (fun x => !p x) := by
            rw [List.take_succ_eq_append_getElem hlt2, List.filter_append, hxl, ← hF2, List.take_succ_eq_append_getElem (by simp; omega), List.take_set_of_le (Nat.le_refl a)]; simp [hp]
          have HF3 := Aside0.mk hF3
          have HL3 := Aside0.mk (show (xs.set a x).length = l.length by rw [List.length_set]; exact HLT)
          have HD3 := Aside0.mk (show (xs.set a x).drop (b + 1) = l.drop (b + 1) by rw [List.drop_set_of_lt (by omega)]; exact hD2)
          obtain ⟨cs, hcl, _, hcc, hff⟩ := Kd.R_elem HR3.out zElem (a : Int) (by omega) (by omega)
          have hcl3 : cs.length = 3 := hcl
          have hR4 := RE_set HR3.out a (by omega) x
          have HR4 := Aside0.mk hR4.1
          have HG4 := Aside0.mk (grown_grown HG3.out hR4.2)
          obtain ⟨q0, q1, q2, rfl⟩ : ∃ q0 q1 q2, cs = [q0, q1, q2] := by
            match cs, hcl3 with
            | [q0, q1, q2], _ => exact ⟨q0, q1, q2, rfl⟩
          have e0 : w2.cell? ⟨g, a * 3, none⟩ = some q0 := hcc 0 _ rfl
          have e1 : w2.cell? ⟨g, a * 3 + 1, none⟩ = some q1 := hcc 1 _ rfl
          have e2 : w2.cell? ⟨g, a * 3 + 2, none⟩ = some q2 := hcc 2 _ rfl
          have f0 : w2.frozen? ⟨g, a * 3, none⟩ = false := hff 0
          have f1 : w2.frozen? ⟨g, a * 3 + 1, none⟩ = false := hff 1
          have f2 : w2.frozen? ⟨g, a * 3 + 2, none⟩ = false := hff 2
          clear hF3 hF2 hD2 hp HF HD hxl hR4 hcc hff hcl hcl3 HG3 HR3
          go_wp2
          go_roundg g'
          case measure => omega
          case rel => exact ⟨a + 1, b + 1, xs.set a x, by omega, by omega, by omega, by go_num, by go_num, HL3, HF3, HD3, HR4, HG4⟩
      · obtain rfl : b = l.length := by omega
        have hltz : ¬ (l.length : Int) < (l.length : Int) := by omega
        obtain ⟨r1, r2, r3, r4⟩ := RE_clear HR.out a (by omega) (zs (l.length - a)) (by rw [zs_len]; omega)
        have HR5 := Aside0.mk r1
        have HG5 := Aside0.mk (grown_grown HG.out r2)
        have hcl : ∀ ty, (Builtin.clear_ #[23] ty #[.slice (some ⟨g, a * 3, none⟩) (l.length - a) (c - a)]).run Try.prog wr = .ok (.tuple #[]) (wr.setCells g (a * 3) (zs (l.length - a))) :=
          fun ty => run_clear_elem wr ty g (a * 3) _ _ (by omega) (fun j hj => r3 _ (by omega)) (fun j hj => r4 _)
        have hF5 := HF.out
        rw [List.take_length] at hF5
        have HF5 := Aside0.mk hF5
        have hnc := (Kd.R_reads' HR.out).2.1
        have hac : c ≠ a := by omega
        have hac1 : (a : Int) ≤ (c : Int) := by omega
        have hac2 : ¬ (c : Int) < (a : Int) := by omega
        clear r1 r2 r3 r4 HR HG HD HF hF5
        go_wp2
        go_ret
        exact ⟨_, rfl, by rw [← HF5.out]; exact HR5.out, HG5.out⟩
  · go_wp2
    go_ret
    have hb1 : Below w.heap.size w w1 := by rcases HP.out with ⟨_, _, _, _, h⟩ | ⟨_, h⟩ <;> exact h
    refine ⟨_, rfl, ?_, grown_of_below hb1 _⟩
    have : l.filter (fun x => !p x) = l := by
      rw [List.filter_eq_self]
      intro x hx
      obtain ⟨j, hj, rfl⟩ := List.getElem_of_mem hx
      have := hno j hj
      rw [rd_Elem_nat _ _ hj] at this
      simp [this]
    rw [this]
    exact Kd.R_below H0.out hb1
end Go.Proofs.Ytonoaflfobajcaa.L
end

section
namespace Go.Proofs.Ytonoaflfobajcaa.L
open Go.RowKit Go.Proofs.YtonoaflfobajcaaW.PrintWords Go.Proofs.YtonoaflfobajcaaW.PrintLast Go.Proofs.YtonoaflfobajcaaW.PrintMore
set_option linter.unusedVariables false
set_option linter.unusedSimpArgs false
abbrev MapE (w : World) (b n : Nat) (S : Int × Int × Int → Bool) : Prop := MapB encE 36 4 w b n S
set_option maxHeartbeats 4000000 in
set_option maxRecDepth 1000000 in
theorem seen1_calls (c1 c2 b1 b2 n1 n2 : Nat) (x : SElem) (G T : Int × Int × Int → Bool) (W : World) (h1 : W.cell? ⟨c1, 0, none⟩ = some (.map (some b1))) (h2 : W.cell? ⟨c2, 0, none⟩ = some (.map (some b2)))
    (hG : MapE W b1 n1 G) (hT : MapE W b2 n2 T) (hx : inI x.f0 ∧ inI x.f1 ∧ inI x.f2) :
    Calls Try.prog 57 #[elV x, .pointer (some ⟨c1, 0, none⟩), .pointer (some ⟨c2, 0, none⟩)] W fun e w' => e = .returned (.bool (G (x.f0, x.f1, x.f2) || !T (x.f0, x.f1, x.f2))) ∧ Below W.heap.size W w' := by
  have l1 := World.block_lt_of_cell? W _ h1
  have l2 := World.block_lt_of_cell? W _ h2
  simp only at l1 l2
  obtain ⟨kl, hkl⟩ := keyE (x := (x.f0, x.f1, x.f2)) hx.1 hx.2.1 hx.2.2
  have hal : Below W.heap.size W (W.alloc (.cells #[.int .i64 x.f0, .int .i64 x.f1, .int .i64 x.f2] 36)) := below_alloc (Below.refl _ _) _
  have k1 := (hG.below hal hG.lt).look lawE Try.underlying85 Try.underlying4 zeroB (x.f0, x.f1, x.f2) hkl
  have k2 := (hT.below hal hT.lt).look lawE Try.underlying85 Try.underlying4 zeroB (x.f0, x.f1, x.f2) hkl
  have d1 := pw_cell_below hal h1
  have d2 := pw_cell_below hal h2
  simp only [encE] at k1 k2
  have HAL := Aside0.mk hal
  unfold elV
  generalize hg : G (x.f0, x.f1, x.f2) = gq at k1 ⊢
  generalize ht : T (x.f0, x.f1, x.f2) = tq at k2 ⊢
  clear hG hT hx hkl hal h1 h2 hg ht
  cases gq
  · go_enter Try.func57, Try.ntmps57
    go_wp2
    go_ret
    exact ⟨rfl, HAL.out⟩
  · go_enter Try.func57, Try.ntmps57
    go_wp2
    go_ret
    exact ⟨rfl, HAL.out⟩
end Go.Proofs.Ytonoaflfobajcaa.L
end

section
namespace Go.Proofs.Ytonoaflfobajcaa.L
open Go.RowKit Go.Proofs.YtonoaflfobajcaaW.PrintWords Go.Proofs.YtonoaflfobajcaaW.PrintLast Go.Proofs.YtonoaflfobajcaaW.PrintMore
attribute [local go_sem] max2_int min2_int max_two min_two max_three min_three max_four min_four
set_option linter.unusedVariables false
set_option linter.unusedSimpArgs false
def op_All.l0 : Nat → List (SElem) → Int → Int → Int → Int → Int → Int → Int → Int → ByteArray → List (SElem) → Int → Int → Int → Option ((List (SElem)))
 | 0, _, _, _, _, _, _, _, _, _, _, _, _, _, _ => none
 | k + 1, x2, x5, x6, x155000, x155001, x155002, x155003, x155004, x155005, x155006, x155007, x155008, x155009, x155010 => if x6 < x5 then ((op_At.f x155000 x155001 x155002 x155003 x155004 x155005 x155006 x155007 x155008 x155009 x155010 x6).bind fun bt156 => (if x2.length < 5864062014805 then (op_All.l0 k (x2 ++ [(⟨bt156.1, bt156.2.1, bt156.2.2⟩ : SElem)]) x5 (wrap64 (x6 + 1)) x155000 x155001 x155002 x155003 x155004 x155005 x155006 x155007 x155008 x155009 x155010) else (none))) else (some x2)
def op_All.f (k : Nat) (a0_0 : Int) (a0_1 : Int) (a0_2 : Int) (a0_3 : Int) (a0_4 : Int) (a0_5 : Int) (a0_6 : ByteArray) (l0_7 : List (SElem)) (a0_8 : Int) (a0_9 : Int) (a0_10 : Int) : Option ((List (SElem))) := (op_Size.f a0_0 a0_1 a0_2 a0_3 a0_4 a0_5 a0_6 l0_7 a0_8 a0_9 a0_10).bind fun t155 => (op_All.l0 k ([] : List (SElem)) t155 0 a0_0 a0_1 a0_2 a0_3 a0_4 a0_5 a0_6 l0_7 a0_8 a0_9 a0_10)
set_option maxHeartbeats 8000000 in
set_option maxRecDepth 100000 in
theorem op_All.calls (k : Nat) (a0_0 : Int) (a0_1 : Int) (a0_2 : Int) (a0_3 : Int) (a0_4 : Int) (a0_5 : Int) (a0_6 : ByteArray) (A0_7 : Option Addr) (c0_7 : Nat) (l0_7 : List (SElem)) (a0_8 : Int) (a0_9 : Int) (a0_10 : Int) (r : List (SElem)) (w : World) (hr0_7 : Kd.C kElem w A0_7 l0_7.length l0_7) (hc0_7 : l0_7.length ≤ c0_7) (h : op_All.f k a0_0 a0_1 a0_2 a0_3 a0_4 a0_5 a0_6 l0_7 a0_8 a0_9 a0_10 = some r) :
  Calls Try.prog 38 #[.agg #[.int .i64 a0_0, .int .i64 a0_1, .int .i64 a0_2, .int .i64 a0_3, .int .i64 a0_4, .int .i64 a0_5, .string a0_6, .slice A0_7 l0_7.length c0_7, .int .i64 a0_8, .int .i64 a0_9, .int .i64 a0_10]] w fun e w' => ∃ v0_ : Value, e = .returned (v0_) ∧ Kd.R kElem 36 w' w.heap.size (fun _ => True) v0_ r ∧ Below w.heap.size w w' := by
 have hu38 := Try.underlying38
 have HR0_7 := Aside0.mk hr0_7
 have HC0_7 := Aside0.mk hc0_7
 clear hr0_7 hc0_7
 have HB := Aside0.mk (Below.refl w.heap.size w)
 have H : ((op_Size.f a0_0 a0_1 a0_2 a0_3 a0_4 a0_5 a0_6 l0_7 a0_8 a0_9 a0_10).bind fun t155 => (op_All.l0 k ([] : List (SElem)) t155 0 a0_0 a0_1 a0_2 a0_3 a0_4 a0_5 a0_6 l0_7 a0_8 a0_9 a0_10)) = some r := h
 clear h
 replace H := Option.bind_eq_some_iff.mp H
 obtain ⟨t155, A20, H⟩ := H
 replace H : (op_All.l0 k ([] : List (SElem)) t155 0 a0_0 a0_1 a0_2 a0_3 a0_4 a0_5 a0_6 l0_7 a0_8 a0_9 a0_10) = some r := H
 have A2 := Aside0.mk A20
 clear A20
 have H' := Aside0.mk H
 clear H
 go_enter Try.func38, Try.ntmps38
 go_wp2_with (first | ((with_reducible refine gate_dst (N := 1) rfl ?_); refine bx 1 #[.int .i64 a0_0, .int .i64 a0_1, .int .i64 a0_2, .int .i64 a0_3, .int .i64 a0_4, .int .i64 a0_5, .string a0_6, .slice A0_7 l0_7.length c0_7, .int .i64 a0_8, .int .i64 a0_9, .int .i64 a0_10] 38 (h := ?_); intro gb154 hg w3 hbox hb; have BK154 := Aside0.mk (hbox); have GW154 := bz HB hg; have GE154 := bz HB hg; replace HB := bs HB hb; clear hb hbox hg; obtain ⟨hcz4_0, hcz4_1, hcz4_2, hcz4_3, hcz4_4, hcz4_5, hcz4_6, hcz4_7, hcz4_8, hcz4_9, hcz4_10, hfz4_0, hfz4_1, hfz4_2, hfz4_3, hfz4_4, hfz4_5, hfz4_6, hfz4_7, hfz4_8, hfz4_9, hfz4_10⟩ := kc11 BK154) | ((with_reducible refine gate_callee (f := 45) rfl ?_); refine gl (some 5) Try.func45 #[.agg #[.int .i64 a0_0, .int .i64 a0_1, .int .i64 a0_2, .int .i64 a0_3, .int .i64 a0_4, .int .i64 a0_5, .string a0_6, .slice A0_7 l0_7.length c0_7, .int .i64 a0_8, .int .i64 a0_9, .int .i64 a0_10]] (h := ?_); (with_reducible refine (op_Size.calls a0_0 a0_1 a0_2 a0_3 a0_4 a0_5 a0_6 _ _ l0_7 a0_8 a0_9 a0_10 t155 _ ?side1 ?side2 A2.out).mono ?_); (case side1 => repeat (first | exact (Kd.C_below HR0_7.out HB.out) | (with_reducible refine Kd.C_alloc ?_ _) | (with_reducible refine Kd.C_drewN ?_ _) | (with_reducible refine Kd.C_drew ?_))); (case side2 => exact HC0_7.out); rintro e w5 ⟨rfl, hb⟩; refine ⟨_, rfl, ?_⟩; replace BK154 := bl BK154 hb; replace HB := bs HB hb; (try clear hb); (try clear hb2); (try clear hk); (try clear hi)))
 go_loopg [2, 6] k (fun kq v2 v6 w' => ∃ (x2_1 : List (SElem)) (x6_1 : Int), v6 = .int .i64 x6_1 ∧ Aside0 (op_All.l0 kq x2_1 t155 x6_1 a0_0 a0_1 a0_2 a0_3 a0_4 a0_5 a0_6 l0_7 a0_8 a0_9 a0_10 = some r) ∧ Aside0 (kq ≤ k) ∧ Aside0 (Kd.R kElem 36 w' w.heap.size (fun _ => True) v2 x2_1) ∧ Aside0 (w'.heap[gb154]? = some (.cells #[.int .i64 a0_0, .int .i64 a0_1, .int .i64 a0_2, .int .i64 a0_3, .int .i64 a0_4, .int .i64 a0_5, .string a0_6, (.slice A0_7 l0_7.length c0_7), .int .i64 a0_8, .int .i64 a0_9, .int .i64 a0_10] 38 (0, 0))) ∧ Aside0 (Below w.heap.size w w'))
 case atStart => exact ⟨(([] : List (SElem))), (0), rf, H', ⟨Nat.le_refl _⟩, ⟨by first | exact Kd.R_nil _ _ _ _ _ | exact Kd.N_nil _ _ _ _ _ | exact Kd.V_nil _ _ _ _ _ | exact Kd.Q_nil _ _ _ _ _ | exact Kd.S_nil _ _ _ _ _⟩, ⟨kk BK154⟩, ⟨bw HB⟩⟩
 case round =>
  clear H'
  try clear hcz4_0; try clear hcz4_1; try clear hcz4_10; try clear hcz4_2; try clear hcz4_3; try clear hcz4_4; try clear hcz4_5; try clear hcz4_6; try clear hcz4_7; try clear hcz4_8; try clear hcz4_9; try clear hfz4_0; try clear hfz4_1; try clear hfz4_10; try clear hfz4_2; try clear hfz4_3; try clear hfz4_4; try clear hfz4_5; try clear hfz4_6; try clear hfz4_7; try clear hfz4_8; try clear hfz4_9
  obtain ⟨x2_1, x6_1, rfl, HA, HK1, HO_2, BK154, HB⟩ := hrel
  cases gk with
  | zero => exact absurd HA.out (by simp [op_All.l0])
  | succ k1 =>
   have H := HA.out
   clear HA
   simp only [op_All.l0] at H
   by_cases c6 : x6_1 < t155
   ·rw [if_pos c6] at H
    have c6b0 : decide (x6_1 < t155) = true := decide_eq_true c6
    clear c6
    replace H := Option.bind_eq_some_iff.mp H
    obtain ⟨⟨t156, t157, t158⟩, A70, H⟩ := H
    replace H : (if x2_1.length < 5864062014805 then (op_All.l0 k1 (x2_1 ++ [(⟨t156, t157, t158⟩ : SElem)]) t155 (wrap64 (x6_1 + 1)) a0_0 a0_1 a0_2 a0_3 a0_4 a0_5 a0_6 l0_7 a0_8 a0_9 a0_10) else (none)) = some r := H
    have A7 := Aside0.mk A70
    clear A70
    by_cases c8 : x2_1.length < 5864062014805
    ·rw [if_pos c8] at H
     have LMc8 := Aside0.mk c8
     clear c8
     obtain ⟨y159, hy159⟩ : ∃ y_ : List (SElem), y_ = (x2_1 ++ [(⟨t156, t157, t158⟩ : SElem)]) := ⟨_, rfl⟩
     replace H : (op_All.l0 k1 y159 t155 (wrap64 (x6_1 + 1)) a0_0 a0_1 a0_2 a0_3 a0_4 a0_5 a0_6 l0_7 a0_8 a0_9 a0_10) = some r := by first | (rw [hy159]; with_reducible exact H) | (have H2_ := (Option.bind_some _ _).symm.trans H; rw [hy159]; with_reducible exact H2_) | (have H2_ := (Option.bind_some _ _).symm.trans H; with_reducible exact H2_) | with_reducible exact H | (rw [hy159]; exact H) | exact H
     have Ny159 := Aside0.mk hy159
     clear hy159
     have H' := Aside0.mk H
     clear H
     obtain ⟨hcz9_0, hcz9_1, hcz9_2, hcz9_3, hcz9_4, hcz9_5, hcz9_6, hcz9_7, hcz9_8, hcz9_9, hcz9_10, hfz9_0, hfz9_1, hfz9_2, hfz9_3, hfz9_4, hfz9_5, hfz9_6, hfz9_7, hfz9_8, hfz9_9, hfz9_10⟩ := kc11 BK154
     go_wp2_with (first | ((with_reducible refine gate_callee (f := 46) rfl ?_); refine gl (some 12) Try.func46 #[.agg #[.int .i64 a0_0, .int .i64 a0_1, .int .i64 a0_2, .int .i64 a0_3, .int .i64 a0_4, .int .i64 a0_5, .string a0_6, .slice A0_7 l0_7.length c0_7, .int .i64 a0_8, .int .i64 a0_9, .int .i64 a0_10], .int .i64 x6_1] (h := ?_); (with_reducible refine (op_At.calls a0_0 a0_1 a0_2 a0_3 a0_4 a0_5 a0_6 _ _ l0_7 a0_8 a0_9 a0_10 x6_1 t156 t157 t158 _ ?side1 ?side2 A7.out).mono ?_); (case side1 => repeat (first | exact (Kd.C_below HR0_7.out HB.out) | (with_reducible refine Kd.C_alloc ?_ _) | (with_reducible refine Kd.C_drewN ?_ _) | (with_reducible refine Kd.C_drew ?_))); (case side2 => exact HC0_7.out); rintro e w10 ⟨rfl, hb⟩; refine ⟨_, rfl, ?_⟩; replace HO_2 := Aside0.mk (Kd.R_below (by (with_reducible repeat (first | apply Kd.R_alloc | apply Kd.R_drewN | apply Kd.R_drew)); exact HO_2.out) hb); replace BK154 := bl BK154 hb; replace HB := bs HB hb; (try clear hb); (try clear hb2); (try clear hk); (try clear hi)) | ((with_reducible refine gate_builtin (b := .append) (xs := #[.tmp 9, .tmp 13]) rfl ?_); at_builtin; refine Kd.R_append kElem (w0 := w) w.heap.size rfl (.tmp 9) (.tmp 13) 23 36 (.agg #[(.int .i64 0), (.int .i64 0), (.int .i64 0)]) 24 rfl Try.underlying23 info36 rfl (by decide) (by omega) u2 x2_1 (⟨t156, t157, t158⟩ : SElem) [.int .i64 t156, .int .i64 t157, .int .i64 t158] (fun _ => True) (fun _ => False) rfl rfl ?aP (fun _ hk => hk.elim) ?aF ?aO ?aB ?aS ?aL ?_; (case aP => exact kElem_mkM _ _ _ (⟨t156, t157, t158⟩ : SElem)); (case aB => exact (bw HB)); (case aF => exact (fun _ _ => trivial)); (case aO => exact (by (with_reducible repeat (first | apply Kd.R_alloc | apply Kd.R_drewN | apply Kd.R_drew)); exact HO_2.out)); (case aS => exact (below_size (bw HB))); (case aL => have := LMc8.out; omega); intro v160 w11 ho hb hg hat; rw [← Ny159.out] at ho; have n0_ := Aside0.mk (blk_grown (kk BK154) hg (Kd.R_ne HO_2.out BK154.out (by decide))); have n1_ := Aside0.mk (hb); have n2_ := Aside0.mk (ho); clear BK154; clear HB; clear HO_2; have BK154 := n0_; have HB := n1_; have HO161 := n2_; clear n0_ n1_ n2_; clear ho hb hg hat))
     go_roundg k1
     case measure => have := HK1.out; omega
     case rel => exact ⟨(y159), (wrap64 (x6_1 + 1)), rf, H', ⟨by have := HK1.out; omega⟩, ⟨by (with_reducible repeat (first | apply Kd.R_alloc | apply Kd.R_drewN | apply Kd.R_drew)); exact HO161.out⟩, ⟨kk BK154⟩, ⟨bw HB⟩⟩
    rw [if_neg c8] at H
    exact absurd H (by simp)
   rw [if_neg c6] at H
   have c6b0 : decide (x6_1 < t155) = false := decide_eq_false c6
   clear c6
   obtain rfl := Option.some.inj H
   go_wp2
   go_ret
   exact ⟨_, re, by (with_reducible repeat (first | apply Kd.R_alloc | apply Kd.R_drewN | apply Kd.R_drew)); exact HO_2.out, bw HB⟩
end Go.Proofs.Ytonoaflfobajcaa.L
end

section
namespace Go.Proofs.Ytonoaflfobajcaa.L
open Go.RowKit Go.Proofs.YtonoaflfobajcaaW.PrintWords Go.Proofs.YtonoaflfobajcaaW.PrintLast Go.Proofs.YtonoaflfobajcaaW.PrintMore
set_option linter.unusedVariables false
set_option linter.unusedSimpArgs false
def InB (n : List Int) (b : Int) : Prop := ∀ x ∈ n, 0 ≤ x ∧ x ≤ b
theorem cstep_bound (l : List SOp) {n : List Int} {b : Int} (h : InB n b) (hb : 0 ≤ b) (o : SOp) : InB (cstep l n o) (b + 1) := by
  have hd : 0 ≤ n.getD (findOp l o.f6 o.f7).toNat 0 ∧ n.getD (findOp l o.f6 o.f7).toNat 0 ≤ b := by
    rw [List.getD_eq_getElem?_getD]
    cases hq : n[(findOp l o.f6 o.f7).toNat]? with
    | none => exact ⟨Int.le_refl _, hb⟩
    | some y => exact h y (List.mem_of_getElem? hq)
  unfold cstep
  split
  · split
    · intro x hx
      rcases List.mem_or_eq_of_mem_set hx with hx | rfl
      · have := h x hx; omega
      · omega
    · intro x hx; have := h x hx; omega
  · intro x hx; have := h x hx; omega
theorem tree_Find_f {l : List SOp} (hl : l.length ≤ 1000000) (a b : Int) : tree_Find.f l a b = some (findOp l a b) := by unfold tree_Find.f; rw [if_pos (by omega)]
theorem Counts_loop {l : List SOp} (h : RowOk l) : ∀ d i, i + d = l.length → ∀ n : List Int, n.length = l.length → InB n (i : Int) → (l.take i).foldl (cstep l) (List.replicate l.length 0) = n → Ev (fun k => doc_Counts.l0 k l n l (l.length : Int) (i : Int)) (countsL l)
  | 0, i, hi, n, hn, hb, hf => by
    rw [List.take_of_length_le (by omega)] at hf
    have : countsL l = n := hf
    rw [this]
    refine Ev.step (f := fun _ => some n) (fun k => ?_) (Ev.now _)
    simp only [doc_Counts.l0]
    rw [if_neg (by omega)]
  | d + 1, i, hi, n, hn, hb, hf => by
    have hlt : i < l.length := by omega
    have h40 := h.sums.1
    have ih := Counts_loop h d (i + 1) (by omega) (cstep l n l[i]) (by rw [cstep_length]; exact hn) (by have := cstep_bound l hb (by omega) l[i]; simpa using this) (by
      rw [List.take_succ_eq_append_getElem hlt, List.foldl_append, hf]; rfl)
    refine Ev.step (fun k => ?_) ih
    simp only [doc_Counts.l0]
    rw [if_pos (by omega), if_pos (by omega), if_pos (by omega), rd_Op_nat _ _ hlt, wrapS hlt (by omega)]
    by_cases h2 : l[i].f2 = 2
    · obtain ⟨j, hj, _, _, _, e⟩ := tog_found h (List.getElem_mem hlt) h2
      have hd : 0 ≤ n.getD j 0 ∧ n.getD j 0 ≤ (i : Int) := by
        rw [List.getD_eq_getElem?_getD]
        cases hq : n[j]? with
        | none => exact ⟨Int.le_refl _, by simp⟩
        | some y => exact hb y (List.mem_of_getElem? hq)
      rw [if_pos h2, tree_Find_f (by omega), Option.bind_some]
      unfold cstep
      rw [if_pos h2, e]
      rw [if_pos (by omega), if_pos (by omega)]
      have hrd : rd n (j : Int) = n.getD j 0 := by unfold rd; rw [Int.toNat_natCast]
      rw [hrd, Int.toNat_natCast, wrap64_small (by omega) (by omega)]
      by_cases h8 : l[i].f8 = n.getD j 0
      · rw [if_pos h8, if_pos h8]
      · rw [if_neg h8, if_neg h8]
    · rw [if_neg h2]
      unfold cstep
      rw [if_neg h2]
theorem Counts_ev {l : List SOp} (h : RowOk l) : Ev (fun k => doc_Counts.f k l) (countsL l) := by
  have h40 := h.sums.1
  refine Ev.congr (fun k => ?_) (Counts_loop h l.length 0 (Nat.zero_add _) (List.replicate l.length 0) (by simp) (fun x hx => by rw [List.eq_of_mem_replicate hx]; exact ⟨Int.le_refl _, Int.le_refl _⟩) rfl)
  unfold doc_Counts.f
  rw [if_pos (by omega), if_pos (by omega), Int.toNat_natCast]
  rfl
theorem counts_bound {l : List SOp} : InB (countsL l) (l.length : Int) := by
  have : ∀ i, i ≤ l.length → InB ((l.take i).foldl (cstep l) (List.replicate l.length 0)) (i : Int) := by
    intro i
    induction i with
    | zero => intro _ x hx; rw [List.eq_of_mem_replicate hx]; exact ⟨Int.le_refl _, Int.le_refl _⟩
    | succ i ih =>
      intro hi
      rw [List.take_succ_eq_append_getElem (by omega), List.foldl_append]
      have := cstep_bound l (ih (by omega)) (by omega) (l[i]'(by omega))
      simpa using this
  have := this l.length (Nat.le_refl _)
  rwa [List.take_length] at this
def worksL (l : List SOp) : List Bool := l.map (workE l)
theorem Works_loop {l : List SOp} (h : RowOk l) : ∀ d i, i + d = l.length → Ev (fun k => doc_Works.l0 k l ((l.take i).map (workE l) ++ List.replicate (l.length - i) false) (countsL l) (l.length : Int) (i : Int)) (worksL l)
  | 0, i, hi => by
    rw [List.take_of_length_le (by omega), show l.length - i = 0 by omega]
    simp only [List.replicate_zero, List.append_nil]
    refine Ev.step (f := fun _ => some (worksL l)) (fun k => ?_) (Ev.now _)
    simp only [doc_Works.l0]
    rw [if_neg (by omega)]
    rfl
  | d + 1, i, hi => by
    have hlt : i < l.length := by omega
    have h40 := h.sums.1
    have ih := Works_loop h d (i + 1) (by omega)
    have hc := counts_at h hlt
    have hcb : 0 ≤ (countsL l).getD i 0 := by
      rw [List.getD_eq_getElem?_getD]
      cases hq : (countsL l)[i]? with
      | none => exact Int.le_refl _
      | some y => exact (counts_bound y (List.mem_of_getElem? hq)).1
    have hset : ∀ b, b = workE l l[i] → ((l.take i).map (workE l) ++ List.replicate (l.length - i) false).set i b = (l.take (i + 1)).map (workE l) ++ List.replicate (l.length - (i + 1)) false := by
      intro b hb
      have hl : ((l.take i).map (workE l)).length = i := by rw [List.length_map, List.length_take]; omega
      rw [List.set_append, if_neg (by omega), hl, Nat.sub_self, show l.length - i = (l.length - (i + 1)) + 1 by omega, List.replicate_succ, List.set_cons_zero, List.take_succ_eq_append_getElem hlt, List.map_append, hb]
      simp
    have hlen : (((l.take i).map (workE l) ++ List.replicate (l.length - i) false).length : Int) = l.length := by
      rw [List.length_append, List.length_map, List.length_take, List.length_replicate]; omega
    refine Ev.step (fun k => ?_) ih
    simp only [doc_Works.l0]
    rw [hlen, if_pos (by omega), if_pos (by omega), if_pos (by rw [counts_length]; omega), if_pos (by omega), rd_Op_nat _ _ hlt, wrapS hlt (by omega), Int.toNat_natCast]
    have hrd : rd (countsL l) (i : Int) = cntR l l[i].f0 l[i].f1 := by unfold rd; rw [Int.toNat_natCast, hc]
    by_cases h1 : l[i].f2 = 1
    · rw [if_pos h1, if_pos (by omega), hset _ ?_]
      rw [hrd]
      unfold workE
      rw [← hc, Int.tmod_eq_emod_of_nonneg hcb, h1]
      simp
    · rw [if_neg h1, if_pos (by omega), hset _ ?_]
      unfold workE
      simp [h1]
theorem Works_ev {l : List SOp} (h : RowOk l) : Ev (fun k => doc_Works.f k l) (worksL l) := by
  have h40 := h.sums.1
  refine Ev.congr (f := fun k => (doc_Counts.f k l).bind fun t314 => doc_Works.l0 k l (List.replicate l.length false) t314 (t314.length : Int) 0) (fun k => ?_) (Ev.bind (f := fun k t314 => doc_Works.l0 k l (List.replicate l.length false) t314 (t314.length : Int) 0) (Counts_ev h) ?_)
  · unfold doc_Works.f
    rw [if_pos (by omega), if_pos (by omega), Int.toNat_natCast]
  · rw [counts_length]
    have := Works_loop h l.length 0 (Nat.zero_add _)
    simpa using this
theorem All_loop (o : SOp) (hs : sizeOf' o ≤ 1000000) : ∀ d i, i + d = sizeOf' o → Ev (fun k => op_All.l0 k ((List.range i).map fun j : Nat => (⟨o.f0, o.f1, (j : Int)⟩ : SElem)) (sizeOf' o : Int) (i : Int) o.f0 o.f1 o.f2 o.f3.f0 o.f3.f1 o.f3.f2 o.f4 o.f5 o.f6 o.f7 o.f8) (chainE o)
  | 0, i, hi => by
    obtain rfl : i = sizeOf' o := by omega
    refine Ev.step (f := fun _ => some (chainE o)) (fun k => ?_) (Ev.now _)
    simp only [op_All.l0]
    rw [if_neg (by omega)]
    rfl
  | d + 1, i, hi => by
    have ih := All_loop o hs d (i + 1) (by omega)
    rw [List.range_succ, List.map_append] at ih
    refine Ev.step (fun k => ?_) ih
    simp only [op_All.l0]
    unfold op_At.f
    rw [if_pos (by omega), Option.bind_some, if_pos (by simp; omega), wrapS (show i < sizeOf' o by omega) (by omega)]
    rfl
theorem All_ev (o : SOp) (hs : Sm o) (h12 : sizeOf' o ≤ 1000000) : Ev (fun k => op_All.f k o.f0 o.f1 o.f2 o.f3.f0 o.f3.f1 o.f3.f2 o.f4 o.f5 o.f6 o.f7 o.f8) (chainE o) := by
  refine Ev.congr (fun k => ?_) (All_loop o h12 (sizeOf' o) 0 (Nat.zero_add _))
  unfold op_All.f
  rw [op_Size_f o hs, Option.bind_some]
  rfl
end Go.Proofs.Ytonoaflfobajcaa.L
end
