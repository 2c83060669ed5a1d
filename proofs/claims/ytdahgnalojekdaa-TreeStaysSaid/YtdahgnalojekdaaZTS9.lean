/- Part 9 of the proof that for every argument that fits in memory the law TreeStays answers true: with an op more no two elements that were there change their order, and what it writes stands side by side right behind what it was written behind; no condition is laid. -/
import Derived.Test.YtdahgnalojekdaaZTS8
section
namespace Go.Proofs.Ytdahgnalojekdaa.L
open Go.RowKit Go.Proofs.YtdahgnalojekdaaW.PrintWords Go.Proofs.YtdahgnalojekdaaW.PrintLast Go.Proofs.YtdahgnalojekdaaW.PrintMore
set_option linter.unusedVariables false
set_option linter.unusedSimpArgs false
theorem SElem.ext3 {a b : SElem} (h0 : a.f0 = b.f0) (h1 : a.f1 = b.f1) (h2 : a.f2 = b.f2) : a = b := by cases a; cases b; simp_all
theorem key3_inj {a b : SElem} (h : key3 a = key3 b) : a = b := by
  unfold key3 at h; injection h with h0 h; injection h with h1 h2; exact SElem.ext3 h0 h1 h2
def chainE (o : SOp) : List SElem := (List.range (sizeOf' o)).map fun j : Nat => ⟨o.f0, o.f1, (j : Int)⟩
def insO (x : List SElem) (o : SOp) : List SElem := if isBegin o.f3 then chainE o ++ x else x.flatMap fun e => if key3 e = key3 o.f3 then e :: chainE o else [e]
def ordL (l : List SOp) : List SElem := l.foldl insO []
theorem ordL_app (l : List SOp) (o : SOp) : ordL (l ++ [o]) = insO (ordL l) o := by simp [ordL]
inductive WalkL (ch : SElem → List SElem) : List SElem → List SElem → Prop
  | nil : WalkL ch [] []
  | cons {x : SElem} {xs L1 L2 : List SElem} : WalkL ch (ch x) L1 → WalkL ch xs L2 → WalkL ch (x :: xs) (x :: (L1 ++ L2))
def chl (l : List SOp) (e : SElem) : List SElem := belowL l (gU l l.length (key3 e)) e
theorem gU_app (l : List SOp) (o : SOp) : ∀ i, i ≤ l.length → gU (l ++ [o]) i = gU l i
  | 0, _ => rfl
  | i + 1, h => by
    unfold gU
    rw [gU_app l o i (by omega), rd_Op_app l o i (by omega)]
theorem gU_snoc (l : List SOp) (o : SOp) (x : K3) : gU (l ++ [o]) (l ++ [o]).length x = if o.f4.toList.isEmpty = false ∧ x = key3 o.f3 then (l.length : Int) :: gU l l.length x else gU l l.length x := by
  rw [show (l ++ [o]).length = l.length + 1 by simp]
  conv => lhs; unfold gU
  rw [gU_app l o _ (Nat.le_refl _), rd_Op_last]
  cases h : o.f4.toList.isEmpty
  · simp only [Bool.false_eq_true, if_false, true_and]
    unfold updU
    by_cases e : x = key3 o.f3
    · subst e; simp
    · simp [e]
  · simp
theorem gU_range (l : List SOp) : ∀ i x k, k ∈ gU l i x → 0 ≤ k ∧ k < (i : Int) ∧ key3 (rd_Op l k).f3 = x ∧ (rd_Op l k).f4.toList.isEmpty = false
  | 0, x, k, h => by simp [gU] at h
  | i + 1, x, k, h => by
    unfold gU at h
    cases hz : (rd_Op l (i : Int)).f4.toList.isEmpty
    · rw [hz] at h
      simp only [Bool.false_eq_true, if_false] at h
      unfold updU at h
      split at h
      · rename_i e
        rcases List.mem_cons.1 h with rfl | h
        · exact ⟨by omega, by omega, e.symm, hz⟩
        · have := gU_range l i _ k h; rw [← e] at this; exact ⟨this.1, by omega, this.2.2⟩
      · have := gU_range l i x k h; exact ⟨this.1, by omega, this.2.2⟩
    · rw [hz] at h
      simp only [if_true] at h
      have := gU_range l i x k h; exact ⟨this.1, by omega, this.2.2⟩
theorem atE_app (l : List SOp) (o : SOp) (k : Int) (h0 : 0 ≤ k) (h : k < (l.length : Int)) : atE (l ++ [o]) k = atE l k := by
  obtain ⟨n, rfl⟩ := Int.eq_ofNat_of_zero_le h0
  unfold atE
  rw [rd_Op_app l o n (by omega)]
theorem findOp_cases (l : List SOp) (a b : Int) : (∃ i, ∃ h : i < l.length, l[i].f0 = a ∧ l[i].f1 = b ∧ (∀ j (hj : j < i), ¬ ((l[j]'(by omega)).f0 = a ∧ (l[j]'(by omega)).f1 = b)) ∧ findOp l a b = (i : Int)) ∨ ((∀ p ∈ l, ¬ (p.f0 = a ∧ p.f1 = b)) ∧ findOp l a b = -1) := by
  unfold findOp
  rcases firstAt_cases (fun i => nameIs a b (rd_Op l i)) l.length with ⟨i, h1, h2, h3, h4⟩ | ⟨h1, h2⟩
  · refine .inl ⟨i, h1, ?_⟩
    rw [rd_Op_nat _ _ h1] at h2
    unfold nameIs at h2; simp at h2
    refine ⟨h2.1, h2.2, fun j hj => ?_, h4⟩
    have := h3 j hj
    rw [rd_Op_nat _ _ (by omega)] at this
    unfold nameIs at this; simpa using this
  · refine .inr ⟨fun p hp => ?_, h2⟩
    obtain ⟨i, hi, rfl⟩ := List.getElem_of_mem hp
    have := h1 i hi
    rw [rd_Op_nat _ _ hi] at this
    unfold nameIs at this; simpa using this
theorem findOp_app_other (l : List SOp) (o : SOp) (a b : Int) (h : ¬ (o.f0 = a ∧ o.f1 = b)) : findOp (l ++ [o]) a b = findOp l a b := by
  rcases findOp_cases l a b with ⟨i, hi, h0, h1, hb, e⟩ | ⟨hn, e⟩
  · rw [e]
    rcases findOp_cases (l ++ [o]) a b with ⟨j, hj, g0, g1, gb, e'⟩ | ⟨hn', _⟩
    · rw [e']
      rcases Nat.lt_trichotomy i j with hlt | rfl | hlt
      · exact absurd ⟨by rw [List.getElem_append_left hi]; exact h0, by rw [List.getElem_append_left hi]; exact h1⟩ (gb i hlt)
      · rfl
      · exfalso
        rw [List.getElem_append_left (by omega)] at g0 g1
        exact hb j hlt ⟨g0, g1⟩
    · exact absurd ⟨h0, h1⟩ (hn' _ (List.mem_append_left _ (List.getElem_mem hi)))
  · rw [e]
    rcases findOp_cases (l ++ [o]) a b with ⟨j, hj, g0, g1, gb, e'⟩ | ⟨hn', e'⟩
    · exfalso
      have hm := List.getElem_mem hj
      rcases List.mem_append.1 hm with hm | hm
      · exact hn _ hm ⟨g0, g1⟩
      · simp only [List.mem_singleton] at hm; rw [hm] at g0 g1; exact h ⟨g0, g1⟩
    · exact e'
theorem findOp_fresh (l : List SOp) (o : SOp) (h : ∀ p ∈ l, ¬ (p.f0 = o.f0 ∧ p.f1 = o.f1)) : findOp (l ++ [o]) o.f0 o.f1 = (l.length : Int) := by
  rcases findOp_cases (l ++ [o]) o.f0 o.f1 with ⟨j, hj, g0, g1, gb, e'⟩ | ⟨hn', e'⟩
  · rw [e']
    by_cases ej : j < l.length
    · exfalso
      rw [List.getElem_append_left ej] at g0 g1
      exact h _ (List.getElem_mem ej) ⟨g0, g1⟩
    · simp at hj; omega
  · exact absurd ⟨rfl, rfl⟩ (hn' o (by simp))
theorem nextL_app (l : List SOp) (o : SOp) (e : SElem) (h : ¬ (o.f0 = e.f0 ∧ o.f1 = e.f1)) : nextL (l ++ [o]) e = nextL l e := by
  unfold nextL
  rw [findOp_app_other l o _ _ h]
  rcases findOp_cases l e.f0 e.f1 with ⟨i, hi, _, _, _, e'⟩ | ⟨_, e'⟩
  · rw [e', rd_Op_app l o i hi]
  · rw [e']; simp
theorem chl_mem {l : List SOp} {e x : SElem} (h : x ∈ chl l e) : ∃ p ∈ l, p.f0 = x.f0 ∧ p.f1 = x.f1 := by
  unfold chl belowL at h
  rcases List.mem_append.1 h with h | h
  · obtain ⟨k, hk, rfl⟩ := List.mem_map.1 h
    obtain ⟨h0, h1, _⟩ := gU_range l _ _ _ hk
    obtain ⟨n, rfl⟩ := Int.eq_ofNat_of_zero_le h0
    unfold atE
    rw [rd_Op_nat _ _ (by omega)]
    exact ⟨l[n], List.getElem_mem _, rfl, rfl⟩
  · unfold nextL at h
    split at h
    · rename_i hc
      simp only [List.mem_singleton] at h
      subst h
      rcases findOp_cases l e.f0 e.f1 with ⟨i, hi, _, _, _, e'⟩ | ⟨_, e'⟩
      · rw [e', rd_Op_nat _ _ hi]; exact ⟨l[i], List.getElem_mem _, rfl, rfl⟩
      · omega
    · simp at h
def old (o : SOp) (e : SElem) : Prop := ¬ (o.f0 = e.f0 ∧ o.f1 = e.f1)
theorem chl_old {l : List SOp} {o : SOp} (hf : ∀ p ∈ l, ¬ (p.f0 = o.f0 ∧ p.f1 = o.f1)) {e x : SElem} (h : x ∈ chl l e) : old o x := by
  obtain ⟨p, hp, h0, h1⟩ := chl_mem h
  rintro ⟨e0, e1⟩
  exact hf p hp ⟨by omega, by omega⟩
def headE (o : SOp) (e : SElem) : List SElem := if o.f4.toList.isEmpty = false ∧ key3 e = key3 o.f3 then [⟨o.f0, o.f1, 0⟩] else []
theorem chl_app (l : List SOp) (o : SOp) (e : SElem) (h : old o e) : chl (l ++ [o]) e = headE o e ++ chl l e := by
  unfold chl belowL
  rw [gU_snoc, nextL_app l o e h]
  have hm : ∀ x : K3, (gU l l.length x).map (atE (l ++ [o])) = (gU l l.length x).map (atE l) := fun x =>
    List.map_congr_left fun k hk => atE_app l o k (gU_range l _ _ _ hk).1 (gU_range l _ _ _ hk).2.1
  have hl : atE (l ++ [o]) (l.length : Int) = ⟨o.f0, o.f1, 0⟩ := by unfold atE; rw [rd_Op_last]
  unfold headE
  split
  · rw [List.map_cons, hm, hl]; rfl
  · rw [hm]; rfl
theorem size_pos {o : SOp} (h : o.f4.toList.isEmpty = false) : 0 < sizeOf' o := by
  rcases Nat.eq_zero_or_pos (sizeOf' o) with e | e
  · have := (runesOf_nil _).1 e; rw [h] at this; cases this
  · exact e
theorem chl_own {l : List SOp} {o : SOp} (hr : RowOk l) (hn : NextOk l o) (j : Nat) (hj : j < 12) : chl (l ++ [o]) ⟨o.f0, o.f1, (j : Int)⟩ = if j + 1 < sizeOf' o then [⟨o.f0, o.f1, ((j + 1 : Nat) : Int)⟩] else [] := by
  have hf := hn.fresh hr
  have hpos := opOk_pos hn.ok
  have hU : gU (l ++ [o]) (l ++ [o]).length (key3 ⟨o.f0, o.f1, (j : Int)⟩) = [] := by
    rw [List.eq_nil_iff_forall_not_mem]
    intro k hk
    obtain ⟨h0, h1, h2, h3⟩ := gU_range _ _ _ _ hk
    obtain ⟨n, rfl⟩ := Int.eq_ofNat_of_zero_le h0
    have hk := key3_inj h2
    have hwr : ∀ i (hi : i < (l ++ [o]).length), wr l ((l ++ [o])[i]).f3 := by
      clear hk h2 h3
      intro i hi
      by_cases e : i < l.length
      · rw [List.getElem_append_left e]
        have key : ∀ l : List SOp, RowOk l → ∀ p ∈ l, wr l p.f3 := by
          intro l hr
          induction hr with
          | nil => intro p hp; cases hp
          | snoc h1 h2 ih =>
            intro p hp
            have up : ∀ (l : List SOp) (o : SOp) (e : SElem), wr l e → wr (l ++ [o]) e := fun l o e h => h.imp id fun ⟨h, p, hp, hh⟩ => ⟨h, p, List.mem_append_left _ hp, hh⟩
            rcases List.mem_append.1 hp with hp | hp
            · exact up _ _ _ (ih p hp)
            · simp at hp; subst hp; exact up _ _ _ h2.after
        exact key l hr _ (List.getElem_mem e)
      · obtain rfl : i = l.length := by simp at hi; omega
        simp; exact hn.after
    have := hwr n (by omega)
    rw [← rd_Op_nat, hk] at this
    rcases this with h | ⟨_, p, hp, e0, e1, _⟩
    · unfold isBegin at h; simp at h; omega
    · exact hf p hp ⟨e0, e1⟩
  unfold chl belowL
  rw [hU]
  unfold nextL
  simp only [List.map_nil, List.nil_append]
  rw [findOp_fresh l o hf, rd_Op_last, wrap64_small (by omega) (by omega)]
  by_cases h : j + 1 < sizeOf' o
  · rw [if_pos h, if_pos ⟨by omega, by omega⟩]; rfl
  · rw [if_neg h, if_neg (by omega)]
theorem walk_chain {l : List SOp} {o : SOp} (hr : RowOk l) (hn : NextOk l o) : ∀ d j, j + d = sizeOf' o → WalkL (chl (l ++ [o])) (if j < sizeOf' o then [⟨o.f0, o.f1, (j : Int)⟩] else []) ((List.range' j d).map fun j : Nat => (⟨o.f0, o.f1, (j : Int)⟩ : SElem))
  | 0, j, h => by rw [if_neg (by omega)]; exact .nil
  | d + 1, j, h => by
    rw [if_pos (by omega), List.range'_succ, List.map_cons]
    have h12 := (opOk_size2 hn.ok).1
    have := walk_chain hr hn d (j + 1) (by omega)
    rw [← chl_own hr hn j (by omega)] at this
    have := WalkL.cons this (.nil (ch := chl (l ++ [o])))
    rwa [List.append_nil] at this
theorem walk_append {ch : SElem → List SElem} {xs ys L M : List SElem} (h : WalkL ch xs L) (h2 : WalkL ch ys M) : WalkL ch (xs ++ ys) (L ++ M) := by
  induction h with
  | nil => exact h2
  | cons h1 h3 ih1 ih3 =>
    rw [List.cons_append, List.cons_append, List.append_assoc]
    exact .cons h1 ih3
theorem walk_head {l : List SOp} {o : SOp} (hr : RowOk l) (hn : NextOk l o) (e : SElem) : WalkL (chl (l ++ [o])) (headE o e) (if key3 e = key3 o.f3 then chainE o else []) := by
  have h := walk_chain hr hn (sizeOf' o) 0 (by omega)
  rw [← List.range_eq_range'] at h
  unfold headE
  by_cases he : key3 e = key3 o.f3
  · simp only [he, and_true, if_true]
    cases hz : o.f4.toList.isEmpty
    · rw [if_pos (size_pos hz)] at h; exact h
    · have e0 : sizeOf' o = 0 := (runesOf_nil _).2 hz
      unfold chainE; rw [e0]; simpa using WalkL.nil
  · simp only [he, and_false, if_false]; exact .nil
def ins1 (o : SOp) (x : List SElem) : List SElem := x.flatMap fun e => if key3 e = key3 o.f3 then e :: chainE o else [e]
theorem walk_more {l : List SOp} {o : SOp} (hr : RowOk l) (hn : NextOk l o) {xs L : List SElem} (h : WalkL (chl l) xs L) (ho : ∀ x ∈ xs, old o x) : WalkL (chl (l ++ [o])) xs (ins1 o L) := by
  have hf := hn.fresh hr
  induction h with
  | nil => exact .nil
  | cons h1 h2 ih1 ih2 =>
    rename_i x xs L1 L2
    have g1 := ih1 (fun y hy => chl_old hf hy)
    have g2 := ih2 (fun y hy => ho y (List.mem_cons_of_mem _ hy))
    have hx := ho x List.mem_cons_self
    have hh := walk_append (walk_head hr hn x) g1
    rw [← chl_app l o x hx] at hh
    have := WalkL.cons hh g2
    unfold ins1 at this ⊢
    rw [List.flatMap_cons, List.flatMap_append]
    split
    · rename_i e; rw [if_pos e] at this; simpa using this
    · rename_i e; rw [if_neg e] at this; simpa using this
def bgE : SElem := ⟨0, 0, 0⟩
theorem isBegin_iff (e : SElem) : isBegin e = true ↔ e = bgE := by
  unfold isBegin bgE
  constructor
  · intro h; simp at h; exact SElem.ext3 h.1 h.2.1 h.2.2
  · rintro rfl; rfl
theorem mem_ordL {l : List SOp} (h : RowOk l) : ∀ e, e ∈ ordL l ↔ ∃ p ∈ l, p.f0 = e.f0 ∧ p.f1 = e.f1 ∧ 0 ≤ e.f2 ∧ e.f2 < (sizeOf' p : Int) := by
  induction h with
  | nil => intro e; simp [ordL]
  | snoc h1 h2 ih =>
    rename_i l o
    intro e
    have hch : ∀ e, e ∈ chainE o ↔ o.f0 = e.f0 ∧ o.f1 = e.f1 ∧ 0 ≤ e.f2 ∧ e.f2 < (sizeOf' o : Int) := by
      intro e
      unfold chainE
      rw [List.mem_map]
      constructor
      · rintro ⟨j, hj, rfl⟩; rw [List.mem_range] at hj; exact ⟨rfl, rfl, by simp only; omega, by simp only; omega⟩
      · rintro ⟨a, b, c, d⟩
        exact ⟨e.f2.toNat, List.mem_range.2 (by omega), SElem.ext3 a b (by simp only; omega)⟩
    have goal : e ∈ insO (ordL l) o ↔ e ∈ ordL l ∨ e ∈ chainE o := by
      unfold insO
      split
      · rw [List.mem_append]; exact or_comm
      · rename_i hb
        rw [List.mem_flatMap]
        constructor
        · rintro ⟨x, hx, he⟩
          split at he
          · rcases List.mem_cons.1 he with rfl | he
            · exact .inl hx
            · exact .inr he
          · simp at he; subst he; exact .inl hx
        · rintro (he | he)
          · exact ⟨e, he, by split <;> simp⟩
          · rcases h2.after with h | ⟨h0, p, hp, k0, k1, k2⟩
            · exact absurd h hb
            · exact ⟨o.f3, (ih o.f3).2 ⟨p, hp, k0, k1, h0, k2⟩, by rw [if_pos rfl]; exact List.mem_cons_of_mem _ he⟩
    rw [ordL_app, goal, ih, hch]
    constructor
    · rintro (⟨p, hp, h⟩ | h)
      · exact ⟨p, List.mem_append_left _ hp, h⟩
      · exact ⟨o, by simp, h⟩
    · rintro ⟨p, hp, h⟩
      rcases List.mem_append.1 hp with hp | hp
      · exact .inl ⟨p, hp, h⟩
      · simp at hp; subst hp; exact .inr h
theorem ordL_pos {l : List SOp} (h : RowOk l) {e : SElem} (he : e ∈ ordL l) : 1 ≤ e.f0 ∧ 1 ≤ e.f1 ∧ 0 ≤ e.f2 := by
  obtain ⟨p, hp, h0, h1, h2, _⟩ := (mem_ordL h e).1 he
  have := opOk_pos (h.oks p hp)
  omega
theorem ins1_begin {l : List SOp} (h : RowOk l) {o : SOp} (hb : o.f3 = bgE) : ins1 o (ordL l) = ordL l := by
  have : ∀ x : List SElem, (∀ e ∈ x, e ∈ ordL l) → ins1 o x = x := by
    intro x
    induction x with
    | nil => intro _; rfl
    | cons e x ih =>
      intro hx
      unfold ins1 at ih ⊢
      rw [List.flatMap_cons, ih (fun y hy => hx y (List.mem_cons_of_mem _ hy)), if_neg]
      · rfl
      · intro e'
        have h1 := ordL_pos h (hx e List.mem_cons_self)
        rw [key3_inj e', hb] at h1
        simp [bgE] at h1
  exact this _ fun _ h => h
theorem ordL_walk {l : List SOp} (h : RowOk l) : WalkL (chl l) (chl l bgE) (ordL l) := by
  induction h with
  | nil =>
    have : chl [] bgE = [] := by
      unfold chl belowL nextL findOp; simp [gU, firstAt]
    rw [this]; exact .nil
  | snoc h1 h2 ih =>
    rename_i l o
    have hf := h2.fresh h1
    have hpos := opOk_pos h2.ok
    have hob : old o bgE := by unfold old bgE; simp only; omega
    have g := walk_append (walk_head h1 h2 bgE) (walk_more h1 h2 ih (fun y hy => chl_old hf hy))
    rw [← chl_app l o bgE hob] at g
    rw [ordL_app]
    unfold insO
    by_cases hb : isBegin o.f3 = true
    · have hb' := (isBegin_iff _).1 hb
      rw [if_pos hb]
      rw [if_pos (by rw [hb']), ins1_begin h1 hb'] at g
      exact g
    · rw [if_neg hb]
      rw [if_neg (fun e => hb ((isBegin_iff _).2 (key3_inj e).symm))] at g
      exact g
theorem chain_length (o : SOp) : (chainE o).length = sizeOf' o := by simp [chainE]
theorem chain_nodup (o : SOp) : (chainE o).Nodup := by
  unfold chainE List.Nodup
  rw [List.pairwise_map]
  refine List.Pairwise.imp ?_ List.nodup_range
  intro a b h e
  injection e with _ _ e
  omega
theorem chain_name {o : SOp} {e : SElem} (h : e ∈ chainE o) : o.f0 = e.f0 ∧ o.f1 = e.f1 := by
  unfold chainE at h
  obtain ⟨j, _, rfl⟩ := List.mem_map.1 h
  exact ⟨rfl, rfl⟩
theorem insO_form {l : List SOp} {o : SOp} (h : RowOk l) (h2 : NextOk l o) (hnd : (ordL l).Nodup) :
    (isBegin o.f3 = true ∧ ordL (l ++ [o]) = chainE o ++ ordL l) ∨ (isBegin o.f3 = false ∧ ∃ A B, ordL l = A ++ o.f3 :: B ∧ o.f3 ∉ A ∧ o.f3 ∉ B ∧ ordL (l ++ [o]) = A ++ o.f3 :: (chainE o ++ B)) := by
  rw [ordL_app]
  unfold insO
  cases hb : isBegin o.f3
  · refine .inr ⟨rfl, ?_⟩
    have hm : o.f3 ∈ ordL l := by
      rcases h2.after with h' | ⟨h0, p, hp, k0, k1, k2⟩
      · rw [hb] at h'; cases h'
      · exact (mem_ordL h _).2 ⟨p, hp, k0, k1, h0, k2⟩
    obtain ⟨A, B, e⟩ := List.append_of_mem hm
    rw [e] at hnd
    have hA : o.f3 ∉ A := by
      intro hA
      exact (List.nodup_append.1 hnd).2.2 _ hA _ List.mem_cons_self rfl
    have hB : o.f3 ∉ B := (List.nodup_cons.1 (List.nodup_append.1 hnd).2.1).1
    refine ⟨A, B, e, hA, hB, ?_⟩
    have stay : ∀ x : List SElem, o.f3 ∉ x → (x.flatMap fun e => if key3 e = key3 o.f3 then e :: chainE o else [e]) = x := by
      intro x
      induction x with
      | nil => intro _; rfl
      | cons y x ih =>
        intro hx
        rw [List.mem_cons, not_or] at hx
        rw [List.flatMap_cons, ih hx.2, if_neg (fun e => hx.1 (key3_inj e).symm)]
        rfl
    rw [e]
    simp only [Bool.false_eq_true, if_false]
    rw [List.flatMap_append, List.flatMap_cons, stay A hA, stay B hB, if_pos rfl]
    simp
  · exact .inl ⟨rfl, by simp⟩
theorem ordL_nodup {l : List SOp} (h : RowOk l) : (ordL l).Nodup ∧ (ordL l).length = total l := by
  induction h with
  | nil => exact ⟨List.nodup_nil, rfl⟩
  | snoc h1 h2 ih =>
    rename_i l o
    have hf := h2.fresh h1
    have hno : ∀ e ∈ ordL l, e ∉ chainE o := by
      intro e he hc
      obtain ⟨p, hp, e0, e1, _⟩ := (mem_ordL h1 e).1 he
      obtain ⟨g0, g1⟩ := chain_name hc
      exact hf p hp ⟨by omega, by omega⟩
    rw [total_app]
    rcases insO_form h1 h2 ih.1 with ⟨_, e⟩ | ⟨_, A, B, e1, hA, hB, e⟩
    · rw [e]
      refine ⟨List.nodup_append.2 ⟨chain_nodup o, ih.1, ?_⟩, by rw [List.length_append, chain_length, ih.2]; omega⟩
      rintro a ha b hb rfl
      exact hno a hb ha
    · rw [e]
      have hnd := ih.1
      rw [e1] at hnd
      have hl := ih.2
      rw [e1] at hl
      have ha := List.nodup_append.1 hnd
      have hb := List.nodup_cons.1 ha.2.1
      constructor
      · refine List.nodup_append.2 ⟨ha.1, List.nodup_cons.2 ⟨?_, List.nodup_append.2 ⟨chain_nodup o, hb.2, ?_⟩⟩, ?_⟩
        · intro hm
          rcases List.mem_append.1 hm with hm | hm
          · exact hno o.f3 (by rw [e1]; simp) hm
          · exact hb.1 hm
        · rintro a ha b hb rfl
          exact hno a (by rw [e1]; simp [hb]) ha
        · rintro a haA b hb' rfl
          rcases List.mem_cons.1 hb' with rfl | hb'
          · exact hA haA
          · rcases List.mem_append.1 hb' with hc | hB'
            · exact hno a (by rw [e1]; simp [haA]) hc
            · exact ha.2.2 a haA a (List.mem_cons_of_mem _ hB') rfl
      · simp only [List.length_append, List.length_cons, chain_length] at hl ⊢
        omega
def clr (U : K3 → List Int) (L : List SElem) : K3 → List Int := fun y => if y ∈ L.map key3 then [] else U y
theorem clr_nil (U : K3 → List Int) : clr U [] = U := by funext y; simp [clr]
theorem clr_clr (U : K3 → List Int) (L M : List SElem) : clr (clr U L) M = clr U (L ++ M) := by
  funext y
  unfold clr
  rw [List.map_append]
  by_cases h : y ∈ M.map key3
  · rw [if_pos h, if_pos (List.mem_append_right _ h)]
  · rw [if_neg h]
    by_cases h2 : y ∈ L.map key3
    · rw [if_pos h2, if_pos (List.mem_append_left _ h2)]
    · rw [if_neg h2, if_neg (by rw [List.mem_append]; exact fun h' => h'.elim h2 h)]
theorem clr_one (U : K3 → List Int) (e : SElem) : updU U (key3 e) [] = clr U [e] := by
  funext y; simp [clr, updU]
theorem clr_out {U : K3 → List Int} {L : List SElem} {e : SElem} (h : e ∉ L) : clr U L (key3 e) = U (key3 e) := by
  unfold clr
  rw [if_neg]
  intro hm
  obtain ⟨x, hx, he⟩ := List.mem_map.1 hm
  exact h (key3_inj he ▸ hx)
theorem walkF_of (l : List SOp) {xs L : List SElem} (h : WalkL (chl l) xs L) : ∀ (k : Nat) (U : K3 → List Int) (all : List SElem), L.length ≤ k → L.Nodup → (∀ e ∈ L, U (key3 e) = gU l l.length (key3 e)) → all.length + L.length ≤ 900000 → xs.foldlM (stepF l k) (U, all) = some (clr U L, all ++ L) := by
  induction h with
  | nil => intro k U all _ _ _ _; simp [clr_nil]
  | cons h1 h2 ih1 ih2 =>
    rename_i x xs L1 L2
    intro k U all hk hnd hU hlen
    have hnx := List.nodup_cons.1 hnd
    have hna := List.nodup_append.1 hnx.2
    simp only [List.length_cons, List.length_append] at hk hlen
    obtain ⟨k', rfl⟩ : ∃ k', k = k' + 1 := ⟨k - 1, by omega⟩
    rw [List.foldlM_cons]
    have hx : x ∉ L1 ∧ x ∉ L2 := by
      have := hnx.1; rw [List.mem_append, not_or] at this; exact this
    have s1 : stepF l (k' + 1) (U, all) x = some (clr U (x :: L1), all ++ (x :: L1)) := by
      unfold stepF
      simp only
      rw [if_pos (by omega), walkF_succ, hU x List.mem_cons_self, clr_one]
      have := ih1 k' (clr U [x]) (all ++ [x]) (by omega) hna.1 (fun e he => by
        rw [clr_out (by rw [List.mem_singleton]; rintro rfl; exact hx.1 he)]
        exact hU e (List.mem_cons_of_mem _ (List.mem_append_left _ he))) (by simp; omega)
      unfold chl at this
      rw [this, clr_clr]
      simp
    rw [s1]
    simp only [Option.bind_eq_bind, Option.bind_some]
    have := ih2 (k' + 1) (clr U (x :: L1)) (all ++ (x :: L1)) (by omega) hna.2.1 (fun e he => by
        rw [clr_out]
        · exact hU e (List.mem_cons_of_mem _ (List.mem_append_right _ he))
        · intro hm
          rcases List.mem_cons.1 hm with rfl | hm
          · exact hx.2 he
          · exact hna.2.2 e hm e he rfl) (by simp; omega)
    rw [this, clr_clr]
    simp
theorem smalls_ok {l : List SOp} (hs : smalls l = true) (h : RowOk l) : okRow l = true := by
  unfold okRow
  simp only [Bool.and_eq_true, decide_eq_true_eq, List.all_eq_true]
  exact ⟨⟨hs, h.sums.1⟩, h.oks⟩
theorem tree_All_f {l : List SOp} (hs : smalls l = true) (h : RowOk l) : tree_All.f l = some (ordL l) := by
  unfold tree_All.f
  rw [if_pos (smalls_ok hs h)]
  have hnd := ordL_nodup h
  have hsum := h.sums
  have hw := ordL_walk h
  show (walkF l (999 + 1) (gU l l.length) [] bgE).map (·.2) = _
  rw [walkF_succ, clr_one]
  have := walkF_of l hw 999 (clr (gU l l.length) [bgE]) [] (by omega) hnd.1 (fun e he => by
    rw [clr_out]
    rw [List.mem_singleton]; rintro rfl
    have := ordL_pos h he; simp [bgE] at this) (by simp; omega)
  unfold chl at this
  rw [this]
  simp
end Go.Proofs.Ytdahgnalojekdaa.L
end

section
namespace Go.Proofs.Ytdahgnalojekdaa.L
open Go.RowKit Go.Proofs.YtdahgnalojekdaaW.PrintWords Go.Proofs.YtdahgnalojekdaaW.PrintLast Go.Proofs.YtdahgnalojekdaaW.PrintMore
set_option linter.unusedVariables false
set_option linter.unusedSimpArgs false
theorem isPrefix_next {l : List SOp} (h : RowOk l) (n : Nat) (hn : n < l.length) : NextOk (l.take n) l[n] ∧ RowOk (l.take n) := by
  have h1 := h.take (n + 1)
  rw [List.take_succ_eq_append_getElem hn] at h1
  exact ⟨h1.snoc_inv.2, h1.snoc_inv.1⟩
theorem stays_filter {l : List SOp} {o : SOp} (h : RowOk l) (h2 : NextOk l o) : (ordL (l ++ [o])).filter (fun e => decide (e ∈ ordL l)) = ordL l := by
  have hf := h2.fresh h
  have hno : ∀ e ∈ chainE o, ¬ e ∈ ordL l := by
    intro e hc he
    obtain ⟨p, hp, e0, e1, _⟩ := (mem_ordL h e).1 he
    obtain ⟨g0, g1⟩ := chain_name hc
    exact hf p hp ⟨by omega, by omega⟩
  have hc : (chainE o).filter (fun e => decide (e ∈ ordL l)) = [] := by
    rw [List.filter_eq_nil_iff]; intro e he; simpa using hno e he
  have hall : ∀ x : List SElem, (∀ e ∈ x, e ∈ ordL l) → x.filter (fun e => decide (e ∈ ordL l)) = x := by
    intro x hx; rw [List.filter_eq_self]; intro e he; simpa using hx e he
  rcases insO_form h h2 (ordL_nodup h).1 with ⟨_, e⟩ | ⟨_, A, B, e1, _, _, e⟩
  · rw [e, List.filter_append, hc, hall _ (fun _ h => h)]; rfl
  · rw [e, List.filter_append, List.filter_cons, List.filter_append, hc, hall A (fun y hy => by rw [e1]; simp [hy]), hall B (fun y hy => by rw [e1]; simp [hy]), if_pos (by rw [e1]; simp), e1]; rfl
theorem stays_len {l : List SOp} {o : SOp} (h : RowOk l) (h2 : NextOk l o) : (ordL (l ++ [o])).length = (ordL l).length + sizeOf' o := by
  rw [(ordL_nodup h).2, (ordL_nodup (.snoc h h2)).2, total_app]
theorem chain_at {o : SOp} (k : Nat) (h : k < sizeOf' o) : (chainE o)[k]? = some ⟨o.f0, o.f1, (k : Int)⟩ := by
  unfold chainE; simp [h]
theorem stays_at {l : List SOp} {o : SOp} (h : RowOk l) (h2 : NextOk l o) (hb : isBegin o.f3 = false) : ∃ p, (ordL (l ++ [o]))[p]? = some o.f3 ∧ (∀ j, j < p → ∀ e, (ordL (l ++ [o]))[j]? = some e → e ≠ o.f3) ∧ ∀ k, k < sizeOf' o → (ordL (l ++ [o]))[p + 1 + k]? = some ⟨o.f0, o.f1, (k : Int)⟩ := by
  rcases insO_form h h2 (ordL_nodup h).1 with ⟨hb', _⟩ | ⟨_, A, B, e1, hA, hB, e⟩
  · rw [hb] at hb'; cases hb'
  · rw [e]
    refine ⟨A.length, by simp, fun j hj x hx => ?_, fun k hk => ?_⟩
    · rw [List.getElem?_append_left hj] at hx
      rintro rfl
      exact hA (List.mem_of_getElem? hx)
    · rw [List.getElem?_append_right (by omega), show A.length + 1 + k - A.length = k + 1 by omega, List.getElem?_cons_succ, List.getElem?_append_left (by rw [chain_length]; exact hk)]
      exact chain_at k hk
theorem stays_begin {l : List SOp} {o : SOp} (h : RowOk l) (h2 : NextOk l o) (hb : isBegin o.f3 = true) (k : Nat) (hk : k < sizeOf' o) : (ordL (l ++ [o]))[k]? = some ⟨o.f0, o.f1, (k : Int)⟩ := by
  rcases insO_form h h2 (ordL_nodup h).1 with ⟨_, e⟩ | ⟨hb', _⟩
  · rw [e, List.getElem?_append_left (by rw [chain_length]; exact hk)]; exact chain_at k hk
  · rw [hb] at hb'; cases hb'
end Go.Proofs.Ytdahgnalojekdaa.L
end

section
namespace Go.Proofs.Ytdahgnalojekdaa.L
open Go.RowKit Go.Proofs.YtdahgnalojekdaaW.PrintWords Go.Proofs.YtdahgnalojekdaaW.PrintLast Go.Proofs.YtdahgnalojekdaaW.PrintMore
set_option linter.unusedVariables false
set_option linter.unusedSimpArgs false
structure GoesR (l : List SOp) (o : SOp) : Prop where
  ok : opOk o = true
  seq : o.f1 = (countS l o.f0 : Int) + 1
  after : wr l o.f3
  gone : ∀ e ∈ o.f5, wr l e
  tog : o.f2 = 2 → ∃ p ∈ l, p.f2 = 1 ∧ p.f0 = o.f6 ∧ p.f1 = o.f7
end Go.Proofs.Ytdahgnalojekdaa.L
end

section
namespace Go.Proofs.Ytdahgnalojekdaa.L
open Go.RowKit Go.Proofs.YtdahgnalojekdaaW.PrintWords Go.Proofs.YtdahgnalojekdaaW.PrintLast Go.Proofs.YtdahgnalojekdaaW.PrintMore
attribute [local go_sem] max2_int min2_int max_two min_two max_three min_three max_four min_four
set_option linter.unusedVariables false
set_option linter.unusedSimpArgs false
def tree_Check.f (l0 : List (SOp)) : Option (Int) := (tree_May.f l0).bind fun t110 => (if t110 = true then (some 0) else (some 1))
set_option maxHeartbeats 8000000 in
set_option maxRecDepth 100000 in
theorem tree_Check.calls (A0 : Option Addr) (c0 : Nat) (l0 : List (SOp)) (r : Int) (w : World) (hr0 : Kd.C kOp w A0 l0.length l0) (hc0 : l0.length ≤ c0) (h : tree_Check.f l0 = some r) :
    Calls Try.prog 10 #[.slice A0 l0.length c0] w fun e w' => e = .returned (.int .i64 r) ∧ Below w.heap.size w w' := by
  have HR0 := Aside0.mk hr0
  have HC0 := Aside0.mk hc0
  clear hr0 hc0
  have HB := Aside0.mk (Below.refl w.heap.size w)
  have H : ((tree_May.f l0).bind fun t110 => (if t110 = true then (some 0) else (some 1))) = some r := h
  clear h
  replace H := Option.bind_eq_some_iff.mp H
  obtain ⟨t110, A20, H⟩ := H
  replace H : (if t110 = true then (some 0) else (some 1)) = some r := H
  have A2 := Aside0.mk A20
  clear A20
  by_cases c3 : t110 = true
  · subst c3
    have H1 : (some 0) = some r := by rw [if_pos rfl] at H; exact H
    clear H
    have H := H1
    clear H1
    obtain rfl := Option.some.inj H
    go_enter Try.func10, Try.ntmps10
    go_wp2_with (first | ((with_reducible refine gate_callee (f := 37) rfl ?_); refine goesL_ (some 4) rfl rfl Try.func37 (by kernel_rfl) rfl #[.slice A0 l0.length c0] rfl (by (try simp only [List.map_toArray, List.map_cons, List.map_nil]); first | done | rfl | (simp only [List.length_drop, List.length_take]; rfl)) ?_; (with_reducible refine (tree_May.calls _ _ l0 true _ ?side1 ?side2 A2.out).mono ?_); (case side1 => repeat (first | exact HR0.out | (with_reducible refine Kd.C_alloc ?_ _) | (with_reducible refine Kd.C_drewN ?_ _) | (with_reducible refine Kd.C_drew ?_))); (case side2 => exact HC0.out); rintro e w4 ⟨rfl, hb⟩; refine ⟨_, rfl, ?_⟩; have n0_ := Aside0.mk (below_step (by repeat (first | (with_reducible first | exact HB.out | apply below_alloc | apply pw_below_drewN | apply below_drew1) | exact HB.out)) hb); clear HB; have HB := n0_; clear n0_; (try clear hb); (try clear hb2); (try clear hk); (try clear hi)))
    go_ret
    exact ⟨by first | rfl | (simp [errW_none, errW_some] <;> rfl) | (simp [*, errW_none, errW_some] <;> rfl), by repeat (first | (with_reducible first | exact HB.out | apply below_alloc | apply pw_below_drewN | apply below_drew1) | exact HB.out)⟩
  · replace c3 := Bool.eq_false_iff.mpr c3
    subst c3
    have H1 : (some 1) = some r := by rw [if_neg (show ¬ (false = true) by decide)] at H; exact H
    clear H
    have H := H1
    clear H1
    obtain rfl := Option.some.inj H
    go_enter Try.func10, Try.ntmps10
    go_wp2_with (first | ((with_reducible refine gate_callee (f := 37) rfl ?_); refine goesL_ (some 4) rfl rfl Try.func37 (by kernel_rfl) rfl #[.slice A0 l0.length c0] rfl (by (try simp only [List.map_toArray, List.map_cons, List.map_nil]); first | done | rfl | (simp only [List.length_drop, List.length_take]; rfl)) ?_; (with_reducible refine (tree_May.calls _ _ l0 false _ ?side1 ?side2 A2.out).mono ?_); (case side1 => repeat (first | exact HR0.out | (with_reducible refine Kd.C_alloc ?_ _) | (with_reducible refine Kd.C_drewN ?_ _) | (with_reducible refine Kd.C_drew ?_))); (case side2 => exact HC0.out); rintro e w5 ⟨rfl, hb⟩; refine ⟨_, rfl, ?_⟩; have n0_ := Aside0.mk (below_step (by repeat (first | (with_reducible first | exact HB.out | apply below_alloc | apply pw_below_drewN | apply below_drew1) | exact HB.out)) hb); clear HB; have HB := n0_; clear n0_; (try clear hb); (try clear hb2); (try clear hk); (try clear hi)))
    go_ret
    exact ⟨by first | rfl | (simp [errW_none, errW_some] <;> rfl) | (simp [*, errW_none, errW_some] <;> rfl), by repeat (first | (with_reducible first | exact HB.out | apply below_alloc | apply pw_below_drewN | apply below_drew1) | exact HB.out)⟩
end Go.Proofs.Ytdahgnalojekdaa.L
end

section
namespace Go.Proofs.Ytdahgnalojekdaa.L
open Go.RowKit Go.Proofs.YtdahgnalojekdaaW.PrintWords Go.Proofs.YtdahgnalojekdaaW.PrintLast Go.Proofs.YtdahgnalojekdaaW.PrintMore
attribute [local go_sem] max2_int min2_int max_two min_two max_three min_three max_four min_four
set_option linter.unusedVariables false
set_option linter.unusedSimpArgs false
attribute [local go_sem high] eqAElem
def tree_Order.f (l0 : List (SOp)) : Option ((List (SElem)) × Int) := (tree_May.f l0).bind fun t115 => (if t115 = true then ((tree_All.f l0).bind fun t116 => (some (t116, 0))) else (some (([] : List (SElem)), 1)))
set_option maxHeartbeats 8000000 in
set_option maxRecDepth 100000 in
theorem tree_Order.calls (A0 : Option Addr) (c0 : Nat) (l0 : List (SOp)) (r1 : List (SElem)) (r2 : Int) (w : World) (hr0 : Kd.C kOp w A0 l0.length l0) (hc0 : l0.length ≤ c0) (h : tree_Order.f l0 = some (r1, r2)) :
    Calls Try.prog 11 #[.slice A0 l0.length c0] w fun e w' => ∃ v0_ : Value, e = .returned (.tuple #[v0_, .int .i64 r2]) ∧ Kd.R kElem 36 w' w.heap.size (fun _ => True) v0_ r1 ∧ Below w.heap.size w w' := by
  have HR0 := Aside0.mk hr0
  have HC0 := Aside0.mk hc0
  clear hr0 hc0
  have HB := Aside0.mk (Below.refl w.heap.size w)
  have H : ((tree_May.f l0).bind fun t115 => (if t115 = true then ((tree_All.f l0).bind fun t116 => (some (t116, 0))) else (some (([] : List (SElem)), 1)))) = some (r1, r2) := h
  clear h
  replace H := Option.bind_eq_some_iff.mp H
  obtain ⟨t115, A20, H⟩ := H
  replace H : (if t115 = true then ((tree_All.f l0).bind fun t116 => (some (t116, 0))) else (some (([] : List (SElem)), 1))) = some (r1, r2) := H
  have A2 := Aside0.mk A20
  clear A20
  by_cases c3 : t115 = true
  · subst c3
    have H1 : ((tree_All.f l0).bind fun t116 => (some (t116, 0))) = some (r1, r2) := by rw [if_pos rfl] at H; exact H
    clear H
    have H := H1
    clear H1
    replace H := Option.bind_eq_some_iff.mp H
    obtain ⟨t116, A40, H⟩ := H
    replace H : (some (t116, 0)) = some (r1, r2) := H
    have A4 := Aside0.mk A40
    clear A40
    simp only [Option.some.injEq, Prod.mk.injEq] at H
    obtain ⟨rfl, rfl⟩ := H
    go_enter Try.func11, Try.ntmps11
    go_wp2_with (first | ((with_reducible refine gate_callee (f := 37) rfl ?_); refine goesL_ (some 5) rfl rfl Try.func37 (by kernel_rfl) rfl #[.slice A0 l0.length c0] rfl (by (try simp only [List.map_toArray, List.map_cons, List.map_nil]); first | done | rfl | (simp only [List.length_drop, List.length_take]; rfl)) ?_; (with_reducible refine (tree_May.calls _ _ l0 true _ ?side1 ?side2 A2.out).mono ?_); (case side1 => repeat (first | exact HR0.out | (with_reducible refine Kd.C_alloc ?_ _) | (with_reducible refine Kd.C_drewN ?_ _) | (with_reducible refine Kd.C_drew ?_))); (case side2 => exact HC0.out); rintro e w5 ⟨rfl, hb⟩; refine ⟨_, rfl, ?_⟩; have n0_ := Aside0.mk (below_step (by repeat (first | (with_reducible first | exact HB.out | apply below_alloc | apply pw_below_drewN | apply below_drew1) | exact HB.out)) hb); clear HB; have HB := n0_; clear n0_; (try clear hb); (try clear hb2); (try clear hk); (try clear hi)) | ((with_reducible refine gate_callee (f := 38) rfl ?_); refine goesL_ (some 8) rfl rfl Try.func38 (by kernel_rfl) rfl #[.slice A0 l0.length c0] rfl (by (try simp only [List.map_toArray, List.map_cons, List.map_nil]); first | done | rfl | (simp only [List.length_drop, List.length_take]; rfl)) ?_; (with_reducible refine (tree_All.calls _ _ l0 t116 _ ?side1 ?side2 A4.out).mono ?_); (case side1 => repeat (first | exact (Kd.C_below HR0.out HB.out) | (with_reducible refine Kd.C_alloc ?_ _) | (with_reducible refine Kd.C_drewN ?_ _) | (with_reducible refine Kd.C_drew ?_))); (case side2 => exact HC0.out); rintro e w6 ⟨v117, rfl, ho0, hb⟩; refine ⟨_, rfl, ?_⟩; have n0_ := Aside0.mk (Kd.R_lower ho0 (below_size (by repeat (first | (with_reducible first | exact HB.out | apply below_alloc | apply pw_below_drewN | apply below_drew1) | exact HB.out)))); have n1_ := Aside0.mk (below_step (by repeat (first | (with_reducible first | exact HB.out | apply below_alloc | apply pw_below_drewN | apply below_drew1) | exact HB.out)) hb); clear HB; have HO118 := n0_; have HB := n1_; clear n0_ n1_; (try clear hb); (try clear hb2); (try clear hk); (try clear hi); (try clear ho0)))
    go_ret2
    exact ⟨_, by first | rfl | (simp [errW_none, errW_some] <;> rfl) | (simp [*, errW_none, errW_some] <;> rfl), by (with_reducible repeat (first | apply Kd.R_alloc | apply Kd.R_drewN | apply Kd.R_drew)); exact HO118.out, by repeat (first | (with_reducible first | exact HB.out | apply below_alloc | apply pw_below_drewN | apply below_drew1) | exact HB.out)⟩
  · replace c3 := Bool.eq_false_iff.mpr c3
    subst c3
    have H1 : (some (([] : List (SElem)), 1)) = some (r1, r2) := by rw [if_neg (show ¬ (false = true) by decide)] at H; exact H
    clear H
    have H := H1
    clear H1
    simp only [Option.some.injEq, Prod.mk.injEq] at H
    obtain ⟨rfl, rfl⟩ := H
    go_enter Try.func11, Try.ntmps11
    go_wp2_with (first | ((with_reducible refine gate_callee (f := 37) rfl ?_); refine goesL_ (some 5) rfl rfl Try.func37 (by kernel_rfl) rfl #[.slice A0 l0.length c0] rfl (by (try simp only [List.map_toArray, List.map_cons, List.map_nil]); first | done | rfl | (simp only [List.length_drop, List.length_take]; rfl)) ?_; (with_reducible refine (tree_May.calls _ _ l0 false _ ?side1 ?side2 A2.out).mono ?_); (case side1 => repeat (first | exact HR0.out | (with_reducible refine Kd.C_alloc ?_ _) | (with_reducible refine Kd.C_drewN ?_ _) | (with_reducible refine Kd.C_drew ?_))); (case side2 => exact HC0.out); rintro e w7 ⟨rfl, hb⟩; refine ⟨_, rfl, ?_⟩; have n0_ := Aside0.mk (below_step (by repeat (first | (with_reducible first | exact HB.out | apply below_alloc | apply pw_below_drewN | apply below_drew1) | exact HB.out)) hb); clear HB; have HB := n0_; clear n0_; (try clear hb); (try clear hb2); (try clear hk); (try clear hi)))
    go_ret2
    exact ⟨_, by first | rfl | (simp [errW_none, errW_some] <;> rfl) | (simp [*, errW_none, errW_some] <;> rfl), by first | exact Kd.R_nil _ _ _ _ _ | exact Kd.N_nil _ _ _ _ _ | exact Kd.V_nil _ _ _ _ _ | exact Kd.Q_nil _ _ _ _ _ | exact Kd.S_nil _ _ _ _ _, by repeat (first | (with_reducible first | exact HB.out | apply below_alloc | apply pw_below_drewN | apply below_drew1) | exact HB.out)⟩
def lectionaryref0_At.l0 : Nat → List (SElem) → Int → Int → Int → Int → Option (Int)
  | 0, _, _, _, _, _ => none
  | k + 1, x0, x5, x120000, x120001, x120002 => if x5 < (x0.length : Int) then (if 0 ≤ x5 then (if (((rd_Elem x0 x5).f0) == x120000 && (((rd_Elem x0 x5).f1) == x120001 && (((rd_Elem x0 x5).f2) == x120002))) = true then (some x5) else (lectionaryref0_At.l0 k x0 (wrap64 (x5 + 1)) x120000 x120001 x120002)) else (none)) else (some (-1))
def lectionaryref0_At.f (k : Nat) (l0 : List (SElem)) (a1_0 : Int) (a1_1 : Int) (a1_2 : Int) : Option (Int) := lectionaryref0_At.l0 k l0 0 a1_0 a1_1 a1_2
theorem lectionaryref0_At.mono_l : ∀ k, (∀ y0 y1 y2 y3 y4, LeO (lectionaryref0_At.l0 k y0 y1 y2 y3 y4) (lectionaryref0_At.l0 (k + 1) y0 y1 y2 y3 y4))
  | 0 => fun _ _ _ _ _ r h => by simp [lectionaryref0_At.l0] at h
  | k + 1 => by
    have ih0 := lectionaryref0_At.mono_l k
    · intro y0 y1 y2 y3 y4
      unfold lectionaryref0_At.l0
      repeat' first
      | (with_reducible exact ih0 _ _ _ _ _)
      | (with_reducible exact LeO.refl _)
      | (with_reducible exact LeO.none _)
      | (with_reducible refine LeO.ite ?_ ?_)
      | (with_reducible refine LeO.bind ?_ (fun _ => ?_))
      | exact ih0 _ _ _ _ _
      | exact LeO.none _
      | refine LeO.ite ?_ ?_
      | refine LeO.bind ?_ (fun _ => ?_)
theorem lectionaryref0_At.mono : ∀ a0 a1 a2 a3 k, LeO (lectionaryref0_At.f k a0 a1 a2 a3) (lectionaryref0_At.f (k + 1) a0 a1 a2 a3) := by
  intro a0 a1 a2 a3 k
  have ih0 := lectionaryref0_At.mono_l k
  unfold lectionaryref0_At.f
  repeat' first
      | (with_reducible exact ih0 _ _ _ _ _)
      | (with_reducible exact LeO.refl _)
      | (with_reducible exact LeO.none _)
      | (with_reducible refine LeO.ite ?_ ?_)
      | (with_reducible refine LeO.bind ?_ (fun _ => ?_))
      | exact ih0 _ _ _ _ _
      | exact LeO.none _
      | refine LeO.ite ?_ ?_
      | refine LeO.bind ?_ (fun _ => ?_)
set_option maxHeartbeats 8000000 in
set_option maxRecDepth 100000 in
theorem lectionaryref0_At.calls (k : Nat) (A0 : Option Addr) (c0 : Nat) (l0 : List (SElem)) (a1_0 : Int) (a1_1 : Int) (a1_2 : Int) (r : Int) (w : World) (hr0 : Kd.C kElem w A0 l0.length l0) (hc0 : l0.length ≤ c0) (h : lectionaryref0_At.f k l0 a1_0 a1_1 a1_2 = some r) :
    Calls Try.prog 12 #[.slice A0 l0.length c0, .agg #[.int .i64 a1_0, .int .i64 a1_1, .int .i64 a1_2]] w fun e w' => e = .returned (.int .i64 r) ∧ Below w.heap.size w w' := by
  have hu36 := Try.underlying36
  have HR0 := Aside0.mk hr0
  have HC0 := Aside0.mk hc0
  clear hr0 hc0
  have HB := Aside0.mk (Below.refl w.heap.size w)
  have H : (lectionaryref0_At.l0 k l0 0 a1_0 a1_1 a1_2) = some r := h
  clear h
  have H' := Aside0.mk H
  clear H
  go_enter Try.func12, Try.ntmps12
  go_wp2_with (first | ((with_reducible refine gate_dst (N := 3) rfl ?_); refine box_event ?hg (N := 3) ?hd (cs := #[.int .i64 a1_0, .int .i64 a1_1, .int .i64 a1_2]) (t := 36) ?hr ?_; (case hd => rfl); (case hg => rfl); (case hr => first | (go_simp; done) | (go_simp; rfl)); intro gb119 hg w3 hbox hb; have n0_ := Aside0.mk (below_step (by repeat (first | (with_reducible first | exact HB.out | apply below_alloc | apply pw_below_drewN | apply below_drew1) | exact HB.out)) hb); have n1_ := Aside0.mk (hbox); have n2_ := Aside0.mk ((by rw [hg]; exact (below_size (by repeat (first | (with_reducible first | exact HB.out | apply below_alloc | apply pw_below_drewN | apply below_drew1) | exact HB.out))) : w.heap.size ≤ gb119)); have n3_ := Aside0.mk ((by rw [hg]; exact (below_size (by repeat (first | (with_reducible first | exact HB.out | apply below_alloc | apply pw_below_drewN | apply below_drew1) | exact HB.out))) : w.heap.size ≤ gb119)); clear HB; have HB := n0_; have BK119 := n1_; have GW119 := n2_; have GE119 := n3_; clear n0_ n1_ n2_ n3_; clear hb hbox hg))
  go_loopg [5] k (fun kq v5 w' => ∃ (x5_1 : Int), v5 = .int .i64 x5_1 ∧ Aside0 (lectionaryref0_At.l0 kq l0 x5_1 a1_0 a1_1 a1_2 = some r) ∧ Aside0 (kq ≤ k) ∧ Aside0 (w'.heap[gb119]? = some (.cells #[.int .i64 a1_0, .int .i64 a1_1, .int .i64 a1_2] 36 (0, 0))) ∧ Aside0 (Below w.heap.size w w'))
  case atStart => exact ⟨(0), (by first | rfl | (simp; done) | (simp [*]; done)), H', ⟨Nat.le_refl _⟩, ⟨by (with_reducible repeat (first | refine blk_drewN ?_ _ | refine blk_drew ?_ | refine blk_alloc ?_ _)); exact BK119.out⟩, ⟨by repeat (first | (with_reducible first | exact HB.out | apply below_alloc | apply pw_below_drewN | apply below_drew1 | refine below_set ?_ GE119.out) | exact HB.out)⟩⟩
  case round =>
    clear H'
    obtain ⟨x5_1, rfl, HA, HK1, BK119, HB⟩ := hrel
    cases gk with
    | zero => exact absurd HA.out (by simp [lectionaryref0_At.l0])
    | succ k1 =>
      have H := HA.out
      clear HA
      simp only [lectionaryref0_At.l0] at H
      by_cases c4 : x5_1 < (l0.length : Int)
      · rw [if_pos c4] at H
        have c4b0 : decide (x5_1 < (l0.length : Int)) = true := decide_eq_true c4
        clear c4
        by_cases c5 : 0 ≤ x5_1
        · rw [if_pos c5] at H
          have c5b0 : decide (0 ≤ x5_1) = true := decide_eq_true c5
          clear c5
          by_cases c6 : (((rd_Elem l0 x5_1).f0) == a1_0 && (((rd_Elem l0 x5_1).f1) == a1_1 && (((rd_Elem l0 x5_1).f2) == a1_2))) = true
          · rw [if_pos c6] at H
            have c6b0 : (((rd_Elem l0 x5_1).f0) == a1_0 && (((rd_Elem l0 x5_1).f1) == a1_1 && (((rd_Elem l0 x5_1).f2) == a1_2))) = true := c6
            (try (have c6b1 : decide (((rd_Elem l0 x5_1).f0) = a1_0 && (((rd_Elem l0 x5_1).f1) == a1_1 && (((rd_Elem l0 x5_1).f2) == a1_2))) = true := by simpa using c6))
            (try (have c6b2 : (((rd_Elem l0 x5_1).f0) == a1_0 && (((rd_Elem l0 x5_1).f1) == a1_1 && (((rd_Elem l0 x5_1).f2) == a1_2))) = true := by simpa using c6))
            clear c6
            obtain rfl := Option.some.inj H
            have p120 : 0 ≤ (x5_1 : Int) := of_decide_eq_true (by first | (with_reducible assumption) | assumption)
            have q120 : x5_1 < (l0.length : Int) := of_decide_eq_true (by first | (with_reducible assumption) | assumption)
            obtain ⟨ad120, e120, hx120_0, hx120_1, hx120_2⟩ := at_Elem HR0.out x5_1 p120 q120
            cases e120
            replace hx120_0 := (HB.out.cell (World.block_lt_of_cell? w _ hx120_0)).trans hx120_0
            replace hx120_1 := (HB.out.cell (World.block_lt_of_cell? w _ hx120_1)).trans hx120_1
            replace hx120_2 := (HB.out.cell (World.block_lt_of_cell? w _ hx120_2)).trans hx120_2
            replace p120 := eq_true p120
            replace q120 := eq_true q120
            have hcz7_0 : wr.cell? ⟨gb119, 0, none⟩ = some (.int .i64 a1_0) := (blk_cell BK119.out 0).trans rfl
            have hcz7_1 : wr.cell? ⟨gb119, 1, none⟩ = some (.int .i64 a1_1) := (blk_cell BK119.out 1).trans rfl
            have hcz7_2 : wr.cell? ⟨gb119, 2, none⟩ = some (.int .i64 a1_2) := (blk_cell BK119.out 2).trans rfl
            have hfz7_0 := blk_frozen BK119.out 0
            have hfz7_1 := blk_frozen BK119.out 1
            have hfz7_2 := blk_frozen BK119.out 2
            go_wp2
            repeat (go_quiet (fail); try go_wp2)
            go_ret
            exact ⟨by first | rfl | (simp [errW_none, errW_some] <;> rfl) | (simp [*, errW_none, errW_some] <;> rfl), by repeat (first | (with_reducible first | exact HB.out | apply below_alloc | apply pw_below_drewN | apply below_drew1 | refine below_set ?_ GE119.out) | exact HB.out)⟩
          · rw [if_neg c6] at H
            have c6b0 : (((rd_Elem l0 x5_1).f0) == a1_0 && (((rd_Elem l0 x5_1).f1) == a1_1 && (((rd_Elem l0 x5_1).f2) == a1_2))) = false := by simpa using c6
            (try (have c6b1 : decide (((rd_Elem l0 x5_1).f0) = a1_0 && (((rd_Elem l0 x5_1).f1) == a1_1 && (((rd_Elem l0 x5_1).f2) == a1_2))) = false := by simpa using c6))
            (try (have c6b2 : (((rd_Elem l0 x5_1).f0) == a1_0 && (((rd_Elem l0 x5_1).f1) == a1_1 && (((rd_Elem l0 x5_1).f2) == a1_2))) = false := by simpa using c6))
            (try (have c6b3 : ¬ (((rd_Elem l0 x5_1).f0) = a1_0 && (((rd_Elem l0 x5_1).f1) == a1_1 && (((rd_Elem l0 x5_1).f2) == a1_2))) := by simpa using c6))
            clear c6
            have H' := Aside0.mk H
            clear H
            have p120 : 0 ≤ (x5_1 : Int) := of_decide_eq_true (by first | (with_reducible assumption) | assumption)
            have q120 : x5_1 < (l0.length : Int) := of_decide_eq_true (by first | (with_reducible assumption) | assumption)
            obtain ⟨ad120, e120, hx120_0, hx120_1, hx120_2⟩ := at_Elem HR0.out x5_1 p120 q120
            cases e120
            replace hx120_0 := (HB.out.cell (World.block_lt_of_cell? w _ hx120_0)).trans hx120_0
            replace hx120_1 := (HB.out.cell (World.block_lt_of_cell? w _ hx120_1)).trans hx120_1
            replace hx120_2 := (HB.out.cell (World.block_lt_of_cell? w _ hx120_2)).trans hx120_2
            replace p120 := eq_true p120
            replace q120 := eq_true q120
            have hcz8_0 : wr.cell? ⟨gb119, 0, none⟩ = some (.int .i64 a1_0) := (blk_cell BK119.out 0).trans rfl
            have hcz8_1 : wr.cell? ⟨gb119, 1, none⟩ = some (.int .i64 a1_1) := (blk_cell BK119.out 1).trans rfl
            have hcz8_2 : wr.cell? ⟨gb119, 2, none⟩ = some (.int .i64 a1_2) := (blk_cell BK119.out 2).trans rfl
            have hfz8_0 := blk_frozen BK119.out 0
            have hfz8_1 := blk_frozen BK119.out 1
            have hfz8_2 := blk_frozen BK119.out 2
            go_wp2
            repeat (go_quiet (fail); try go_wp2)
            go_roundg k1
            case measure => have := HK1.out; omega
            case rel => exact ⟨(wrap64 (x5_1 + 1)), (by first | rfl | (simp; done) | (simp [*]; done)), H', ⟨by have := HK1.out; omega⟩, ⟨by (with_reducible repeat (first | refine blk_drewN ?_ _ | refine blk_drew ?_ | refine blk_alloc ?_ _)); exact BK119.out⟩, ⟨by repeat (first | (with_reducible first | exact HB.out | apply below_alloc | apply pw_below_drewN | apply below_drew1 | refine below_set ?_ GE119.out) | exact HB.out)⟩⟩
        · rw [if_neg c5] at H
          exact absurd H (by simp)
      · rw [if_neg c4] at H
        have c4b0 : decide (x5_1 < (l0.length : Int)) = false := decide_eq_false c4
        clear c4
        obtain rfl := Option.some.inj H
        go_wp2
        go_ret
        exact ⟨by first | rfl | (simp [errW_none, errW_some] <;> rfl) | (simp [*, errW_none, errW_some] <;> rfl), by repeat (first | (with_reducible first | exact HB.out | apply below_alloc | apply pw_below_drewN | apply below_drew1 | refine below_set ?_ GE119.out) | exact HB.out)⟩
def lectionaryref0_EqElems.l0 : Nat → List (SElem) → List (SElem) → Int → Option (Bool)
  | 0, _, _, _ => none
  | k + 1, x0, x1, x5 => if x5 < (x0.length : Int) then (if 0 ≤ x5 then (if x5 < (x1.length : Int) then (if (!(((rd_Elem x0 x5).f0) == ((rd_Elem x1 x5).f0)) || (!(((rd_Elem x0 x5).f1) == ((rd_Elem x1 x5).f1)) || (!(((rd_Elem x0 x5).f2) == ((rd_Elem x1 x5).f2))))) = true then (some false) else (lectionaryref0_EqElems.l0 k x0 x1 (wrap64 (x5 + 1)))) else (none)) else (none)) else (some true)
def lectionaryref0_EqElems.f (k : Nat) (l0 : List (SElem)) (l1 : List (SElem)) : Option (Bool) := if (l0.length : Int) = (l1.length : Int) then (lectionaryref0_EqElems.l0 k l0 l1 0) else (some false)
theorem lectionaryref0_EqElems.mono_l : ∀ k, (∀ y0 y1 y2, LeO (lectionaryref0_EqElems.l0 k y0 y1 y2) (lectionaryref0_EqElems.l0 (k + 1) y0 y1 y2))
  | 0 => fun _ _ _ r h => by simp [lectionaryref0_EqElems.l0] at h
  | k + 1 => by
    have ih0 := lectionaryref0_EqElems.mono_l k
    · intro y0 y1 y2
      unfold lectionaryref0_EqElems.l0
      repeat' first
      | (with_reducible exact ih0 _ _ _)
      | (with_reducible exact LeO.refl _)
      | (with_reducible exact LeO.none _)
      | (with_reducible refine LeO.ite ?_ ?_)
      | (with_reducible refine LeO.bind ?_ (fun _ => ?_))
      | exact ih0 _ _ _
      | exact LeO.none _
      | refine LeO.ite ?_ ?_
      | refine LeO.bind ?_ (fun _ => ?_)
theorem lectionaryref0_EqElems.mono : ∀ a0 a1 k, LeO (lectionaryref0_EqElems.f k a0 a1) (lectionaryref0_EqElems.f (k + 1) a0 a1) := by
  intro a0 a1 k
  have ih0 := lectionaryref0_EqElems.mono_l k
  unfold lectionaryref0_EqElems.f
  repeat' first
      | (with_reducible exact ih0 _ _ _)
      | (with_reducible exact LeO.refl _)
      | (with_reducible exact LeO.none _)
      | (with_reducible refine LeO.ite ?_ ?_)
      | (with_reducible refine LeO.bind ?_ (fun _ => ?_))
      | exact ih0 _ _ _
      | exact LeO.none _
      | refine LeO.ite ?_ ?_
      | refine LeO.bind ?_ (fun _ => ?_)
set_option maxHeartbeats 8000000 in
set_option maxRecDepth 100000 in
theorem lectionaryref0_EqElems.calls (k : Nat) (A0 : Option Addr) (c0 : Nat) (l0 : List (SElem)) (A1 : Option Addr) (c1 : Nat) (l1 : List (SElem)) (r : Bool) (w : World) (hr0 : Kd.C kElem w A0 l0.length l0) (hc0 : l0.length ≤ c0) (hr1 : Kd.C kElem w A1 l1.length l1) (hc1 : l1.length ≤ c1) (h : lectionaryref0_EqElems.f k l0 l1 = some r) :
    Calls Try.prog 13 #[.slice A0 l0.length c0, .slice A1 l1.length c1] w fun e w' => e = .returned (.bool r) ∧ Drawn0 w w' := by
  have hu36 := Try.underlying36
  have HR0 := Aside0.mk hr0
  have HC0 := Aside0.mk hc0
  clear hr0 hc0
  have HR1 := Aside0.mk hr1
  have HC1 := Aside0.mk hc1
  clear hr1 hc1
  have H : (if (l0.length : Int) = (l1.length : Int) then (lectionaryref0_EqElems.l0 k l0 l1 0) else (some false)) = some r := h
  clear h
  by_cases c3 : (l0.length : Int) = (l1.length : Int)
  · rw [if_pos c3] at H
    have c3b0 : ((l0.length : Int) == (l1.length : Int)) = true := beq_iff_eq.mpr c3
    have c3b1 : ((l0.length : Int) != (l1.length : Int)) = false := bne_eq_false_iff_eq.mpr c3
    have c3b2 : (l0.length == l1.length) = true := by first | simpa using c3 | (simp at c3 ⊢; omega)
    clear c3
    have H' := Aside0.mk H
    clear H
    go_enter Try.func13, Try.ntmps13
    go_wp2
    go_loopg [5] k (fun kq v5 w' => ∃ (x5_1 : Int), v5 = .int .i64 x5_1 ∧ Aside0 (lectionaryref0_EqElems.l0 kq l0 l1 x5_1 = some r) ∧ Aside0 (kq ≤ k) ∧ Drawn0 w w')
    case atStart => exact ⟨(0), (by first | rfl | (simp; done) | (simp [*]; done)), H', ⟨Nat.le_refl _⟩, by repeat (first | exact Drawn0.refl _ | apply Drawn0.step)⟩
    case round =>
      clear H'
      try clear c1; try clear c3; try clear c3b0; try clear c3b1; try clear c3b2
      obtain ⟨x5_1, rfl, HA, HK1, ⟨m1, rfl⟩⟩ := hrel
      cases gk with
      | zero => exact absurd HA.out (by simp [lectionaryref0_EqElems.l0])
      | succ k1 =>
        have H := HA.out
        clear HA
        simp only [lectionaryref0_EqElems.l0] at H
        by_cases c4 : x5_1 < (l0.length : Int)
        · rw [if_pos c4] at H
          have c4b0 : decide (x5_1 < (l0.length : Int)) = true := decide_eq_true c4
          clear c4
          by_cases c5 : 0 ≤ x5_1
          · rw [if_pos c5] at H
            have c5b0 : decide (0 ≤ x5_1) = true := decide_eq_true c5
            clear c5
            by_cases c6 : x5_1 < (l1.length : Int)
            · rw [if_pos c6] at H
              have c6b0 : decide (x5_1 < (l1.length : Int)) = true := decide_eq_true c6
              clear c6
              by_cases c7 : (!(((rd_Elem l0 x5_1).f0) == ((rd_Elem l1 x5_1).f0)) || (!(((rd_Elem l0 x5_1).f1) == ((rd_Elem l1 x5_1).f1)) || (!(((rd_Elem l0 x5_1).f2) == ((rd_Elem l1 x5_1).f2))))) = true
              · rw [if_pos c7] at H
                have c7b0 : (!(((rd_Elem l0 x5_1).f0) == ((rd_Elem l1 x5_1).f0)) || (!(((rd_Elem l0 x5_1).f1) == ((rd_Elem l1 x5_1).f1)) || (!(((rd_Elem l0 x5_1).f2) == ((rd_Elem l1 x5_1).f2))))) = true := c7
                clear c7
                obtain rfl := Option.some.inj H
                have p121 : 0 ≤ (x5_1 : Int) := of_decide_eq_true (by first | (with_reducible assumption) | assumption)
                have q121 : x5_1 < (l0.length : Int) := of_decide_eq_true (by first | (with_reducible assumption) | assumption)
                obtain ⟨ad121, e121, hx121_0, hx121_1, hx121_2⟩ := at_Elem HR0.out x5_1 p121 q121
                cases e121
                replace p121 := eq_true p121
                replace q121 := eq_true q121
                have p122 : 0 ≤ (x5_1 : Int) := of_decide_eq_true (by first | (with_reducible assumption) | assumption)
                have q122 : x5_1 < (l1.length : Int) := of_decide_eq_true (by first | (with_reducible assumption) | assumption)
                obtain ⟨ad122, e122, hx122_0, hx122_1, hx122_2⟩ := at_Elem HR1.out x5_1 p122 q122
                cases e122
                replace p122 := eq_true p122
                replace q122 := eq_true q122
                go_wp2
                repeat (go_quiet (fail); try go_wp2)
                go_ret
                exact ⟨by first | rfl | (simp; done) | (simp [*]; done), by repeat (first | exact Drawn0.refl _ | apply Drawn0.step)⟩
              · rw [if_neg c7] at H
                have c7b0 : (!(((rd_Elem l0 x5_1).f0) == ((rd_Elem l1 x5_1).f0)) || (!(((rd_Elem l0 x5_1).f1) == ((rd_Elem l1 x5_1).f1)) || (!(((rd_Elem l0 x5_1).f2) == ((rd_Elem l1 x5_1).f2))))) = false := by simpa using c7
                clear c7
                have H' := Aside0.mk H
                clear H
                have p121 : 0 ≤ (x5_1 : Int) := of_decide_eq_true (by first | (with_reducible assumption) | assumption)
                have q121 : x5_1 < (l0.length : Int) := of_decide_eq_true (by first | (with_reducible assumption) | assumption)
                obtain ⟨ad121, e121, hx121_0, hx121_1, hx121_2⟩ := at_Elem HR0.out x5_1 p121 q121
                cases e121
                replace p121 := eq_true p121
                replace q121 := eq_true q121
                have p122 : 0 ≤ (x5_1 : Int) := of_decide_eq_true (by first | (with_reducible assumption) | assumption)
                have q122 : x5_1 < (l1.length : Int) := of_decide_eq_true (by first | (with_reducible assumption) | assumption)
                obtain ⟨ad122, e122, hx122_0, hx122_1, hx122_2⟩ := at_Elem HR1.out x5_1 p122 q122
                cases e122
                replace p122 := eq_true p122
                replace q122 := eq_true q122
                go_wp2
                repeat (go_quiet (fail); try go_wp2)
                go_roundg k1
                case measure => have := HK1.out; omega
                case rel => exact ⟨(wrap64 (x5_1 + 1)), (by first | rfl | (simp; done) | (simp [*]; done)), H', ⟨by have := HK1.out; omega⟩, by repeat (first | exact Drawn0.refl _ | apply Drawn0.step)⟩
            · rw [if_neg c6] at H
              exact absurd H (by simp)
          · rw [if_neg c5] at H
            exact absurd H (by simp)
        · rw [if_neg c4] at H
          have c4b0 : decide (x5_1 < (l0.length : Int)) = false := decide_eq_false c4
          clear c4
          obtain rfl := Option.some.inj H
          go_wp2
          go_ret
          exact ⟨by first | rfl | (simp; done) | (simp [*]; done), by repeat (first | exact Drawn0.refl _ | apply Drawn0.step)⟩
  · rw [if_neg c3] at H
    have c3b0 : ((l0.length : Int) == (l1.length : Int)) = false := beq_eq_false_iff_ne.mpr c3
    have c3b1 : ((l0.length : Int) != (l1.length : Int)) = true := bne_iff_ne.mpr c3
    have c3b2 : (l0.length == l1.length) = false := by first | simpa using c3 | (simp at c3 ⊢; omega)
    obtain rfl := Option.some.inj H
    go_enter Try.func13, Try.ntmps13
    go_wp2
    go_ret
    exact ⟨by first | rfl | (simp; done) | (simp [*]; done), by repeat (first | exact Drawn0.refl _ | apply Drawn0.step)⟩
def lectionarylaw5_wakes.f  : Option (Bool) := (some (([(⟨1, 1, 1, (⟨0, 0, 0⟩ : SElem), (⟨#[97]⟩ : ByteArray), ([] : List (SElem)), 0, 0, 0⟩ : SOp), (⟨2, 1, 1, (⟨0, 0, 0⟩ : SElem), (⟨#[98]⟩ : ByteArray), ([] : List (SElem)), 0, 0, 0⟩ : SOp)] : List (SOp)) : List (SOp))).bind fun y123 => ((tree_Order.f y123).bind fun bt126 => ((tree_Check.f y123).bind fun t130 => ((lectionarylaw5_num.f t130).bind fun t131 => (if t131 = 0 then ((lectionarylaw5_num.f bt126.2).bind fun t132 => (if t132 = 0 then (if (bt126.1.length : Int) = 2 then (if 0 < (bt126.1.length : Int) then (some (((rd_Elem bt126.1 0).f0) == 2)) else (none)) else (some false)) else (some false))) else (some false)))))
set_option maxHeartbeats 8000000 in
set_option maxRecDepth 100000 in
theorem lectionarylaw5_wakes.calls  (r : Bool) (w : World) (h : lectionarylaw5_wakes.f  = some r) :
    Calls Try.prog 14 #[] w fun e w' => e = .returned (.bool r) ∧ Below w.heap.size w w' := by
  have hu39 := Try.underlying39
  have HB := Aside0.mk (Below.refl w.heap.size w)
  have H : ((some (([(⟨1, 1, 1, (⟨0, 0, 0⟩ : SElem), (⟨#[97]⟩ : ByteArray), ([] : List (SElem)), 0, 0, 0⟩ : SOp), (⟨2, 1, 1, (⟨0, 0, 0⟩ : SElem), (⟨#[98]⟩ : ByteArray), ([] : List (SElem)), 0, 0, 0⟩ : SOp)] : List (SOp)) : List (SOp))).bind fun y123 => ((tree_Order.f y123).bind fun bt126 => ((tree_Check.f y123).bind fun t130 => ((lectionarylaw5_num.f t130).bind fun t131 => (if t131 = 0 then ((lectionarylaw5_num.f bt126.2).bind fun t132 => (if t132 = 0 then (if (bt126.1.length : Int) = 2 then (if 0 < (bt126.1.length : Int) then (some (((rd_Elem bt126.1 0).f0) == 2)) else (none)) else (some false)) else (some false))) else (some false)))))) = some r := h
  clear h
  obtain ⟨y123, hy123⟩ : ∃ y_ : List (SOp), y_ = (([(⟨1, 1, 1, (⟨0, 0, 0⟩ : SElem), (⟨#[97]⟩ : ByteArray), ([] : List (SElem)), 0, 0, 0⟩ : SOp), (⟨2, 1, 1, (⟨0, 0, 0⟩ : SElem), (⟨#[98]⟩ : ByteArray), ([] : List (SElem)), 0, 0, 0⟩ : SOp)] : List (SOp))) := ⟨_, rfl⟩
  replace H : ((tree_Order.f y123).bind fun bt126 => ((tree_Check.f y123).bind fun t130 => ((lectionarylaw5_num.f t130).bind fun t131 => (if t131 = 0 then ((lectionarylaw5_num.f bt126.2).bind fun t132 => (if t132 = 0 then (if (bt126.1.length : Int) = 2 then (if 0 < (bt126.1.length : Int) then (some (((rd_Elem bt126.1 0).f0) == 2)) else (none)) else (some false)) else (some false))) else (some false))))) = some r := by first | (rw [hy123]; with_reducible exact H) | (have H2_ := (Option.bind_some _ _).symm.trans H; rw [hy123]; with_reducible exact H2_) | (have H2_ := (Option.bind_some _ _).symm.trans H; with_reducible exact H2_) | with_reducible exact H | (rw [hy123]; exact H) | exact H
  have Ny123 := Aside0.mk hy123
  clear hy123
  replace H := Option.bind_eq_some_iff.mp H
  obtain ⟨⟨t126, t127⟩, A10, H⟩ := H
  replace H : ((tree_Check.f y123).bind fun t130 => ((lectionarylaw5_num.f t130).bind fun t131 => (if t131 = 0 then ((lectionarylaw5_num.f t127).bind fun t132 => (if t132 = 0 then (if (t126.length : Int) = 2 then (if 0 < (t126.length : Int) then (some (((rd_Elem t126 0).f0) == 2)) else (none)) else (some false)) else (some false))) else (some false)))) = some r := H
  have A1 := Aside0.mk A10
  clear A10
  replace H := Option.bind_eq_some_iff.mp H
  obtain ⟨t130, A20, H⟩ := H
  replace H : ((lectionarylaw5_num.f t130).bind fun t131 => (if t131 = 0 then ((lectionarylaw5_num.f t127).bind fun t132 => (if t132 = 0 then (if (t126.length : Int) = 2 then (if 0 < (t126.length : Int) then (some (((rd_Elem t126 0).f0) == 2)) else (none)) else (some false)) else (some false))) else (some false))) = some r := H
  have A2 := Aside0.mk A20
  clear A20
  replace H := Option.bind_eq_some_iff.mp H
  obtain ⟨t131, A30, H⟩ := H
  replace H : (if t131 = 0 then ((lectionarylaw5_num.f t127).bind fun t132 => (if t132 = 0 then (if (t126.length : Int) = 2 then (if 0 < (t126.length : Int) then (some (((rd_Elem t126 0).f0) == 2)) else (none)) else (some false)) else (some false))) else (some false)) = some r := H
  have A3 := Aside0.mk A30
  clear A30
  by_cases c4 : t131 = 0
  · rw [if_pos c4] at H
    have c4b0 : (t131 == 0) = true := beq_iff_eq.mpr c4
    have c4b1 : (t131 != 0) = false := bne_eq_false_iff_eq.mpr c4
    clear c4
    replace H := Option.bind_eq_some_iff.mp H
    obtain ⟨t132, A50, H⟩ := H
    replace H : (if t132 = 0 then (if (t126.length : Int) = 2 then (if 0 < (t126.length : Int) then (some (((rd_Elem t126 0).f0) == 2)) else (none)) else (some false)) else (some false)) = some r := H
    have A5 := Aside0.mk A50
    clear A50
    by_cases c6 : t132 = 0
    · rw [if_pos c6] at H
      have c6b0 : (t132 == 0) = true := beq_iff_eq.mpr c6
      have c6b1 : (t132 != 0) = false := bne_eq_false_iff_eq.mpr c6
      clear c6
      by_cases c7 : (t126.length : Int) = 2
      · rw [if_pos c7] at H
        have c7b0 : ((t126.length : Int) == 2) = true := beq_iff_eq.mpr c7
        have c7b1 : ((t126.length : Int) != 2) = false := bne_eq_false_iff_eq.mpr c7
        clear c7
        by_cases c8 : 0 < (t126.length : Int)
        · rw [if_pos c8] at H
          have c8b0 : decide (0 < (t126.length : Int)) = true := decide_eq_true c8
          have c8b1 : decide (0 < t126.length) = true := decide_eq_true (by omega)
          clear c8
          obtain rfl := Option.some.inj H
          go_enter Try.func14, Try.ntmps14
          go_wp2_with (first | ((with_reducible refine gate_dst (N := 6) rfl ?_); (try (refine gate_guard (by rfl) ?_; dsimp only)); refine Kd.S_lit kOp _ 39 ?hg (N := 6) ?hd (xs := ([(⟨1, 1, 1, (⟨0, 0, 0⟩ : SElem), (⟨#[97]⟩ : ByteArray), ([] : List (SElem)), 0, 0, 0⟩ : SOp), (⟨2, 1, 1, (⟨0, 0, 0⟩ : SElem), (⟨#[98]⟩ : ByteArray), ([] : List (SElem)), 0, 0, 0⟩ : SOp)] : List (SOp))) (inner := [.int .i64 1, .int .i64 1, .int .i64 1, .int .i64 0, .int .i64 0, .int .i64 0, .string (⟨#[97]⟩ : ByteArray), .slice none 0 0, .int .i64 0, .int .i64 0, .int .i64 0, .int .i64 2, .int .i64 1, .int .i64 1, .int .i64 0, .int .i64 0, .int .i64 0, .string (⟨#[98]⟩ : ByteArray), .slice none 0 0, .int .i64 0, .int .i64 0, .int .i64 0]) (ok := fun _ => True) (okp := fun _ => True) ?hr ?hp (fun _ hk => hk) trivial (Below.refl _ _) (Nat.le_refl _) (by simp) ?_; (case hd => rfl); (case hg => rfl); (case hr => first | (go_simp; done) | (go_simp; rfl)); (case hp => exact (Reps.front (show Kd.M kOp _ _ _ (⟨1, 1, 1, (⟨0, 0, 0⟩ : SElem), (⟨#[97]⟩ : ByteArray), ([] : List (SElem)), 0, 0, 0⟩ : SOp) [.int .i64 1, .int .i64 1, .int .i64 1, .int .i64 0, .int .i64 0, .int .i64 0, .string (⟨#[97]⟩ : ByteArray), .slice none 0 0, .int .i64 0, .int .i64 0, .int .i64 0] from (kOp_mkM _ _ _ (⟨1, 1, 1, (⟨0, 0, 0⟩ : SElem), (⟨#[97]⟩ : ByteArray), ([] : List (SElem)), 0, 0, 0⟩ : SOp) (Kd.R_nil _ _ _ _ _))) rfl (Reps.front (show Kd.M kOp _ _ _ (⟨2, 1, 1, (⟨0, 0, 0⟩ : SElem), (⟨#[98]⟩ : ByteArray), ([] : List (SElem)), 0, 0, 0⟩ : SOp) [.int .i64 2, .int .i64 1, .int .i64 1, .int .i64 0, .int .i64 0, .int .i64 0, .string (⟨#[98]⟩ : ByteArray), .slice none 0 0, .int .i64 0, .int .i64 0, .int .i64 0] from (kOp_mkM _ _ _ (⟨2, 1, 1, (⟨0, 0, 0⟩ : SElem), (⟨#[98]⟩ : ByteArray), ([] : List (SElem)), 0, 0, 0⟩ : SOp) (Kd.R_nil _ _ _ _ _))) rfl (Reps.none _ _) rfl) rfl)); intro v124 w9 ho10 hb hg_ hnew_; clear hg_ hnew_; (first | rw [← Ny123.out] at ho10 | (simp only [Int.reduceToNat] at ho10; rw [← Ny123.out] at ho10)); have n0_ := Aside0.mk (Kd.S_lower ho10 (below_size (by repeat (first | (with_reducible first | exact HB.out | apply below_alloc | apply pw_below_drewN | apply below_drew1) | exact HB.out)))); have n1_ := Aside0.mk (below_step (by repeat (first | (with_reducible first | exact HB.out | apply below_alloc | apply pw_below_drewN | apply below_drew1) | exact HB.out)) hb); clear HB; have HO125 := n0_; have HB := n1_; clear n0_ n1_; clear hb ho10; obtain ⟨Ao11, co11, eo11⟩ := Kd.S_slice HO125.out; subst eo11) | ((with_reducible refine gate_callee (f := 11) rfl ?_); refine goesL_ (some 9) rfl rfl Try.func11 (by kernel_rfl) rfl #[.slice Ao11 y123.length co11] rfl (by (try simp only [List.map_toArray, List.map_cons, List.map_nil]); first | done | rfl | (simp only [List.length_drop, List.length_take]; rfl)) ?_; (with_reducible refine (tree_Order.calls _ _ y123 t126 t127 _ ?side1 ?side2 A1.out).mono ?_); (case side1 => repeat (first | exact (Kd.S_reads' HO125.out).2.2 | (with_reducible refine Kd.C_alloc ?_ _) | (with_reducible refine Kd.C_drewN ?_ _) | (with_reducible refine Kd.C_drew ?_))); (case side2 => exact (Kd.S_reads' HO125.out).2.1); rintro e w12 ⟨v128, rfl, ho0, hb⟩; refine ⟨_, rfl, ?_⟩; have n0_ := Aside0.mk (Kd.S_elder' (by (with_reducible repeat (first | apply Kd.S_alloc | apply Kd.S_drewN | apply Kd.S_drew)); exact HO125.out) (Kd.R_base ho0) hb); have n1_ := Aside0.mk (Kd.R_lower ho0 (below_size (by repeat (first | (with_reducible first | exact HB.out | apply below_alloc | apply pw_below_drewN | apply below_drew1) | exact HB.out)))); have n2_ := Aside0.mk (below_step (by repeat (first | (with_reducible first | exact HB.out | apply below_alloc | apply pw_below_drewN | apply below_drew1) | exact HB.out)) hb); clear HO125; clear HB; have HO125 := n0_; have HO129 := n1_; have HB := n2_; clear n0_ n1_ n2_; (try clear hb); (try clear hb2); (try clear hk); (try clear hi); (try clear ho0)) | ((with_reducible refine gate_callee (f := 10) rfl ?_); refine goesL_ (some 13) rfl rfl Try.func10 (by kernel_rfl) rfl #[.slice Ao11 y123.length co11] rfl (by (try simp only [List.map_toArray, List.map_cons, List.map_nil]); first | done | rfl | (simp only [List.length_drop, List.length_take]; rfl)) ?_; (with_reducible refine (tree_Check.calls _ _ y123 t130 _ ?side1 ?side2 A2.out).mono ?_); (case side1 => repeat (first | exact (Kd.S_reads' HO125.out).2.2 | (with_reducible refine Kd.C_alloc ?_ _) | (with_reducible refine Kd.C_drewN ?_ _) | (with_reducible refine Kd.C_drew ?_))); (case side2 => exact (Kd.S_reads' HO125.out).2.1); rintro e w13 ⟨rfl, hb⟩; refine ⟨_, rfl, ?_⟩; have n0_ := Aside0.mk (Kd.S_below (by (with_reducible repeat (first | apply Kd.S_alloc | apply Kd.S_drewN | apply Kd.S_drew)); exact HO125.out) hb); have n1_ := Aside0.mk (Kd.R_below (by (with_reducible repeat (first | apply Kd.R_alloc | apply Kd.R_drewN | apply Kd.R_drew)); exact HO129.out) hb); have n2_ := Aside0.mk (below_step (by repeat (first | (with_reducible first | exact HB.out | apply below_alloc | apply pw_below_drewN | apply below_drew1) | exact HB.out)) hb); clear HO125; clear HO129; clear HB; have HO125 := n0_; have HO129 := n1_; have HB := n2_; clear n0_ n1_ n2_; (try clear hb); (try clear hb2); (try clear hk); (try clear hi)) | ((with_reducible refine gate_callee (f := 9) rfl ?_); refine goesL_ (some 14) rfl rfl Try.func9 (by kernel_rfl) rfl #[.int .i64 t130] rfl (by (try simp only [List.map_toArray, List.map_cons, List.map_nil]); first | done | rfl | (simp only [List.length_drop, List.length_take]; rfl)) ?_; (with_reducible refine (lectionarylaw5_num.calls t130 t131 _ A3.out).mono ?_); rintro e w' ⟨rfl, ⟨nd, rfl⟩⟩; refine ⟨_, rfl, ?_⟩) | (go_at_call 9; (with_reducible refine (lectionarylaw5_num.calls t127 t132 _ A5.out).mono ?_); rintro e w' ⟨rfl, ⟨nd, rfl⟩⟩; obtain ⟨Ao14, co14, eo14⟩ := Kd.R_slice HO129.out; subst eo14; have p133 : 0 ≤ (0 : Int) := (by omega); have q133 : 0 < (t126.length : Int) := of_decide_eq_true (by first | (with_reducible assumption) | assumption); obtain ⟨ad133, e133, hx133_0, hx133_1, hx133_2⟩ := at_Elem (Kd.R_reads' HO129.out).2.2 0 p133 q133; cases e133; have qi133 : (0 < t126.length) = True := eq_true (by omega); (try rw [show ((0 : Int)).toNat = 0 from rfl] at hx133_0); (try rw [show 0 * 3 = 0 from rfl] at hx133_0); (try rw [Addr.add_zero'] at hx133_0); (try rw [show ((0 : Int)).toNat = 0 from rfl] at hx133_1); (try rw [show 0 * 3 = 0 from rfl] at hx133_1); (try rw [Addr.add_zero'] at hx133_1); (try rw [show ((0 : Int)).toNat = 0 from rfl] at hx133_2); (try rw [show 0 * 3 = 0 from rfl] at hx133_2); (try rw [Addr.add_zero'] at hx133_2); replace p133 := eq_true p133; replace q133 := eq_true q133))
          go_ret
          exact ⟨by first | rfl | (simp [errW_none, errW_some] <;> rfl) | (simp [*, errW_none, errW_some] <;> rfl), by repeat (first | (with_reducible first | exact HB.out | apply below_alloc | apply pw_below_drewN | apply below_drew1) | exact HB.out)⟩
        · rw [if_neg c8] at H
          exact absurd H (by simp)
      · rw [if_neg c7] at H
        have c7b0 : ((t126.length : Int) == 2) = false := beq_eq_false_iff_ne.mpr c7
        have c7b1 : ((t126.length : Int) != 2) = true := bne_iff_ne.mpr c7
        obtain rfl := Option.some.inj H
        go_enter Try.func14, Try.ntmps14
        go_wp2_with (first | ((with_reducible refine gate_dst (N := 6) rfl ?_); (try (refine gate_guard (by rfl) ?_; dsimp only)); refine Kd.S_lit kOp _ 39 ?hg (N := 6) ?hd (xs := ([(⟨1, 1, 1, (⟨0, 0, 0⟩ : SElem), (⟨#[97]⟩ : ByteArray), ([] : List (SElem)), 0, 0, 0⟩ : SOp), (⟨2, 1, 1, (⟨0, 0, 0⟩ : SElem), (⟨#[98]⟩ : ByteArray), ([] : List (SElem)), 0, 0, 0⟩ : SOp)] : List (SOp))) (inner := [.int .i64 1, .int .i64 1, .int .i64 1, .int .i64 0, .int .i64 0, .int .i64 0, .string (⟨#[97]⟩ : ByteArray), .slice none 0 0, .int .i64 0, .int .i64 0, .int .i64 0, .int .i64 2, .int .i64 1, .int .i64 1, .int .i64 0, .int .i64 0, .int .i64 0, .string (⟨#[98]⟩ : ByteArray), .slice none 0 0, .int .i64 0, .int .i64 0, .int .i64 0]) (ok := fun _ => True) (okp := fun _ => True) ?hr ?hp (fun _ hk => hk) trivial (Below.refl _ _) (Nat.le_refl _) (by simp) ?_; (case hd => rfl); (case hg => rfl); (case hr => first | (go_simp; done) | (go_simp; rfl)); (case hp => exact (Reps.front (show Kd.M kOp _ _ _ (⟨1, 1, 1, (⟨0, 0, 0⟩ : SElem), (⟨#[97]⟩ : ByteArray), ([] : List (SElem)), 0, 0, 0⟩ : SOp) [.int .i64 1, .int .i64 1, .int .i64 1, .int .i64 0, .int .i64 0, .int .i64 0, .string (⟨#[97]⟩ : ByteArray), .slice none 0 0, .int .i64 0, .int .i64 0, .int .i64 0] from (kOp_mkM _ _ _ (⟨1, 1, 1, (⟨0, 0, 0⟩ : SElem), (⟨#[97]⟩ : ByteArray), ([] : List (SElem)), 0, 0, 0⟩ : SOp) (Kd.R_nil _ _ _ _ _))) rfl (Reps.front (show Kd.M kOp _ _ _ (⟨2, 1, 1, (⟨0, 0, 0⟩ : SElem), (⟨#[98]⟩ : ByteArray), ([] : List (SElem)), 0, 0, 0⟩ : SOp) [.int .i64 2, .int .i64 1, .int .i64 1, .int .i64 0, .int .i64 0, .int .i64 0, .string (⟨#[98]⟩ : ByteArray), .slice none 0 0, .int .i64 0, .int .i64 0, .int .i64 0] from (kOp_mkM _ _ _ (⟨2, 1, 1, (⟨0, 0, 0⟩ : SElem), (⟨#[98]⟩ : ByteArray), ([] : List (SElem)), 0, 0, 0⟩ : SOp) (Kd.R_nil _ _ _ _ _))) rfl (Reps.none _ _) rfl) rfl)); intro v124 w15 ho16 hb hg_ hnew_; clear hg_ hnew_; (first | rw [← Ny123.out] at ho16 | (simp only [Int.reduceToNat] at ho16; rw [← Ny123.out] at ho16)); have n0_ := Aside0.mk (Kd.S_lower ho16 (below_size (by repeat (first | (with_reducible first | exact HB.out | apply below_alloc | apply pw_below_drewN | apply below_drew1) | exact HB.out)))); have n1_ := Aside0.mk (below_step (by repeat (first | (with_reducible first | exact HB.out | apply below_alloc | apply pw_below_drewN | apply below_drew1) | exact HB.out)) hb); clear HB; have HO125 := n0_; have HB := n1_; clear n0_ n1_; clear hb ho16; obtain ⟨Ao17, co17, eo17⟩ := Kd.S_slice HO125.out; subst eo17) | ((with_reducible refine gate_callee (f := 11) rfl ?_); refine goesL_ (some 9) rfl rfl Try.func11 (by kernel_rfl) rfl #[.slice Ao17 y123.length co17] rfl (by (try simp only [List.map_toArray, List.map_cons, List.map_nil]); first | done | rfl | (simp only [List.length_drop, List.length_take]; rfl)) ?_; (with_reducible refine (tree_Order.calls _ _ y123 t126 t127 _ ?side1 ?side2 A1.out).mono ?_); (case side1 => repeat (first | exact (Kd.S_reads' HO125.out).2.2 | (with_reducible refine Kd.C_alloc ?_ _) | (with_reducible refine Kd.C_drewN ?_ _) | (with_reducible refine Kd.C_drew ?_))); (case side2 => exact (Kd.S_reads' HO125.out).2.1); rintro e w18 ⟨v128, rfl, ho0, hb⟩; refine ⟨_, rfl, ?_⟩; have n0_ := Aside0.mk (Kd.S_elder' (by (with_reducible repeat (first | apply Kd.S_alloc | apply Kd.S_drewN | apply Kd.S_drew)); exact HO125.out) (Kd.R_base ho0) hb); have n1_ := Aside0.mk (Kd.R_lower ho0 (below_size (by repeat (first | (with_reducible first | exact HB.out | apply below_alloc | apply pw_below_drewN | apply below_drew1) | exact HB.out)))); have n2_ := Aside0.mk (below_step (by repeat (first | (with_reducible first | exact HB.out | apply below_alloc | apply pw_below_drewN | apply below_drew1) | exact HB.out)) hb); clear HO125; clear HB; have HO125 := n0_; have HO129 := n1_; have HB := n2_; clear n0_ n1_ n2_; (try clear hb); (try clear hb2); (try clear hk); (try clear hi); (try clear ho0)) | ((with_reducible refine gate_callee (f := 10) rfl ?_); refine goesL_ (some 13) rfl rfl Try.func10 (by kernel_rfl) rfl #[.slice Ao17 y123.length co17] rfl (by (try simp only [List.map_toArray, List.map_cons, List.map_nil]); first | done | rfl | (simp only [List.length_drop, List.length_take]; rfl)) ?_; (with_reducible refine (tree_Check.calls _ _ y123 t130 _ ?side1 ?side2 A2.out).mono ?_); (case side1 => repeat (first | exact (Kd.S_reads' HO125.out).2.2 | (with_reducible refine Kd.C_alloc ?_ _) | (with_reducible refine Kd.C_drewN ?_ _) | (with_reducible refine Kd.C_drew ?_))); (case side2 => exact (Kd.S_reads' HO125.out).2.1); rintro e w19 ⟨rfl, hb⟩; refine ⟨_, rfl, ?_⟩; have n0_ := Aside0.mk (Kd.S_below (by (with_reducible repeat (first | apply Kd.S_alloc | apply Kd.S_drewN | apply Kd.S_drew)); exact HO125.out) hb); have n1_ := Aside0.mk (Kd.R_below (by (with_reducible repeat (first | apply Kd.R_alloc | apply Kd.R_drewN | apply Kd.R_drew)); exact HO129.out) hb); have n2_ := Aside0.mk (below_step (by repeat (first | (with_reducible first | exact HB.out | apply below_alloc | apply pw_below_drewN | apply below_drew1) | exact HB.out)) hb); clear HO125; clear HO129; clear HB; have HO125 := n0_; have HO129 := n1_; have HB := n2_; clear n0_ n1_ n2_; (try clear hb); (try clear hb2); (try clear hk); (try clear hi)) | ((with_reducible refine gate_callee (f := 9) rfl ?_); refine goesL_ (some 14) rfl rfl Try.func9 (by kernel_rfl) rfl #[.int .i64 t130] rfl (by (try simp only [List.map_toArray, List.map_cons, List.map_nil]); first | done | rfl | (simp only [List.length_drop, List.length_take]; rfl)) ?_; (with_reducible refine (lectionarylaw5_num.calls t130 t131 _ A3.out).mono ?_); rintro e w' ⟨rfl, ⟨nd, rfl⟩⟩; refine ⟨_, rfl, ?_⟩) | (go_at_call 9; (with_reducible refine (lectionarylaw5_num.calls t127 t132 _ A5.out).mono ?_); rintro e w' ⟨rfl, ⟨nd, rfl⟩⟩; obtain ⟨Ao20, co20, eo20⟩ := Kd.R_slice HO129.out; subst eo20))
        go_ret
        exact ⟨by first | rfl | (simp [errW_none, errW_some] <;> rfl) | (simp [*, errW_none, errW_some] <;> rfl), by repeat (first | (with_reducible first | exact HB.out | apply below_alloc | apply pw_below_drewN | apply below_drew1) | exact HB.out)⟩
    · rw [if_neg c6] at H
      have c6b0 : (t132 == 0) = false := beq_eq_false_iff_ne.mpr c6
      have c6b1 : (t132 != 0) = true := bne_iff_ne.mpr c6
      obtain rfl := Option.some.inj H
      go_enter Try.func14, Try.ntmps14
      go_wp2_with (first | ((with_reducible refine gate_dst (N := 6) rfl ?_); (try (refine gate_guard (by rfl) ?_; dsimp only)); refine Kd.S_lit kOp _ 39 ?hg (N := 6) ?hd (xs := ([(⟨1, 1, 1, (⟨0, 0, 0⟩ : SElem), (⟨#[97]⟩ : ByteArray), ([] : List (SElem)), 0, 0, 0⟩ : SOp), (⟨2, 1, 1, (⟨0, 0, 0⟩ : SElem), (⟨#[98]⟩ : ByteArray), ([] : List (SElem)), 0, 0, 0⟩ : SOp)] : List (SOp))) (inner := [.int .i64 1, .int .i64 1, .int .i64 1, .int .i64 0, .int .i64 0, .int .i64 0, .string (⟨#[97]⟩ : ByteArray), .slice none 0 0, .int .i64 0, .int .i64 0, .int .i64 0, .int .i64 2, .int .i64 1, .int .i64 1, .int .i64 0, .int .i64 0, .int .i64 0, .string (⟨#[98]⟩ : ByteArray), .slice none 0 0, .int .i64 0, .int .i64 0, .int .i64 0]) (ok := fun _ => True) (okp := fun _ => True) ?hr ?hp (fun _ hk => hk) trivial (Below.refl _ _) (Nat.le_refl _) (by simp) ?_; (case hd => rfl); (case hg => rfl); (case hr => first | (go_simp; done) | (go_simp; rfl)); (case hp => exact (Reps.front (show Kd.M kOp _ _ _ (⟨1, 1, 1, (⟨0, 0, 0⟩ : SElem), (⟨#[97]⟩ : ByteArray), ([] : List (SElem)), 0, 0, 0⟩ : SOp) [.int .i64 1, .int .i64 1, .int .i64 1, .int .i64 0, .int .i64 0, .int .i64 0, .string (⟨#[97]⟩ : ByteArray), .slice none 0 0, .int .i64 0, .int .i64 0, .int .i64 0] from (kOp_mkM _ _ _ (⟨1, 1, 1, (⟨0, 0, 0⟩ : SElem), (⟨#[97]⟩ : ByteArray), ([] : List (SElem)), 0, 0, 0⟩ : SOp) (Kd.R_nil _ _ _ _ _))) rfl (Reps.front (show Kd.M kOp _ _ _ (⟨2, 1, 1, (⟨0, 0, 0⟩ : SElem), (⟨#[98]⟩ : ByteArray), ([] : List (SElem)), 0, 0, 0⟩ : SOp) [.int .i64 2, .int .i64 1, .int .i64 1, .int .i64 0, .int .i64 0, .int .i64 0, .string (⟨#[98]⟩ : ByteArray), .slice none 0 0, .int .i64 0, .int .i64 0, .int .i64 0] from (kOp_mkM _ _ _ (⟨2, 1, 1, (⟨0, 0, 0⟩ : SElem), (⟨#[98]⟩ : ByteArray), ([] : List (SElem)), 0, 0, 0⟩ : SOp) (Kd.R_nil _ _ _ _ _))) rfl (Reps.none _ _) rfl) rfl)); intro v124 w21 ho22 hb hg_ hnew_; clear hg_ hnew_; (first | rw [← Ny123.out] at ho22 | (simp only [Int.reduceToNat] at ho22; rw [← Ny123.out] at ho22)); have n0_ := Aside0.mk (Kd.S_lower ho22 (below_size (by repeat (first | (with_reducible first | exact HB.out | apply below_alloc | apply pw_below_drewN | apply below_drew1) | exact HB.out)))); have n1_ := Aside0.mk (below_step (by repeat (first | (with_reducible first | exact HB.out | apply below_alloc | apply pw_below_drewN | apply below_drew1) | exact HB.out)) hb); clear HB; have HO125 := n0_; have HB := n1_; clear n0_ n1_; clear hb ho22; obtain ⟨Ao23, co23, eo23⟩ := Kd.S_slice HO125.out; subst eo23) | ((with_reducible refine gate_callee (f := 11) rfl ?_); refine goesL_ (some 9) rfl rfl Try.func11 (by kernel_rfl) rfl #[.slice Ao23 y123.length co23] rfl (by (try simp only [List.map_toArray, List.map_cons, List.map_nil]); first | done | rfl | (simp only [List.length_drop, List.length_take]; rfl)) ?_; (with_reducible refine (tree_Order.calls _ _ y123 t126 t127 _ ?side1 ?side2 A1.out).mono ?_); (case side1 => repeat (first | exact (Kd.S_reads' HO125.out).2.2 | (with_reducible refine Kd.C_alloc ?_ _) | (with_reducible refine Kd.C_drewN ?_ _) | (with_reducible refine Kd.C_drew ?_))); (case side2 => exact (Kd.S_reads' HO125.out).2.1); rintro e w24 ⟨v128, rfl, ho0, hb⟩; refine ⟨_, rfl, ?_⟩; have n0_ := Aside0.mk (Kd.S_elder' (by (with_reducible repeat (first | apply Kd.S_alloc | apply Kd.S_drewN | apply Kd.S_drew)); exact HO125.out) (Kd.R_base ho0) hb); have n1_ := Aside0.mk (Kd.R_lower ho0 (below_size (by repeat (first | (with_reducible first | exact HB.out | apply below_alloc | apply pw_below_drewN | apply below_drew1) | exact HB.out)))); have n2_ := Aside0.mk (below_step (by repeat (first | (with_reducible first | exact HB.out | apply below_alloc | apply pw_below_drewN | apply below_drew1) | exact HB.out)) hb); clear HO125; clear HB; have HO125 := n0_; have HO129 := n1_; have HB := n2_; clear n0_ n1_ n2_; (try clear hb); (try clear hb2); (try clear hk); (try clear hi); (try clear ho0)) | ((with_reducible refine gate_callee (f := 10) rfl ?_); refine goesL_ (some 13) rfl rfl Try.func10 (by kernel_rfl) rfl #[.slice Ao23 y123.length co23] rfl (by (try simp only [List.map_toArray, List.map_cons, List.map_nil]); first | done | rfl | (simp only [List.length_drop, List.length_take]; rfl)) ?_; (with_reducible refine (tree_Check.calls _ _ y123 t130 _ ?side1 ?side2 A2.out).mono ?_); (case side1 => repeat (first | exact (Kd.S_reads' HO125.out).2.2 | (with_reducible refine Kd.C_alloc ?_ _) | (with_reducible refine Kd.C_drewN ?_ _) | (with_reducible refine Kd.C_drew ?_))); (case side2 => exact (Kd.S_reads' HO125.out).2.1); rintro e w25 ⟨rfl, hb⟩; refine ⟨_, rfl, ?_⟩; have n0_ := Aside0.mk (Kd.S_below (by (with_reducible repeat (first | apply Kd.S_alloc | apply Kd.S_drewN | apply Kd.S_drew)); exact HO125.out) hb); have n1_ := Aside0.mk (Kd.R_below (by (with_reducible repeat (first | apply Kd.R_alloc | apply Kd.R_drewN | apply Kd.R_drew)); exact HO129.out) hb); have n2_ := Aside0.mk (below_step (by repeat (first | (with_reducible first | exact HB.out | apply below_alloc | apply pw_below_drewN | apply below_drew1) | exact HB.out)) hb); clear HO125; clear HO129; clear HB; have HO125 := n0_; have HO129 := n1_; have HB := n2_; clear n0_ n1_ n2_; (try clear hb); (try clear hb2); (try clear hk); (try clear hi)) | ((with_reducible refine gate_callee (f := 9) rfl ?_); refine goesL_ (some 14) rfl rfl Try.func9 (by kernel_rfl) rfl #[.int .i64 t130] rfl (by (try simp only [List.map_toArray, List.map_cons, List.map_nil]); first | done | rfl | (simp only [List.length_drop, List.length_take]; rfl)) ?_; (with_reducible refine (lectionarylaw5_num.calls t130 t131 _ A3.out).mono ?_); rintro e w' ⟨rfl, ⟨nd, rfl⟩⟩; refine ⟨_, rfl, ?_⟩) | (go_at_call 9; (with_reducible refine (lectionarylaw5_num.calls t127 t132 _ A5.out).mono ?_); rintro e w' ⟨rfl, ⟨nd, rfl⟩⟩))
      go_ret
      exact ⟨by first | rfl | (simp [errW_none, errW_some] <;> rfl) | (simp [*, errW_none, errW_some] <;> rfl), by repeat (first | (with_reducible first | exact HB.out | apply below_alloc | apply pw_below_drewN | apply below_drew1) | exact HB.out)⟩
  · rw [if_neg c4] at H
    have c4b0 : (t131 == 0) = false := beq_eq_false_iff_ne.mpr c4
    have c4b1 : (t131 != 0) = true := bne_iff_ne.mpr c4
    obtain rfl := Option.some.inj H
    go_enter Try.func14, Try.ntmps14
    go_wp2_with (first | ((with_reducible refine gate_dst (N := 6) rfl ?_); (try (refine gate_guard (by rfl) ?_; dsimp only)); refine Kd.S_lit kOp _ 39 ?hg (N := 6) ?hd (xs := ([(⟨1, 1, 1, (⟨0, 0, 0⟩ : SElem), (⟨#[97]⟩ : ByteArray), ([] : List (SElem)), 0, 0, 0⟩ : SOp), (⟨2, 1, 1, (⟨0, 0, 0⟩ : SElem), (⟨#[98]⟩ : ByteArray), ([] : List (SElem)), 0, 0, 0⟩ : SOp)] : List (SOp))) (inner := [.int .i64 1, .int .i64 1, .int .i64 1, .int .i64 0, .int .i64 0, .int .i64 0, .string (⟨#[97]⟩ : ByteArray), .slice none 0 0, .int .i64 0, .int .i64 0, .int .i64 0, .int .i64 2, .int .i64 1, .int .i64 1, .int .i64 0, .int .i64 0, .int .i64 0, .string (⟨#[98]⟩ : ByteArray), .slice none 0 0, .int .i64 0, .int .i64 0, .int .i64 0]) (ok := fun _ => True) (okp := fun _ => True) ?hr ?hp (fun _ hk => hk) trivial (Below.refl _ _) (Nat.le_refl _) (by simp) ?_; (case hd => rfl); (case hg => rfl); (case hr => first | (go_simp; done) | (go_simp; rfl)); (case hp => exact (Reps.front (show Kd.M kOp _ _ _ (⟨1, 1, 1, (⟨0, 0, 0⟩ : SElem), (⟨#[97]⟩ : ByteArray), ([] : List (SElem)), 0, 0, 0⟩ : SOp) [.int .i64 1, .int .i64 1, .int .i64 1, .int .i64 0, .int .i64 0, .int .i64 0, .string (⟨#[97]⟩ : ByteArray), .slice none 0 0, .int .i64 0, .int .i64 0, .int .i64 0] from (kOp_mkM _ _ _ (⟨1, 1, 1, (⟨0, 0, 0⟩ : SElem), (⟨#[97]⟩ : ByteArray), ([] : List (SElem)), 0, 0, 0⟩ : SOp) (Kd.R_nil _ _ _ _ _))) rfl (Reps.front (show Kd.M kOp _ _ _ (⟨2, 1, 1, (⟨0, 0, 0⟩ : SElem), (⟨#[98]⟩ : ByteArray), ([] : List (SElem)), 0, 0, 0⟩ : SOp) [.int .i64 2, .int .i64 1, .int .i64 1, .int .i64 0, .int .i64 0, .int .i64 0, .string (⟨#[98]⟩ : ByteArray), .slice none 0 0, .int .i64 0, .int .i64 0, .int .i64 0] from (kOp_mkM _ _ _ (⟨2, 1, 1, (⟨0, 0, 0⟩ : SElem), (⟨#[98]⟩ : ByteArray), ([] : List (SElem)), 0, 0, 0⟩ : SOp) (Kd.R_nil _ _ _ _ _))) rfl (Reps.none _ _) rfl) rfl)); intro v124 w26 ho27 hb hg_ hnew_; clear hg_ hnew_; (first | rw [← Ny123.out] at ho27 | (simp only [Int.reduceToNat] at ho27; rw [← Ny123.out] at ho27)); have n0_ := Aside0.mk (Kd.S_lower ho27 (below_size (by repeat (first | (with_reducible first | exact HB.out | apply below_alloc | apply pw_below_drewN | apply below_drew1) | exact HB.out)))); have n1_ := Aside0.mk (below_step (by repeat (first | (with_reducible first | exact HB.out | apply below_alloc | apply pw_below_drewN | apply below_drew1) | exact HB.out)) hb); clear HB; have HO125 := n0_; have HB := n1_; clear n0_ n1_; clear hb ho27; obtain ⟨Ao28, co28, eo28⟩ := Kd.S_slice HO125.out; subst eo28) | ((with_reducible refine gate_callee (f := 11) rfl ?_); refine goesL_ (some 9) rfl rfl Try.func11 (by kernel_rfl) rfl #[.slice Ao28 y123.length co28] rfl (by (try simp only [List.map_toArray, List.map_cons, List.map_nil]); first | done | rfl | (simp only [List.length_drop, List.length_take]; rfl)) ?_; (with_reducible refine (tree_Order.calls _ _ y123 t126 t127 _ ?side1 ?side2 A1.out).mono ?_); (case side1 => repeat (first | exact (Kd.S_reads' HO125.out).2.2 | (with_reducible refine Kd.C_alloc ?_ _) | (with_reducible refine Kd.C_drewN ?_ _) | (with_reducible refine Kd.C_drew ?_))); (case side2 => exact (Kd.S_reads' HO125.out).2.1); rintro e w29 ⟨v128, rfl, ho0, hb⟩; refine ⟨_, rfl, ?_⟩; have n0_ := Aside0.mk (Kd.S_elder' (by (with_reducible repeat (first | apply Kd.S_alloc | apply Kd.S_drewN | apply Kd.S_drew)); exact HO125.out) (Kd.R_base ho0) hb); have n1_ := Aside0.mk (Kd.R_lower ho0 (below_size (by repeat (first | (with_reducible first | exact HB.out | apply below_alloc | apply pw_below_drewN | apply below_drew1) | exact HB.out)))); have n2_ := Aside0.mk (below_step (by repeat (first | (with_reducible first | exact HB.out | apply below_alloc | apply pw_below_drewN | apply below_drew1) | exact HB.out)) hb); clear HO125; clear HB; have HO125 := n0_; have HO129 := n1_; have HB := n2_; clear n0_ n1_ n2_; (try clear hb); (try clear hb2); (try clear hk); (try clear hi); (try clear ho0)) | ((with_reducible refine gate_callee (f := 10) rfl ?_); refine goesL_ (some 13) rfl rfl Try.func10 (by kernel_rfl) rfl #[.slice Ao28 y123.length co28] rfl (by (try simp only [List.map_toArray, List.map_cons, List.map_nil]); first | done | rfl | (simp only [List.length_drop, List.length_take]; rfl)) ?_; (with_reducible refine (tree_Check.calls _ _ y123 t130 _ ?side1 ?side2 A2.out).mono ?_); (case side1 => repeat (first | exact (Kd.S_reads' HO125.out).2.2 | (with_reducible refine Kd.C_alloc ?_ _) | (with_reducible refine Kd.C_drewN ?_ _) | (with_reducible refine Kd.C_drew ?_))); (case side2 => exact (Kd.S_reads' HO125.out).2.1); rintro e w30 ⟨rfl, hb⟩; refine ⟨_, rfl, ?_⟩; have n0_ := Aside0.mk (Kd.S_below (by (with_reducible repeat (first | apply Kd.S_alloc | apply Kd.S_drewN | apply Kd.S_drew)); exact HO125.out) hb); have n1_ := Aside0.mk (Kd.R_below (by (with_reducible repeat (first | apply Kd.R_alloc | apply Kd.R_drewN | apply Kd.R_drew)); exact HO129.out) hb); have n2_ := Aside0.mk (below_step (by repeat (first | (with_reducible first | exact HB.out | apply below_alloc | apply pw_below_drewN | apply below_drew1) | exact HB.out)) hb); clear HO125; clear HO129; clear HB; have HO125 := n0_; have HO129 := n1_; have HB := n2_; clear n0_ n1_ n2_; (try clear hb); (try clear hb2); (try clear hk); (try clear hi)) | ((with_reducible refine gate_callee (f := 9) rfl ?_); refine goesL_ (some 14) rfl rfl Try.func9 (by kernel_rfl) rfl #[.int .i64 t130] rfl (by (try simp only [List.map_toArray, List.map_cons, List.map_nil]); first | done | rfl | (simp only [List.length_drop, List.length_take]; rfl)) ?_; (with_reducible refine (lectionarylaw5_num.calls t130 t131 _ A3.out).mono ?_); rintro e w' ⟨rfl, ⟨nd, rfl⟩⟩; refine ⟨_, rfl, ?_⟩))
    go_ret
    exact ⟨by first | rfl | (simp [errW_none, errW_some] <;> rfl) | (simp [*, errW_none, errW_some] <;> rfl), by repeat (first | (with_reducible first | exact HB.out | apply below_alloc | apply pw_below_drewN | apply below_drew1) | exact HB.out)⟩
end Go.Proofs.Ytdahgnalojekdaa.L
end

section
namespace Go.Proofs.Ytdahgnalojekdaa.L
open Go.RowKit Go.Proofs.YtdahgnalojekdaaW.PrintWords Go.Proofs.YtdahgnalojekdaaW.PrintLast Go.Proofs.YtdahgnalojekdaaW.PrintMore
set_option linter.unusedVariables false
set_option linter.unusedSimpArgs false
structure GoodAsk (l0 : List (List SOp)) (l1 : List SElem) (l2 : List SOp) (l3 : List Int) : Prop where
  n0 : l0.length ≤ 140737488351232
  r0 : ∀ x ∈ l0, x.length ≤ 140737488351232 ∧ ∀ o ∈ x, o.f4.size ≤ 140737488351232 ∧ o.f5.length ≤ 140737488351232
  n1 : l1.length ≤ 140737488351232
  n2 : l2.length ≤ 140737488351232
  r2 : ∀ o ∈ l2, o.f4.size ≤ 140737488351232 ∧ o.f5.length ≤ 140737488351232
  n3 : l3.length ≤ 140737488351232
theorem wrapS {i n : Nat} (h : i < n) (hn : n ≤ 4611686018427387904) : wrap64 ((i : Int) + 1) = ((i + 1 : Nat) : Int) := by
  rw [wrap64_small (by omega) (by omega)]; omega
theorem OpsWeight_some (l : List SOp) (hl : l.length ≤ 140737488351232) : ∀ d i (t : Int), i + d = l.length → ∃ r, Ev (fun k => lectionarylaw0_OpsWeight.l0 k l t (i : Int)) r
  | 0, i, t, h => ⟨t, Ev.step (f := fun _ => some t) (fun k => by simp only [lectionarylaw0_OpsWeight.l0]; rw [if_neg (by omega)]) (Ev.now _)⟩
  | d + 1, i, t, h => by
    by_cases ht : t < 1048576
    · obtain ⟨r, hr⟩ := OpsWeight_some l hl d (i + 1) (wrap64 (t + (wrap64 ((wrap64 (2 + (wrap64 (((rd_Op l (i : Int)).f4.size : Int) / 4)))) + ((rd_Op l (i : Int)).f5.length : Int))))) (by omega)
      refine ⟨r, Ev.step (fun k => ?_) hr⟩
      simp only [lectionarylaw0_OpsWeight.l0]
      rw [if_pos (by omega), if_pos ht, if_pos (by omega), wrapS (show i < l.length by omega) (by omega)]
      rfl
    · exact ⟨t, Ev.step (f := fun _ => some t) (fun k => by simp only [lectionarylaw0_OpsWeight.l0]; rw [if_pos (by omega), if_neg ht]) (Ev.now _)⟩
theorem rd_LOp_mem (l : List (List SOp)) (i : Nat) (h : i < l.length) : rd_LOp l (i : Int) ∈ l := by
  unfold rd_LOp; simp [h]
theorem Heavy_loop {l0 : List (List SOp)} {l1 : List SElem} {l2 : List SOp} {l3 : List Int} (hg : GoodAsk l0 l1 l2 l3) : ∀ d i (t : Int), i + d = l0.length → ∃ r, Ev (fun k => lectionarylaw5_Heavy.l0 k t (i : Int) l0 l1 l2 l3) r
  | 0, i, t, h => ⟨_, Ev.step (f := fun _ => some (decide (t > 900))) (fun k => by simp only [lectionarylaw5_Heavy.l0]; rw [if_neg (by omega)]) (Ev.now _)⟩
  | d + 1, i, t, h => by
    by_cases ht : t < 1048576
    · have hm := rd_LOp_mem l0 i (by omega)
      obtain ⟨q, hq⟩ := OpsWeight_some (rd_LOp l0 (i : Int)) (hg.r0 _ hm).1 _ 0 ((rd_LOp l0 (i : Int)).length : Int) (Nat.zero_add _)
      obtain ⟨r, hr⟩ := Heavy_loop hg d (i + 1) (wrap64 (t + q)) (by omega)
      refine ⟨r, Ev.step (fun k => ?_) (Ev.bind (f := fun k q => lectionarylaw5_Heavy.l0 k (wrap64 (t + q)) ((i + 1 : Nat) : Int) l0 l1 l2 l3) hq hr)⟩
      simp only [lectionarylaw5_Heavy.l0]
      have hn := hg.n0
      rw [if_pos (by omega), if_pos ht, if_pos (by omega), wrapS (show i < l0.length by omega) (by omega)]
      rfl
    · exact ⟨_, Ev.step (f := fun _ => some (decide (t > 900))) (fun k => by simp only [lectionarylaw5_Heavy.l0]; rw [if_pos (by omega), if_neg ht]) (Ev.now _)⟩
theorem Heavy_some {l0 : List (List SOp)} {l1 : List SElem} {l2 : List SOp} {l3 : List Int} (hg : GoodAsk l0 l1 l2 l3) : ∃ r, Ev (fun k => lectionarylaw5_Heavy.f k l0 l1 l2 l3) r := by
  obtain ⟨q, hq⟩ := OpsWeight_some l2 hg.n2 _ 0 (l2.length : Int) (Nat.zero_add _)
  obtain ⟨r, hr⟩ := Heavy_loop hg _ 0 (wrap64 ((wrap64 ((l1.length : Int) + (l3.length : Int))) + q)) (Nat.zero_add _)
  exact ⟨r, Ev.bind (f := fun k q => lectionarylaw5_Heavy.l0 k (wrap64 ((wrap64 ((l1.length : Int) + (l3.length : Int))) + q)) 0 l0 l1 l2 l3) hq hr⟩
theorem good_smalls {l : List SOp} (h : l.length ≤ 140737488351232 ∧ ∀ o ∈ l, o.f4.size ≤ 140737488351232 ∧ o.f5.length ≤ 140737488351232) : smalls l = true := by
  unfold smalls SmB
  simp only [Bool.and_eq_true, decide_eq_true_eq, List.all_eq_true]
  exact ⟨by omega, fun o ho => by have := h.2 o ho; omega⟩
theorem smalls_take {l : List SOp} (h : smalls l = true) (n : Nat) : smalls (l.take n) = true := by
  unfold smalls at h ⊢
  simp only [Bool.and_eq_true, decide_eq_true_eq, List.all_eq_true] at h ⊢
  exact ⟨by rw [List.length_take]; omega, fun o ho => h.2 o (List.mem_of_mem_take ho)⟩
theorem tree_May_f {l : List SOp} (h : smalls l = true) : tree_May.f l = some (mayB l) := by unfold tree_May.f; rw [if_pos h]
theorem tree_Check_f {l : List SOp} (h : smalls l = true) : tree_Check.f l = some (if mayB l = true then 0 else 1) := by
  unfold tree_Check.f
  rw [tree_May_f h]
  cases mayB l <;> rfl
theorem tree_Order_ok {l : List SOp} (h : smalls l = true) (hr : RowOk l) : tree_Order.f l = some (ordL l, 0) := by
  unfold tree_Order.f
  rw [tree_May_f h, (mayB_iff l).2 hr, Option.bind_some, if_pos rfl, tree_All_f h hr]
  rfl
def idxE (l : List SElem) (e : SElem) : Int := firstAt (fun i => decide (rd_Elem l (i : Int) = e)) l.length l.length 0
theorem eqE_iff (x : SElem) (a b c : Int) : (x.f0 == a && (x.f1 == b && (x.f2 == c))) = decide (x = ⟨a, b, c⟩) := by
  rw [Bool.eq_iff_iff]
  simp only [Bool.and_eq_true, beq_iff_eq, decide_eq_true_eq]
  exact ⟨fun h => SElem.ext3 h.1 h.2.1 h.2.2, fun h => by subst h; exact ⟨rfl, rfl, rfl⟩⟩
theorem At_loop (l : List SElem) (hl : l.length ≤ 1000000000) (a b c : Int) : ∀ d i, i + d = l.length → Ev (fun k => lectionaryref0_At.l0 k l (i : Int) a b c) (firstAt (fun i => decide (rd_Elem l (i : Int) = ⟨a, b, c⟩)) l.length d i)
  | 0, i, h => Ev.step (f := fun _ => some (-1)) (fun k => by simp only [lectionaryref0_At.l0]; rw [if_neg (by omega)]) (Ev.now _)
  | d + 1, i, h => by
    have ih := At_loop l hl a b c d (i + 1) (by omega)
    unfold firstAt
    rw [if_pos (show i < l.length by omega)]
    by_cases he : rd_Elem l (i : Int) = ⟨a, b, c⟩
    · rw [if_pos (by simp [he])]
      refine Ev.step (f := fun _ => some (i : Int)) (fun k => ?_) (Ev.now _)
      simp only [lectionaryref0_At.l0, eqE_iff]
      rw [if_pos (by omega), if_pos (by omega), if_pos (by simp [he])]
    · rw [if_neg (by simp [he])]
      refine Ev.step (fun k => ?_) ih
      simp only [lectionaryref0_At.l0, eqE_iff]
      rw [if_pos (by omega), if_pos (by omega), if_neg (by simp [he]), wrapS (show i < l.length by omega) (by omega)]
theorem At_ev (l : List SElem) (hl : l.length ≤ 1000000000) (e : SElem) : Ev (fun k => lectionaryref0_At.f k l e.f0 e.f1 e.f2) (idxE l e) :=
  At_loop l hl e.f0 e.f1 e.f2 l.length 0 (Nat.zero_add _)
theorem idxE_cases (l : List SElem) (e : SElem) : (∃ i, ∃ h : i < l.length, l[i] = e ∧ (∀ j (hj : j < i), l[j]'(by omega) ≠ e) ∧ idxE l e = (i : Int)) ∨ (e ∉ l ∧ idxE l e = -1) := by
  unfold idxE
  rcases firstAt_cases (fun i => decide (rd_Elem l (i : Int) = e)) l.length with ⟨i, h1, h2, h3, h4⟩ | ⟨h1, h2⟩
  · refine .inl ⟨i, h1, ?_, fun j hj => ?_, h4⟩
    · rw [rd_Elem_nat _ _ h1] at h2; simpa using h2
    · have := h3 j hj
      rw [rd_Elem_nat _ _ (by omega)] at this; simpa using this
  · refine .inr ⟨fun hm => ?_, h2⟩
    obtain ⟨i, hi, rfl⟩ := List.getElem_of_mem hm
    have := h1 i hi
    rw [rd_Elem_nat _ _ hi] at this; simp at this
theorem idxE_nonneg (l : List SElem) (e : SElem) : 0 ≤ idxE l e ↔ e ∈ l := by
  rcases idxE_cases l e with ⟨i, h, rfl, _, e'⟩ | ⟨hn, e'⟩
  · rw [e']; exact ⟨fun _ => List.getElem_mem h, fun _ => by omega⟩
  · rw [e']; exact ⟨fun h => by omega, fun h => absurd h hn⟩
theorem EqElems_loop (a b : List SElem) (hab : a.length = b.length) (hl : a.length ≤ 1000000000) : ∀ d i, i + d = a.length → Ev (fun k => lectionaryref0_EqElems.l0 k a b (i : Int)) (decide (a.drop i = b.drop i))
  | 0, i, h => by
    rw [List.drop_eq_nil_of_le (by omega), List.drop_eq_nil_of_le (by omega)]
    exact Ev.step (f := fun _ => some true) (fun k => by simp only [lectionaryref0_EqElems.l0]; rw [if_neg (by omega)]) (Ev.now _)
  | d + 1, i, h => by
    have ih := EqElems_loop a b hab hl d (i + 1) (by omega)
    have ha : i < a.length := by omega
    have hb : i < b.length := by omega
    rw [List.drop_eq_getElem_cons ha, List.drop_eq_getElem_cons hb]
    have hc : (!(((rd_Elem a (i : Int)).f0) == ((rd_Elem b (i : Int)).f0)) || (!(((rd_Elem a (i : Int)).f1) == ((rd_Elem b (i : Int)).f1)) || (!(((rd_Elem a (i : Int)).f2) == ((rd_Elem b (i : Int)).f2))))) = !decide (a[i] = b[i]) := by
      rw [rd_Elem_nat _ _ ha, rd_Elem_nat _ _ hb]
      have := eqE_iff a[i] b[i].f0 b[i].f1 b[i].f2
      rw [← this]
      cases a[i].f0 == b[i].f0 <;> cases a[i].f1 == b[i].f1 <;> cases a[i].f2 == b[i].f2 <;> rfl
    by_cases he : a[i] = b[i]
    · have : decide (a[i] :: a.drop (i + 1) = b[i] :: b.drop (i + 1)) = decide (a.drop (i + 1) = b.drop (i + 1)) := decide_eq_decide.2 (by rw [List.cons.injEq]; exact ⟨fun h => h.2, fun h => ⟨he, h⟩⟩)
      rw [this]
      refine Ev.step (fun k => ?_) ih
      simp only [lectionaryref0_EqElems.l0, hc]
      rw [if_pos (by omega), if_pos (by omega), if_pos (by omega), if_neg (by simp [he]), wrapS ha (by omega)]
    · have : decide (a[i] :: a.drop (i + 1) = b[i] :: b.drop (i + 1)) = false := decide_eq_false (by rw [List.cons.injEq]; exact fun h => he h.1)
      rw [this]
      refine Ev.step (f := fun _ => some false) (fun k => ?_) (Ev.now _)
      simp only [lectionaryref0_EqElems.l0, hc]
      rw [if_pos (by omega), if_pos (by omega), if_pos (by omega), if_pos (by simp [he])]
theorem EqElems_ev (a b : List SElem) (hl : a.length ≤ 1000000000) : Ev (fun k => lectionaryref0_EqElems.f k a b) (decide (a = b)) := by
  by_cases hab : a.length = b.length
  · have := EqElems_loop a b hab hl a.length 0 (Nat.zero_add _)
    simp only [List.drop_zero] at this
    refine Ev.congr (fun k => ?_) this
    unfold lectionaryref0_EqElems.f
    rw [if_pos (by omega)]
    rfl
  · have : decide (a = b) = false := by simp; rintro rfl; exact hab rfl
    rw [this]
    refine Ev.congr (fun k => ?_) (Ev.now false)
    unfold lectionaryref0_EqElems.f
    rw [if_neg (by omega)]
end Go.Proofs.Ytdahgnalojekdaa.L
end

section
namespace Go.Proofs.Ytdahgnalojekdaa.L
open Go.RowKit Go.Proofs.YtdahgnalojekdaaW.PrintWords Go.Proofs.YtdahgnalojekdaaW.PrintLast Go.Proofs.YtdahgnalojekdaaW.PrintMore
set_option linter.unusedVariables false
set_option linter.unusedSimpArgs false
theorem bytes1 {n B : Nat} (hB : 1 ≤ B) (h : n * B ≤ reachBytes) : n ≤ 140737488351232 := Nat.le_trans (Nat.le_mul_of_pos_right n hB) h
theorem GoodOp.le {o : SOp} (h : GoodOp o) : o.f4.size ≤ 140737488351232 ∧ o.f5.length ≤ 140737488351232 := ⟨h.1, bytes1 (of_decide_eq_true (by kernel_rfl)) h.2⟩
theorem GoodAsk.of {l0 : List (List SOp)} {l1 : List SElem} {l2 : List SOp} {l3 : List Int}
    (h0 : l0.length * Try.prog.bytesOf 24 ≤ reachBytes ∧ ∀ x ∈ l0, x.length * Try.prog.bytesOf 39 ≤ reachBytes ∧ ∀ o ∈ x, GoodOp o)
    (h1 : l1.length * Try.prog.bytesOf 36 ≤ reachBytes ∧ ∀ x ∈ l1, (Lit.int .i64 x.f0).wf = true ∧ (Lit.int .i64 x.f1).wf = true ∧ (Lit.int .i64 x.f2).wf = true)
    (h2 : l2.length * Try.prog.bytesOf 39 ≤ reachBytes ∧ ∀ x ∈ l2, GoodOp x) (h3 : l3.length * Try.prog.bytesOf 3 ≤ reachBytes ∧ ∀ x ∈ l3, (Lit.int .i64 x).wf = true) : GoodAsk l0 l1 l2 l3 :=
  ⟨bytes1 (of_decide_eq_true (by kernel_rfl)) h0.1, fun x hx => ⟨bytes1 (of_decide_eq_true (by kernel_rfl)) (h0.2 x hx).1, fun o ho => ((h0.2 x hx).2 o ho).le⟩, bytes1 (of_decide_eq_true (by kernel_rfl)) h1.1, bytes1 (of_decide_eq_true (by kernel_rfl)) h2.1, fun o ho => (h2.2 o ho).le, bytes1 (of_decide_eq_true (by kernel_rfl)) h3.1⟩
theorem agg_of_cells {v : Value} {a b : Value} {l : List Value} (h : v.cells.toList = a :: b :: l) : v = .agg (a :: b :: l).toArray := by
  cases v <;> simp [Value.cells] at h
  rw [← h]
theorem opens_Ask (H : Type) : ∀ (enc : TypeId × Value → H) (W : World) (base : Nat) (sp : Nat → Bool) (held : Bool) (fuel : Nat) (cs : List Value) (x : DataW H × List MemPlace), DataW.trod enc Try.prog W base sp held fuel 27 cs = some x → lightW Try.prog 27 x.1 →
    ∃ A0 c0 l0 A1 c1 l1 A2 c2 l2 A3 c3 l3, cs = [.slice A0 l0.length c0, .slice A1 l1.length c1, .slice A2 l2.length c2, .slice A3 l3.length c3] ∧ Kd.C (Kd.slice 39 kOp) W A0 l0.length l0 ∧ l0.length ≤ c0 ∧ Kd.C kElem W A1 l1.length l1 ∧ l1.length ≤ c1 ∧ Kd.C kOp W A2 l2.length l2 ∧ l2.length ≤ c2 ∧ Kd.C (Kd.int .i64) W A3 l3.length l3 ∧ l3.length ≤ c3 ∧ GoodAsk l0 l1 l2 l3 := by
  intro enc W base sp held fuel cs x h hl
  have hS := Opens.struct (H := H) Try.underlying27 (by kernel_rfl)
    (OpensF.cons (opens_LOps H) (by kernel_rfl) rfl rfl (OpensF.cons (opens_Elems H) (by kernel_rfl) rfl rfl (OpensF.cons (opens_Ops H) (by kernel_rfl) rfl rfl (OpensF.last (opens_Ints H) (by kernel_rfl) rfl rfl))))
  obtain ⟨⟨l0, l1, l2, l3⟩, hp, hg⟩ := hS enc W base sp held fuel cs x h hl
  obtain ⟨_, _, rfl, ⟨A0, c0, rfl, h0, g0⟩, ⟨_, _, rfl, ⟨A1, c1, rfl, h1, g1⟩, ⟨_, _, rfl, ⟨A2, c2, rfl, h2, g2⟩, ⟨A3, c3, rfl, h3, g3⟩⟩⟩⟩ := hp
  exact ⟨A0, c0, l0, A1, c1, l1, A2, c2, l2, A3, c3, l3, rfl, g0, h0, g1, h1, g2, h2, g3, h3, GoodAsk.of hg.1 hg.2.1 hg.2.2.1 hg.2.2.2⟩
end Go.Proofs.Ytdahgnalojekdaa.L
end
