/- Part 11 of the proof that for every argument that fits in memory the law TreeStays answers true: with an op more no two elements that were there change their order, and what it writes stands side by side right behind what it was written behind; no condition is laid. -/
import Derived.Test.YtdahgnalojekdaaZTS10
section
namespace Go.Proofs.Ytdahgnalojekdaa.L
open Go.RowKit Go.Proofs.YtdahgnalojekdaaW.PrintWords Go.Proofs.YtdahgnalojekdaaW.PrintLast Go.Proofs.YtdahgnalojekdaaW.PrintMore
set_option linter.unusedVariables false
set_option linter.unusedSimpArgs false
theorem wakes5_f : lectionarylaw5_wakes.f = some true := by decide +kernel
section
variable {l0 : List (List SOp)} {l1 : List SElem} {l2 : List SOp} {l3 : List Int}
theorem TS_l3 (i n : Int) (last x : List SElem) (o : SOp) (a s : Nat) (hlen : x.length = last.length + s) (hx : x.length ≤ 1000) (ha : a + s ≤ 1000) (hat : ∀ j, j < s → x[a + j]? = some ⟨o.f0, o.f1, (j : Int)⟩)
    (hnext : Ev (fun k => lectionarylaw5_TreeStays.l1 k i x (wrap64 (n + 1)) l0 l1 l2 l3) true) : ∀ d j, j + d = s →
    Ev (fun k => lectionarylaw5_TreeStays.l3 k i last n x (a : Int) ((a + j : Nat) : Int) l0 l1 l2 l3 o.f0 o.f1 o.f2 o.f3.f0 o.f3.f1 o.f3.f2 o.f4 o.f5 o.f6 o.f7 o.f8) true
  | 0, j, h => by
    have hb : wrap64 (wrap64 ((a : Int) + (x.length : Int)) - (last.length : Int)) = ((a + s : Nat) : Int) := by
      rw [wrap64_small (i := (a : Int) + (x.length : Int)) (by omega) (by omega), wrap64_small (by omega) (by omega)]; omega
    refine Ev.step (fun k => ?_) hnext
    simp only [lectionarylaw5_TreeStays.l3]
    rw [hb, if_neg (by omega)]
  | d + 1, j, h => by
    have hb : wrap64 (wrap64 ((a : Int) + (x.length : Int)) - (last.length : Int)) = ((a + s : Nat) : Int) := by
      rw [wrap64_small (i := (a : Int) + (x.length : Int)) (by omega) (by omega), wrap64_small (by omega) (by omega)]; omega
    have ih := TS_l3 i n last x o a s hlen hx ha hat hnext d (j + 1) (by omega)
    have hj := hat j (by omega)
    obtain ⟨hlt, he⟩ := List.getElem?_eq_some_iff.1 hj
    refine Ev.step (fun k => ?_) (Ev.step (g := fun k => lectionarylaw5_TreeStays.j7 k i last n x (a : Int) ((a + j : Nat) : Int) false l0 l1 l2 l3 o.f0 o.f1 o.f2 o.f3.f0 o.f3.f1 o.f3.f2 o.f4 o.f5 o.f6 o.f7 o.f8) (fun k => ?_) ih)
    · simp only [lectionarylaw5_TreeStays.l3]
      rw [hb, if_pos (by omega), if_neg (by omega), if_pos (by omega), if_pos (by omega), rd_Elem_nat _ _ hlt, he, if_pos rfl, if_pos rfl, wrap64_small (by omega) (by omega)]
      have : ((j : Int) != ((a + j : Nat) : Int) - (a : Int)) = false := by rw [bne_eq_false_iff_eq]; omega
      rw [this]
    · simp only [lectionarylaw5_TreeStays.j7]
      rw [if_neg (by decide), wrapS (show a + j < 2000 by omega) (by omega)]
      rfl
theorem filter_take (x last : List SElem) (j : Nat) (h : j < x.length) : (x.take (j + 1)).filter (fun e => decide (e ∈ last)) = (x.take j).filter (fun e => decide (e ∈ last)) ++ (if x[j] ∈ last then [x[j]] else []) := by
  rw [List.take_succ_eq_append_getElem h, List.filter_append]
  by_cases hm : x[j] ∈ last <;> simp [hm]
theorem TS_l2 (i n : Int) (last x : List SElem) (hx : x.length ≤ 1000) (hl : last.length ≤ 1000)
    (hexit : Ev (fun k => lectionarylaw5_TreeStays.l2 k i last n x (x.filter fun e => decide (e ∈ last)) (x.length : Int) l0 l1 l2 l3) true) : ∀ d j, j + d = x.length →
    Ev (fun k => lectionarylaw5_TreeStays.l2 k i last n x ((x.take j).filter fun e => decide (e ∈ last)) (j : Int) l0 l1 l2 l3) true
  | 0, j, h => by
    obtain rfl : j = x.length := by omega
    rw [List.take_length]; exact hexit
  | d + 1, j, h => by
    have ih := TS_l2 i n last x hx hl hexit d (j + 1) (by omega)
    have hlt : j < x.length := by omega
    rw [filter_take x last j hlt] at ih
    have hA := At_ev last (by omega) x[j]
    have hfl : ((x.take j).filter fun e => decide (e ∈ last)).length ≤ 1000 := Nat.le_trans (List.length_filter_le _ _) (by rw [List.length_take]; omega)
    refine Ev.step (fun k => ?_) (Ev.bind (f := fun k t => if t ≥ 0 then (if ((x.take j).filter fun e => decide (e ∈ last)).length < 5864062014805 then lectionarylaw5_TreeStays.l2 k i last n x (((x.take j).filter fun e => decide (e ∈ last)) ++ [x[j]]) ((j + 1 : Nat) : Int) l0 l1 l2 l3 else none)
        else lectionarylaw5_TreeStays.l2 k i last n x ((x.take j).filter fun e => decide (e ∈ last)) ((j + 1 : Nat) : Int) l0 l1 l2 l3) hA ?_)
    · simp only [lectionarylaw5_TreeStays.l2]
      rw [if_pos (by omega), if_pos (by omega), rd_Elem_nat _ _ hlt, wrapS hlt (by omega)]
    · by_cases hm : x[j] ∈ last
      · rw [if_pos hm] at ih
        refine Ev.congr (fun k => ?_) ih
        rw [if_pos ((idxE_nonneg last x[j]).2 hm), if_pos (by omega)]
      · rw [if_neg hm, List.append_nil] at ih
        refine Ev.congr (fun k => ?_) ih
        rw [if_neg (fun h => hm ((idxE_nonneg last x[j]).1 h))]
theorem TS_tail (i n : Nat) (L : List SOp) (hi : i < l0.length) (hL : rd_LOp l0 (i : Int) = L) (hn : n < L.length) (h40 : L.length ≤ 40) (last x : List SElem) (hx : x.length ≤ 1000) (hl : last.length ≤ 1000) (hf : (x.filter fun e => decide (e ∈ last)) = last)
    (hlen : x.length = last.length + sizeOf' L[n])
    (hb : isBegin L[n].f3 = true → ∀ j, j < sizeOf' L[n] → x[j]? = some ⟨L[n].f0, L[n].f1, (j : Int)⟩)
    (hnb : isBegin L[n].f3 = false → ∃ p, x[p]? = some L[n].f3 ∧ (∀ j, j < p → ∀ e, x[j]? = some e → e ≠ L[n].f3) ∧ ∀ j, j < sizeOf' L[n] → x[p + 1 + j]? = some ⟨L[n].f0, L[n].f1, (j : Int)⟩)
    (hnext : Ev (fun k => lectionarylaw5_TreeStays.l1 k (i : Int) x (wrap64 ((n : Int) + 1)) l0 l1 l2 l3) true) :
    Ev (fun k => lectionarylaw5_TreeStays.l2 k (i : Int) last (n : Int) x (x.filter fun e => decide (e ∈ last)) (x.length : Int) l0 l1 l2 l3) true := by
  have hE := EqElems_ev (x.filter fun e => decide (e ∈ last)) last (by rw [hf]; omega)
  rw [hf] at hE
  have hro : rd_Op L (n : Int) = L[n] := rd_Op_nat _ _ hn
  rw [hf]
  simp only [decide_true] at hE
  have h12 : sizeOf' L[n] ≤ x.length := by omega
  obtain ⟨F, hF⟩ : ∃ F : Nat → Option Bool, F = (fun k => if (L[n].f4).toList = ([] : List UInt8) then (lectionarylaw5_TreeStays.l1 k (i : Int) x (wrap64 ((n : Int) + 1)) l0 l1 l2 l3) else (if (!(L[n].f3.f0 == 0) || (!(L[n].f3.f1 == 0) || (!(L[n].f3.f2 == 0)))) = true then ((lectionaryref0_At.f k x (L[n].f3.f0) (L[n].f3.f1) (L[n].f3.f2)).bind fun t161 => (if (wrap64 (t161 + 1)) = 0 then (some false) else (lectionarylaw5_TreeStays.j5 k (i : Int) last (n : Int) x (wrap64 (t161 + 1)) l0 l1 l2 l3 L[n].f0 L[n].f1 L[n].f2 L[n].f3.f0 L[n].f3.f1 L[n].f3.f2 L[n].f4 L[n].f5 L[n].f6 L[n].f7 L[n].f8)))
      else (lectionarylaw5_TreeStays.j5 k (i : Int) last (n : Int) x 0 l0 l1 l2 l3 L[n].f0 L[n].f1 L[n].f2 L[n].f3.f0 L[n].f3.f1 L[n].f3.f2 L[n].f4 L[n].f5 L[n].f6 L[n].f7 L[n].f8))) := ⟨_, rfl⟩
  have key : Ev F true := by
    rw [hF]
    by_cases he : (L[n].f4).toList = ([] : List UInt8)
    · simp only [if_pos he]; exact hnext
    · simp only [if_neg he]
      have hbe : (!(L[n].f3.f0 == 0) || (!(L[n].f3.f1 == 0) || (!(L[n].f3.f2 == 0)))) = !isBegin L[n].f3 := by
        unfold isBegin; cases L[n].f3.f0 == 0 <;> cases L[n].f3.f1 == 0 <;> cases L[n].f3.f2 == 0 <;> rfl
      cases hbg : isBegin L[n].f3
      · rw [hbg] at hbe
        simp only [hbe, Bool.not_false, if_true]
        obtain ⟨p, hp, hpb, hpa⟩ := hnb hbg
        obtain ⟨hpl, hpe⟩ := List.getElem?_eq_some_iff.1 hp
        have hix : idxE x L[n].f3 = (p : Int) := by
          rcases idxE_cases x L[n].f3 with ⟨q, hq, hqe, hqb, e⟩ | ⟨hno, _⟩
          · rw [e]
            rcases Nat.lt_trichotomy q p with h | rfl | h
            · exact absurd hqe (hpb q h _ (List.getElem?_eq_getElem hq))
            · rfl
            · exact absurd hpe (hqb p h)
          · exact absurd (List.mem_of_getElem? hp) hno
        have hsz := size_pos (o := L[n]) (by cases hz : L[n].f4.toList.isEmpty; rfl; exact absurd (List.isEmpty_iff.1 hz) he)
        obtain ⟨hlast, _⟩ := List.getElem?_eq_some_iff.1 (hpa (sizeOf' L[n] - 1) (by omega))
        have hl3 := TS_l3 (l0 := l0) (l1 := l1) (l2 := l2) (l3 := l3) (i : Int) (n : Int) last x L[n] (p + 1) (sizeOf' L[n]) hlen hx (by omega) hpa hnext _ 0 (Nat.zero_add _)
        refine Ev.bind (At_ev x (by omega) L[n].f3) ?_
        rw [hix, wrapS hpl (by omega)]
        refine Ev.congr (fun k => ?_) (Ev.step (g := fun k => lectionarylaw5_TreeStays.j5 k (i : Int) last (n : Int) x ((p + 1 : Nat) : Int) l0 l1 l2 l3 L[n].f0 L[n].f1 L[n].f2 L[n].f3.f0 L[n].f3.f1 L[n].f3.f2 L[n].f4 L[n].f5 L[n].f6 L[n].f7 L[n].f8) (fun k => ?_) hl3)
        · rw [if_neg (by omega)]
        · simp only [lectionarylaw5_TreeStays.j5, Nat.add_zero]
      · rw [hbg] at hbe
        simp only [hbe, Bool.not_true, Bool.false_eq_true, if_false]
        have hl3 := TS_l3 (l0 := l0) (l1 := l1) (l2 := l2) (l3 := l3) (i : Int) (n : Int) last x L[n] 0 (sizeOf' L[n]) hlen hx (by omega) (fun j hj => by rw [Nat.zero_add]; exact hb hbg j hj) hnext _ 0 (Nat.zero_add _)
        exact Ev.step (fun k => by simp only [lectionarylaw5_TreeStays.j5]; rfl) hl3
  refine Ev.step (fun k => ?_) (Ev.bind (f := fun k t => if t = true then F k else some false) hE (Ev.congr (fun k => if_pos rfl) key))
  simp only [lectionarylaw5_TreeStays.l2]
  rw [if_neg (by omega), hL, if_pos (by omega), if_pos (by omega), if_pos (by omega), if_pos (by omega), hro, hF]
theorem TS_l1 (i : Nat) (L : List SOp) (hi : i < l0.length) (hL : rd_LOp l0 (i : Int) = L) (hs : smalls L = true) (hr : RowOk L)
    (hnext : Ev (fun k => lectionarylaw5_TreeStays.l0 k (wrap64 ((i : Int) + 1)) l0 l1 l2 l3) true) : ∀ d n, n + d = L.length →
    Ev (fun k => lectionarylaw5_TreeStays.l1 k (i : Int) (ordL (L.take n)) (n : Int) l0 l1 l2 l3) true
  | 0, n, h => by
    refine Ev.step (fun k => ?_) hnext
    simp only [lectionarylaw5_TreeStays.l1]
    rw [if_pos (by omega), if_pos (by omega), hL, if_neg (by omega)]
  | d + 1, n, h => by
    have hn : n < L.length := by omega
    have h40 := hr.sums
    obtain ⟨hno, hrn⟩ := isPrefix_next hr n hn
    have hr1 := hr.take (n + 1)
    have ht1 := List.take_succ_eq_append_getElem hn
    have ih := TS_l1 i L hi hL hs hr hnext d (n + 1) (by omega)
    have hw : wrap64 ((n : Int) + 1) = ((n + 1 : Nat) : Int) := wrapS hn (by omega)
    have hlx : (ordL (L.take (n + 1))).length ≤ 1000 := by rw [(ordL_nodup hr1).2]; have := hr1.sums; omega
    have hll : (ordL (L.take n)).length ≤ 1000 := by rw [(ordL_nodup hrn).2]; have := hrn.sums; omega
    have hlen : (ordL (L.take (n + 1))).length = (ordL (L.take n)).length + sizeOf' L[n] := by rw [ht1]; exact stays_len hrn hno
    have hfil : (ordL (L.take (n + 1))).filter (fun e => decide (e ∈ ordL (L.take n))) = ordL (L.take n) := by rw [ht1]; exact stays_filter hrn hno
    have hexit := TS_tail (l1 := l1) (l2 := l2) (l3 := l3) i n L hi hL hn h40.1 (ordL (L.take n)) (ordL (L.take (n + 1))) hlx hll hfil hlen
      (fun hb j hj => by rw [ht1]; exact stays_begin hrn hno hb j hj) (fun hb => by rw [ht1]; exact stays_at hrn hno hb) (by rw [hw]; exact ih)
    have hl2 := TS_l2 (i : Int) (n : Int) (ordL (L.take n)) (ordL (L.take (n + 1))) hlx hll hexit _ 0 (Nat.zero_add _)
    have hord := tree_Order_ok (smalls_take hs (n + 1)) hr1
    refine Ev.step (f := fun k => lectionarylaw5_TreeStays.j3 k (i : Int) (ordL (L.take n)) (n : Int) (ordL (L.take (n + 1))) false l0 l1 l2 l3) (fun k => ?_) (Ev.step (fun k => ?_) hl2)
    · simp only [lectionarylaw5_TreeStays.l1]
      rw [if_pos (by omega), if_pos (by omega), hL, if_pos (by omega), hw, if_pos (by omega), if_pos (by omega), Int.toNat_natCast, hord, Option.bind_some]
      unfold lectionarylaw5_num.f
      rw [Option.bind_some, if_pos rfl]
      have : decide (((ordL (L.take (n + 1))).length : Int) < ((ordL (L.take n)).length : Int)) = false := decide_eq_false (by omega)
      rw [this]
    · simp only [lectionarylaw5_TreeStays.j3]
      rw [if_neg (by decide)]
      rfl
theorem TS_l0 (hg : GoodAsk l0 l1 l2 l3) : ∀ d i, i + d = l0.length → Ev (fun k => lectionarylaw5_TreeStays.l0 k (i : Int) l0 l1 l2 l3) true
  | 0, i, h => by
    refine Ev.step (f := fun k => lectionarylaw5_TreeStays.j1 k (i : Int) false l0 l1 l2 l3) (fun k => ?_) (Ev.step (f := fun _ => some true) (fun k => ?_) (Ev.now _))
    · simp only [lectionarylaw5_TreeStays.l0]; rw [if_neg (by omega)]
    · simp only [lectionarylaw5_TreeStays.j1]; rw [if_neg (by decide), wakes5_f]; rfl
  | d + 1, i, h => by
    have ih := TS_l0 hg d (i + 1) (by omega)
    have hn0 := hg.n0
    have hw : wrap64 ((i : Int) + 1) = ((i + 1 : Nat) : Int) := wrapS (show i < l0.length by omega) (by omega)
    by_cases h4 : (i : Int) < 4
    · have hm := rd_LOp_mem l0 i (by omega)
      have hs := good_smalls (hg.r0 _ hm)
      refine Ev.step (f := fun k => lectionarylaw5_TreeStays.j1 k (i : Int) true l0 l1 l2 l3) (fun k => ?_) ?_
      · simp only [lectionarylaw5_TreeStays.l0]; rw [if_pos (by omega), decide_eq_true h4]
      · by_cases hmay : mayB (rd_LOp l0 (i : Int)) = true
        · have hr := (mayB_iff _).1 hmay
          have hl1 := TS_l1 (l1 := l1) (l2 := l2) (l3 := l3) i _ (by omega) rfl hs hr (by rw [hw]; exact ih) _ 0 (Nat.zero_add _)
          refine Ev.step (fun k => ?_) hl1
          simp only [lectionarylaw5_TreeStays.j1]
          rw [if_pos True.intro, if_pos (by omega), if_pos (by omega), tree_Check_f hs, hmay, Option.bind_some]
          unfold lectionarylaw5_num.f
          rw [if_pos rfl, Option.bind_some, if_pos rfl]
          rfl
        · refine Ev.step (fun k => ?_) ih
          simp only [lectionarylaw5_TreeStays.j1]
          rw [if_pos True.intro, if_pos (by omega), if_pos (by omega), tree_Check_f hs, if_neg hmay, Option.bind_some]
          unfold lectionarylaw5_num.f
          rw [Option.bind_some, if_neg (by decide), hw]
    · refine Ev.step (f := fun k => lectionarylaw5_TreeStays.j1 k (i : Int) false l0 l1 l2 l3) (fun k => ?_) (Ev.step (f := fun _ => some true) (fun k => ?_) (Ev.now _))
      · simp only [lectionarylaw5_TreeStays.l0]; rw [if_pos (by omega), decide_eq_false h4]
      · simp only [lectionarylaw5_TreeStays.j1]; rw [if_neg (by decide), wakes5_f]; rfl
end
theorem PureTreeStays (l0 : List (List SOp)) (l1 : List SElem) (l2 : List SOp) (l3 : List Int) (hg : GoodAsk l0 l1 l2 l3) : ∃ k, lectionarylaw5_TreeStays.f k l0 l1 l2 l3 = some true := by
  obtain ⟨b, hb⟩ := Heavy_some hg
  refine Ev.rounds (Ev.bind (f := fun k t => if t = true then some true else lectionarylaw5_TreeStays.l0 k 0 l0 l1 l2 l3) hb ?_)
  cases b
  · exact Ev.congr (fun k => if_neg (by decide)) (TS_l0 hg _ 0 (Nat.zero_add _))
  · exact Ev.congr (fun k => if_pos rfl) (Ev.now true)
end Go.Proofs.Ytdahgnalojekdaa.L
end
