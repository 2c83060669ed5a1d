/- Part 10 of the proof that for every argument the law TreeLimits answers true: as many ops, and as many runes, as may be are a row, one more is none, by rows made here; the card ties the two tables of unicode/utf8 that are listed; no other condition is laid. -/
import Derived.Test.YtdahgnalojekdaaDoorZTL9
import Derived.Test.YtdahgnalojekdaaDoorRows
import Derived.Test.YtdahgnalojekdaaDoorTie
import Derived.Test.YtdahgnalojekdaaDoorCards
import Derived.Lib.LaidIn
import Derived.Lib.LaidU8
import Derived.Deep.DeepHandedRow
import Derived.Deep.DeepWitnessRowRef
import Derived.SevenTiedAt
import Derived.WalkKit
import Derived.ProofKit
import Derived.OpenShut
import Derived.ChangeOld
import Derived.Below
import Derived.SizedLaws
import Derived.JoinedCond
import Derived.Lib.RuneCountTail
section
namespace Go.Proofs.YtdahgnalojekdaaDoor.door
open Go.Shelf Go.ChangeShapes Go.WideShapes Go.ChangeAt Go.RowKit Go.Lib Go.Proofs.YtdahgnalojekdaaDoor.L Go.Proofs.YtdahgnalojekdaaDoorW.PrintWords
set_option linter.unusedVariables false
theorem own : ownKnob Tryd.prog.godebug = none := by kernel_rfl
theorem laidOut : laidOutB Tryd.prog = true := by kernel_rfl
abbrev laid2 : List (String × DataW Unit) := [("unicode/utf8.acceptRanges", Rows.laid_unicode_utf8_acceptRanges), ("unicode/utf8.first", Rows.laid_unicode_utf8_first)]
theorem accept_eq : (Rows.laid_unicode_utf8_acceptRanges : DataW Unit) = Lib.acceptData := by kernel_rfl
theorem first_eq : Rows.laid_unicode_utf8_first = Lib.firstData := by kernel_rfl
theorem gt_of {W : World} (hL : laidMetH Tryd.prog laid2 W) : GT W := by
  have h1 := Lib.laidMet.reads hL (.head _)
  have h2 := Lib.laidMet.reads hL (.tail _ (.head _))
  rw [accept_eq] at h1
  rw [first_eq] at h2
  exact utf8Tabs_of_reads Tryd.lays260 ⟨by kernel_rfl, by kernel_rfl, by kernel_rfl, by kernel_rfl, by kernel_rfl, by kernel_rfl, by kernel_rfl⟩ h2 h1
noncomputable def laidWorld (os : Os) : World :=
  let w0 := World.holding Tryd.prog os ⟨#[], #[], []⟩
  let put (h : Array Obj) (g : Nat) (cs : Array Value) : Array Obj := h.modify g fun
    | .cells _ t frozen => .cells cs t frozen
    | o => o
  let h1 := put w0.heap 0 (Lib.firstTab.map fun z => Value.int .u8 z).toArray
  let h2 := put h1 1 ((List.range 16).flatMap fun i => [Value.int .u8 (Lib.accLo i), Value.int .u8 (Lib.accHi i)]).toArray
  { w0 with heap := h2 }
theorem laid_met (os : Os) (args : Array Value) : laidMet Tryd.prog laid2 ((laidWorld os).forCall (fun _ _ => 0) ⟨#[], args, []⟩).memory :=
  (LaidIn.of_run (l := laid2) [1, 0] 8 (by kernel_rfl) (by kernel_rfl) (by kernel_rfl) (by kernel_rfl)).met
end Go.Proofs.YtdahgnalojekdaaDoor.door
end

section
namespace Go.Proofs.YtdahgnalojekdaaDoor.L
open Go.RowKit Go.Proofs.YtdahgnalojekdaaDoorW.PrintWords Go.Proofs.YtdahgnalojekdaaDoorW.PrintLast Go.Proofs.YtdahgnalojekdaaDoorW.PrintMore
set_option linter.unusedVariables false
set_option linter.unusedSimpArgs false
theorem ref1_Rune_f (r : Int) : lectionaryref1_Rune.f r = some (runeOk r) := by
  unfold lectionaryref1_Rune.f runeOk
  by_cases h10 : r = 10
  · simp [h10]
  · have e10 : (r == 10) = false := by simp [h10]
    rw [if_neg h10, e10, Bool.false_or]
    by_cases h1 : 32 ≤ r <;> by_cases h2 : r ≤ 1114111 <;> by_cases h3 : r = 127 <;> by_cases h4 : r = 65533 <;> by_cases h5 : r ≤ 55295 <;> by_cases h6 : 57344 ≤ r <;> (first | (exfalso; omega) | simp [h1, h2, h3, h4, h5, h6])
theorem decodeN_le (n b0 b1 b2 b3 : Nat) (h : 1 ≤ n) : (Lib.decodeN n b0 b1 b2 b3).2 ≤ n := by
  unfold Lib.decodeN
  repeat' split
  all_goals (simp_all <;> omega)
theorem decode_le (s : ByteArray) (i : Nat) (h : i < s.size) : 1 ≤ (Utf8.decode s i).2 ∧ i + (Utf8.decode s i).2 ≤ s.size := by
  refine ⟨Lib.decode_width_pos s i h, ?_⟩
  rw [Lib.decode_at]
  have := decodeN_le (s.size - i) (s.get! i).toNat (s.get! (i + 1)).toNat (s.get! (i + 2)).toNat (s.get! (i + 3)).toNat (by omega)
  omega
theorem decFrom_more (s : ByteArray) : ∀ d pos f, s.size ≤ pos + d → d ≤ f → decFrom s f pos = decFrom s d pos
  | 0, pos, f, h, _ => by cases f <;> simp [decFrom, Nat.not_lt.2 (show s.size ≤ pos by omega)]
  | d + 1, pos, 0, h, hf => by omega
  | d + 1, pos, f + 1, h, hf => by
    unfold decFrom
    by_cases hp : pos < s.size
    · rw [if_pos hp, if_pos hp, decFrom_more s d _ f (by have := (decode_le s pos hp).1; omega) (by omega)]
    · rw [if_neg hp, if_neg hp]
theorem decFrom_step (s : ByteArray) (pos : Nat) (h : pos < s.size) : decFrom s s.size pos = ((Utf8.decode s pos).1 : Int) :: decFrom s s.size (pos + (Utf8.decode s pos).2) := by
  have hw := decode_le s pos h
  rw [decFrom_more s (s.size - pos) pos s.size (by omega) (by omega), show s.size - pos = (s.size - pos - 1) + 1 by omega]
  conv => lhs; unfold decFrom
  rw [if_pos h, ← decFrom_more s (s.size - pos - 1) (pos + (Utf8.decode s pos).2) s.size (by omega) (by omega)]
theorem decFrom_end (s : ByteArray) (pos : Nat) (h : s.size ≤ pos) : decFrom s s.size pos = [] := by
  rw [decFrom_more s 0 pos s.size (by omega) (by omega)]; rfl
theorem decFrom_len (s : ByteArray) : ∀ f pos, (decFrom s f pos).length ≤ f
  | 0, _ => Nat.le_refl _
  | f + 1, pos => by
    unfold decFrom
    split
    · simp only [List.length_cons]; have := decFrom_len s f (pos + (Utf8.decode s pos).2); omega
    · simp
theorem decodeGo_at (s : ByteArray) (pos : Nat) (h : pos < s.size) : Lib.decodeGo (s.extract pos s.size) = Utf8.decode s pos := by
  unfold Lib.decodeGo
  rw [if_neg (by rw [ByteArray.size_extract]; omega), Lib.tail_decode, Nat.add_zero]
def runesR (s : ByteArray) (acc : List Int) (pos : Nat) : List Int × Bool := if (decFrom s s.size pos).all runeOk = true then (acc ++ decFrom s s.size pos, true) else ([], false)
theorem Runes_loop (s : ByteArray) (hs : s.size ≤ 35184372088000) : ∀ d pos (acc : List Int), s.size ≤ pos + d → pos ≤ s.size → acc.length ≤ pos → Ev (fun k => lectionaryref1_Runes.l0 k s acc (pos : Int)) (runesR s acc pos)
  | 0, pos, acc, h, hp, _ => by
    unfold runesR
    rw [decFrom_end s pos (by omega), List.all_nil, if_pos rfl, List.append_nil]
    exact Ev.step (f := fun _ => some (acc, true)) (fun k => by simp only [lectionaryref1_Runes.l0]; rw [if_neg (by omega)]) (Ev.now _)
  | d + 1, pos, acc, h, hp, ha => by
    by_cases hlt : pos < s.size
    · have hw := decode_le s pos hlt
      have ih := Runes_loop s hs d (pos + (Utf8.decode s pos).2) (acc ++ [((Utf8.decode s pos).1 : Int)]) (by omega) hw.2 (by simp; omega)
      have hf : utf8_DecodeRuneInString.f (s.extract (pos : Int).toNat s.size) = some (((Utf8.decode s pos).1 : Int), ((Utf8.decode s pos).2 : Int)) := by
        unfold utf8_DecodeRuneInString.f
        rw [Int.toNat_natCast, decodeGo_at s pos hlt]
      unfold runesR at ih ⊢
      rw [decFrom_step s pos hlt, List.all_cons]
      cases hr : runeOk ((Utf8.decode s pos).1 : Int)
      · simp only [Bool.false_and, Bool.false_eq_true, if_false]
        refine Ev.step (f := fun _ => some ([], false)) (fun k => ?_) (Ev.now _)
        simp only [lectionaryref1_Runes.l0]
        rw [if_pos (by omega), if_pos (by omega), if_pos (by omega), hf, Option.bind_some, ref1_Rune_f, Option.bind_some, hr]
        rfl
      · simp only [Bool.true_and]
        rw [List.append_assoc, List.singleton_append] at ih
        refine Ev.step (fun k => ?_) ih
        simp only [lectionaryref1_Runes.l0]
        rw [if_pos (by omega), if_pos (by omega), if_pos (by omega), hf, Option.bind_some, ref1_Rune_f, Option.bind_some, hr, if_pos rfl, if_pos (by omega), wrap64_small (by omega) (by omega)]
        simp only [Int.natCast_add]
    · have hpe : pos = s.size := by omega
      unfold runesR
      rw [decFrom_end s pos (by omega), List.all_nil, if_pos rfl, List.append_nil]
      exact Ev.step (f := fun _ => some (acc, true)) (fun k => by simp only [lectionaryref1_Runes.l0]; rw [if_neg (by omega)]) (Ev.now _)
theorem Runes_ev (s : ByteArray) (hs : s.size ≤ 35184372088000) : Ev (fun k => lectionaryref1_Runes.f k s) (if textOk s = true then (runesOf s, true) else ([], false)) :=
  Runes_loop s hs s.size 0 [] (by omega) (Nat.zero_le _) (Nat.le_refl _)
theorem ref4_Begin_f (e : SElem) : lectionaryref4_Begin.f e.f0 e.f1 e.f2 = some (isBegin e) := rfl
theorem ref0_Between_f (a b c : Int) : lectionaryref0_Between.f a b c = some (decide (b ≤ a) && decide (a ≤ c)) := by
  unfold lectionaryref0_Between.f
  by_cases h : b ≤ a <;> simp [h]
theorem ref4_name_f (a b : Int) : lectionaryref4_name.f a b = some (nameOk a b) := by
  unfold lectionaryref4_name.f nameOk
  rw [ref0_Between_f, ref0_Between_f]
  simp only [Option.bind_some]
  cases decide (1 ≤ a) <;> cases decide (a ≤ 8) <;> simp
theorem ref0_Num_f (a b : Int) : lectionaryref0_Num.f a b = some (decide (0 ≤ a) && decide (a ≤ b)) := by
  unfold lectionaryref0_Num.f
  by_cases h : 0 ≤ a <;> simp [h]
theorem ref4_Elem_f (e : SElem) : lectionaryref4_Elem.f e.f0 e.f1 e.f2 = some (elemOk e) := by
  unfold lectionaryref4_Elem.f elemOk
  rw [ref4_Begin_f, ref4_name_f, ref0_Num_f]
  simp only [Option.bind_some]
  have : decide (e.f2 ≤ 11) = decide (e.f2 < 12) := decide_eq_decide.2 (by omega)
  rw [this]
  cases isBegin e <;> cases nameOk e.f0 e.f1 <;> simp
theorem ref4_Less_f (a b : SElem) : lectionaryref4_Less.f a.f0 a.f1 a.f2 b.f0 b.f1 b.f2 = some (elLess a b) := by
  unfold lectionaryref4_Less.f elLess
  by_cases h0 : a.f0 = b.f0
  · by_cases h1 : a.f1 = b.f1
    · simp [h0, h1]
    · have : ¬ b.f0 < b.f0 := by omega
      simp [h0, h1]
  · simp [h0]
theorem ref4_own_f (o : SOp) (e : SElem) : lectionaryref4_own.f o.f0 o.f1 o.f2 o.f3.f0 o.f3.f1 o.f3.f2 o.f4 o.f5 o.f6 o.f7 o.f8 e.f0 e.f1 e.f2 = some (ownEl o e) := by
  unfold lectionaryref4_own.f ownEl
  by_cases h : e.f0 = o.f0 <;> simp [h]
def Sm2 (o : SOp) : Prop := o.f4.size ≤ 35184372088000 ∧ o.f5.length ≤ 1000000000000000
theorem ref4_Op_l0 (o : SOp) (h : Sm2 o) : ∀ d i, i + d = o.f5.length →
    Ev (fun k => lectionaryref4_Op.l0 k (i : Int) o.f0 o.f1 o.f2 o.f3.f0 o.f3.f1 o.f3.f2 o.f4 o.f5 o.f6 o.f7 o.f8) (goneFrom o (if i = 0 then none else some (rd_Elem o.f5 ((i : Int) - 1))) (o.f5.drop i))
  | 0, i, hi => by
    rw [List.drop_eq_nil_of_le (by omega)]
    exact Ev.step (f := fun _ => some true) (fun k => by simp only [lectionaryref4_Op.l0]; rw [if_neg (by omega)]) (Ev.now _)
  | d + 1, i, hi => by
    have hlt : i < o.f5.length := by omega
    have ih := ref4_Op_l0 o h d (i + 1) (by omega)
    have hw : wrap64 ((i : Int) + 1) = ((i + 1 : Nat) : Int) := wrapS hlt (by have := h.2; omega)
    have hw1 : wrap64 ((i : Int) - 1) = (i : Int) - 1 := wrap64_small (by omega) (by have := h.2; omega)
    have hd : o.f5.drop i = rd_Elem o.f5 (i : Int) :: o.f5.drop (i + 1) := by rw [rd_Elem_nat _ _ hlt]; exact List.drop_eq_getElem_cons hlt
    rw [hd]
    generalize hx : rd_Elem o.f5 (i : Int) = x at ih ⊢
    have hp1 : rd_Elem o.f5 (((i + 1 : Nat) : Int) - 1) = x := by rw [show (((i + 1 : Nat) : Int) - 1) = (i : Int) by omega]; exact hx
    rw [if_neg (show ¬ i + 1 = 0 by omega), hp1] at ih
    have unf : ∀ k, lectionaryref4_Op.l0 (k + 1) (i : Int) o.f0 o.f1 o.f2 o.f3.f0 o.f3.f1 o.f3.f2 o.f4 o.f5 o.f6 o.f7 o.f8 =
        (if isBegin x = true then some false else if elemOk x = true then (if ownEl o x = true then some false else if (i : Int) > 0 then
          (if elLess (rd_Elem o.f5 ((i : Int) - 1)) x = true then lectionaryref4_Op.l0 k ((i + 1 : Nat) : Int) o.f0 o.f1 o.f2 o.f3.f0 o.f3.f1 o.f3.f2 o.f4 o.f5 o.f6 o.f7 o.f8 else some false)
          else lectionaryref4_Op.l0 k ((i + 1 : Nat) : Int) o.f0 o.f1 o.f2 o.f3.f0 o.f3.f1 o.f3.f2 o.f4 o.f5 o.f6 o.f7 o.f8) else some false) := by
      intro k
      simp only [lectionaryref4_Op.l0]
      rw [if_pos (by omega), if_pos (by omega), hx, ref4_Begin_f, ref4_Elem_f, ref4_own_f, hw, hw1]
      simp only [Option.bind_some]
      by_cases hi0 : (i : Int) > 0
      · simp only [if_pos hi0]
        rw [if_pos (show (0 : Int) ≤ (i : Int) - 1 by omega), if_pos (show (i : Int) - 1 < (o.f5.length : Int) by omega), ref4_Less_f]
        rfl
      · simp only [if_neg hi0]
    unfold goneFrom
    have no : ∀ c : Bool, c = false → (∀ k, lectionaryref4_Op.l0 (k + 1) (i : Int) o.f0 o.f1 o.f2 o.f3.f0 o.f3.f1 o.f3.f2 o.f4 o.f5 o.f6 o.f7 o.f8 = some false) → Ev (fun k => lectionaryref4_Op.l0 k (i : Int) o.f0 o.f1 o.f2 o.f3.f0 o.f3.f1 o.f3.f2 o.f4 o.f5 o.f6 o.f7 o.f8) c := by
      intro c hc hk; subst hc; exact Ev.step (f := fun _ => some false) hk (Ev.now _)
    cases hb : isBegin x
    · cases he : elemOk x
      · exact no _ (by simp) (fun k => by rw [unf, hb, he]; simp)
      · cases ho : ownEl o x
        · by_cases hi0 : i = 0
          · subst hi0
            simp only [if_true, Bool.not_false, Bool.true_and]
            exact Ev.step (fun k => by rw [unf, hb, he, ho]; simp) ih
          · simp only [if_neg hi0]
            cases hl : elLess (rd_Elem o.f5 ((i : Int) - 1)) x
            · exact no _ (by simp [hl]) (fun k => by rw [unf, hb, he, ho, hl]; simp; omega)
            · simp only [Bool.not_false, Bool.true_and]
              exact Ev.step (fun k => by rw [unf, hb, he, ho, hl]; simp) ih
        · exact no _ (by simp) (fun k => by rw [unf, hb, he, ho]; simp)
    · exact no _ (by simp) (fun k => by rw [unf, hb]; simp)
theorem Op_l0_start (o : SOp) (h : Sm2 o) : Ev (fun k => lectionaryref4_Op.l0 k 0 o.f0 o.f1 o.f2 o.f3.f0 o.f3.f1 o.f3.f2 o.f4 o.f5 o.f6 o.f7 o.f8) (goneFrom o none o.f5) := by
  have := ref4_Op_l0 o h o.f5.length 0 (Nat.zero_add _)
  simpa using this
theorem Op_j1 (o : SOp) (h : Sm2 o) (b : Bool) : Ev (fun k => lectionaryref4_Op.j1 k b o.f0 o.f1 o.f2 o.f3.f0 o.f3.f1 o.f3.f2 o.f4 o.f5 o.f6 o.f7 o.f8) (!b && goneFrom o none o.f5) := by
  cases b
  · simp only [Bool.not_false, Bool.true_and]
    exact Ev.step (fun k => by simp only [lectionaryref4_Op.j1]; rw [if_neg (by decide)]) (Op_l0_start o h)
  · simp only [Bool.not_true, Bool.false_and]
    exact Ev.step (f := fun _ => some false) (fun k => by simp only [lectionaryref4_Op.j1]; rw [if_pos True.intro]) (Ev.now _)
def restOk (o : SOp) : Bool := textOk o.f4 && (decide (sizeOf' o ≤ 12) && (elemOk o.f3 && (!(decide (sizeOf' o = 0) && !isBegin o.f3) && (!ownEl o o.f3 && goneFrom o none o.f5))))
theorem Op_j0 (o : SOp) (h : Sm2 o) (b : Bool) : Ev (fun k => lectionaryref4_Op.j0 k b o.f0 o.f1 o.f2 o.f3.f0 o.f3.f1 o.f3.f2 o.f4 o.f5 o.f6 o.f7 o.f8) (!b && restOk o) := by
  cases b
  · simp only [Bool.not_false, Bool.true_and]
    have hR := Runes_ev o.f4 h.1
    unfold restOk
    obtain ⟨F, hF⟩ : ∃ F : Nat → List Int × Bool → Option Bool, F = (fun k bt => (if bt.2 = true then (if (bt.1.length : Int) > 12 then (lectionaryref4_Op.j1 k true o.f0 o.f1 o.f2 o.f3.f0 o.f3.f1 o.f3.f2 o.f4 o.f5 o.f6 o.f7 o.f8) else ((lectionaryref4_Elem.f o.f3.f0 o.f3.f1 o.f3.f2).bind fun t176 => (if t176 = true then (if (bt.1.length : Int) = 0 then ((lectionaryref4_Begin.f o.f3.f0 o.f3.f1 o.f3.f2).bind fun t177 => (if t177 = true then ((lectionaryref4_own.f o.f0 o.f1 o.f2 o.f3.f0 o.f3.f1 o.f3.f2 o.f4 o.f5 o.f6 o.f7 o.f8 o.f3.f0 o.f3.f1 o.f3.f2).bind fun t178 => (lectionaryref4_Op.j1 k t178 o.f0 o.f1 o.f2 o.f3.f0 o.f3.f1 o.f3.f2 o.f4 o.f5 o.f6 o.f7 o.f8)) else (lectionaryref4_Op.j1 k true o.f0 o.f1 o.f2 o.f3.f0 o.f3.f1 o.f3.f2 o.f4 o.f5 o.f6 o.f7 o.f8))) else ((lectionaryref4_own.f o.f0 o.f1 o.f2 o.f3.f0 o.f3.f1 o.f3.f2 o.f4 o.f5 o.f6 o.f7 o.f8 o.f3.f0 o.f3.f1 o.f3.f2).bind fun t179 => (lectionaryref4_Op.j1 k t179 o.f0 o.f1 o.f2 o.f3.f0 o.f3.f1 o.f3.f2 o.f4 o.f5 o.f6 o.f7 o.f8))) else (lectionaryref4_Op.j1 k true o.f0 o.f1 o.f2 o.f3.f0 o.f3.f1 o.f3.f2 o.f4 o.f5 o.f6 o.f7 o.f8)))) else (lectionaryref4_Op.j1 k true o.f0 o.f1 o.f2 o.f3.f0 o.f3.f1 o.f3.f2 o.f4 o.f5 o.f6 o.f7 o.f8))) := ⟨_, rfl⟩
    refine Ev.step (f := fun k => (lectionaryref1_Runes.f k o.f4).bind (F k)) (fun k => ?_) (Ev.bind hR ?_)
    · simp only [lectionaryref4_Op.j0]; rw [if_neg (by decide), hF]
    · rw [hF]
      have hn : ∀ x : Bool, Ev (fun k => lectionaryref4_Op.j1 k true o.f0 o.f1 o.f2 o.f3.f0 o.f3.f1 o.f3.f2 o.f4 o.f5 o.f6 o.f7 o.f8) (x && false) := fun x => by rw [Bool.and_false]; exact Op_j1 o h true
      simp only [ref4_Elem_f, ref4_own_f, ref4_Begin_f, Option.bind_some]
      cases ht : textOk o.f4
      · simp only [Bool.false_eq_true, if_false, Bool.false_and]
        exact Op_j1 o h true
      · simp only [if_true, Bool.true_and]
        have hl : (runesOf o.f4).length = sizeOf' o := rfl
        rw [hl]
        by_cases h12 : sizeOf' o ≤ 12
        · have e12 : decide (sizeOf' o ≤ 12) = true := decide_eq_true h12
          rw [e12, Bool.true_and]
          have n12 : ¬ ((sizeOf' o : Int) > 12) := by omega
          simp only [if_neg n12]
          cases he : elemOk o.f3
          · simp only [Bool.false_eq_true, if_false, Bool.false_and]
            exact Op_j1 o h true
          · simp only [if_true, Bool.true_and]
            by_cases h0 : sizeOf' o = 0
            · have h0i : (sizeOf' o : Int) = 0 := by omega
              simp only [if_pos h0i, h0, decide_true, Bool.true_and, Bool.not_not]
              cases hb : isBegin o.f3
              · simp only [Bool.false_eq_true, if_false, Bool.false_and]
                exact Op_j1 o h true
              · simp only [if_true, Bool.true_and]
                exact Op_j1 o h _
            · have h0i : ¬ (sizeOf' o : Int) = 0 := by omega
              have e0 : decide (sizeOf' o = 0) = false := decide_eq_false h0
              simp only [if_neg h0i, e0, Bool.false_and, Bool.not_false, Bool.true_and]
              exact Op_j1 o h _
        · have e12 : decide (sizeOf' o ≤ 12) = false := decide_eq_false h12
          rw [e12, Bool.false_and]
          have n12 : (sizeOf' o : Int) > 12 := by omega
          simp only [if_pos n12]
          exact Op_j1 o h true
  · simp only [Bool.not_true, Bool.false_and]
    exact Ev.step (f := fun _ => some false) (fun k => by simp only [lectionaryref4_Op.j0]; rw [if_pos True.intro]) (Ev.now _)
theorem editOk_rest (o : SOp) : editOk o = (o.f6 == 0 && (o.f7 == 0 && (o.f8 == 0 && (decide (o.f5.length ≤ 200) && (!(o.f4.toList.isEmpty && o.f5.isEmpty) && restOk o))))) := by
  unfold editOk restOk goneOk
  have : decide (sizeOf' o = 0) = o.f4.toList.isEmpty := by
    rw [Bool.eq_iff_iff, decide_eq_true_eq]; exact (runesOf_nil o.f4)
  rw [this]
  cases o.f6 == 0 <;> cases o.f7 == 0 <;> cases o.f8 == 0 <;> cases decide (o.f5.length ≤ 200) <;> cases o.f4.toList.isEmpty <;> cases o.f5.isEmpty <;> cases textOk o.f4 <;> cases decide (sizeOf' o ≤ 12) <;> cases elemOk o.f3 <;> cases isBegin o.f3 <;> cases ownEl o o.f3 <;> cases goneFrom o none o.f5 <;> rfl
theorem Op_ev (o : SOp) (h : Sm2 o) : Ev (fun k => lectionaryref4_Op.f k o.f0 o.f1 o.f2 o.f3.f0 o.f3.f1 o.f3.f2 o.f4 o.f5 o.f6 o.f7 o.f8) (opOk o) := by
  unfold lectionaryref4_Op.f opOk
  simp only [ref4_name_f, ref4_Begin_f, ref0_Num_f, Option.bind_some]
  cases nameOk o.f0 o.f1
  · simp only [Bool.false_eq_true, if_false, Bool.false_and]; exact Ev.now _
  · simp only [if_true, Bool.true_and]
    by_cases h2 : o.f2 = 2
    · have h1 : ¬ o.f2 = 1 := by omega
      rw [if_neg h1]
      simp only [h2, if_true, beq_self_eq_true, Bool.true_and]
      unfold toggleOk
      refine Ev.congr (fun k => ?_) (Ev.now _)
      have hl : ((o.f5.length : Int) == 0) = o.f5.isEmpty := isEmpty_len _
      have ht : (o.f4.toList = ([] : List UInt8)) ↔ o.f4.toList.isEmpty = true := toList_isEmpty _
      simp only [hl, ht]
      cases nameOk o.f6 o.f7
      · simp
      · by_cases e6 : o.f6 = o.f0 <;> by_cases e7 : o.f7 = o.f1 <;> by_cases e8 : 0 ≤ o.f8 <;> by_cases e9 : o.f8 ≤ 268435456 <;> cases isBegin o.f3 <;> cases o.f4.toList.isEmpty <;> simp [e6, e7, e8, e9]
    · have e2 : (o.f2 == 2) = false := by simp [h2]
      simp only [if_neg h2]
      by_cases h1 : o.f2 = 1
      · simp only [if_pos h1]
        rw [editOk_rest]
        by_cases e6 : o.f6 = 0
        · simp only [if_pos e6]
          by_cases e7 : o.f7 = 0
          · simp only [if_pos e7]
            by_cases e8 : o.f8 = 0
            · simp only [if_pos e8]
              have b6 : (o.f6 == 0) = true := by simp [e6]
              have b7 : (o.f7 == 0) = true := by simp [e7]
              have b8 : (o.f8 == 0) = true := by simp [e8]
              rw [b6, b7, b8, Bool.true_and, Bool.true_and, Bool.true_and]
              by_cases e5 : o.f5.length ≤ 200
              · have n5 : ¬ (o.f5.length : Int) > 200 := by omega
                have d5 : decide (o.f5.length ≤ 200) = true := decide_eq_true e5
                simp only [if_neg n5, d5, Bool.true_and, isEmpty_len]
                by_cases e4 : o.f4.toList = ([] : List UInt8)
                · simp only [if_pos e4, List.isEmpty_iff.2 e4, Bool.true_and]; exact Op_j0 o h _
                · have : o.f4.toList.isEmpty = false := by cases hh : o.f4.toList.isEmpty; rfl; exact absurd (List.isEmpty_iff.1 hh) e4
                  simp only [if_neg e4, this, Bool.false_and]; exact Op_j0 o h _
              · have n5 : (o.f5.length : Int) > 200 := by omega
                have d5 : decide (o.f5.length ≤ 200) = false := decide_eq_false e5
                simp only [if_pos n5, d5, Bool.false_and]; exact Op_j0 o h _
            · have b8 : (o.f8 == 0) = false := by simp [e8]
              simp only [if_neg e8, b8, Bool.false_and, Bool.and_false]; exact Op_j0 o h _
          · have b7 : (o.f7 == 0) = false := by simp [e7]
            simp only [if_neg e7, b7, Bool.false_and, Bool.and_false]; exact Op_j0 o h _
        · have b6 : (o.f6 == 0) = false := by simp [e6]
          simp only [if_neg e6, b6, Bool.false_and]; exact Op_j0 o h _
      · simp only [if_neg h1, e2, Bool.false_and]; have hh := Op_j0 o h true; simp only [Bool.not_true, Bool.false_and] at hh; exact hh
theorem Find_loop (l : List SOp) (hl : l.length ≤ 1000000000000) (a b : Int) : ∀ d i, i + d = l.length → Ev (fun k => lectionaryref4_Find.l0 k l a b (i : Int)) (firstAt (fun i => nameIs a b (rd_Op l i)) l.length d i)
  | 0, i, h => Ev.step (f := fun _ => some (-1)) (fun k => by simp only [lectionaryref4_Find.l0]; rw [if_neg (by omega)]) (Ev.now _)
  | d + 1, i, h => by
    have ih := Find_loop l hl a b d (i + 1) (by omega)
    unfold firstAt
    rw [if_pos (show i < l.length by omega)]
    by_cases h0 : (rd_Op l (i : Int)).f0 = a
    · by_cases h1 : (rd_Op l (i : Int)).f1 = b
      · rw [if_pos (by unfold nameIs; simp [h0, h1])]
        refine Ev.step (f := fun _ => some (i : Int)) (fun k => ?_) (Ev.now _)
        simp only [lectionaryref4_Find.l0]
        rw [if_pos (by omega), if_pos (by omega), if_pos h0, if_pos h1]
      · rw [if_neg (by unfold nameIs; simp [h1])]
        refine Ev.step (fun k => ?_) ih
        simp only [lectionaryref4_Find.l0]
        rw [if_pos (by omega), if_pos (by omega), if_pos h0, if_neg h1, wrapS (show i < l.length by omega) (by omega)]
    · rw [if_neg (by unfold nameIs; simp [h0])]
      refine Ev.step (fun k => ?_) ih
      simp only [lectionaryref4_Find.l0]
      rw [if_pos (by omega), if_pos (by omega), if_neg h0, wrapS (show i < l.length by omega) (by omega)]
theorem Find_ev (l : List SOp) (hl : l.length ≤ 1000000000000) (a b : Int) : Ev (fun k => lectionaryref4_Find.f k l a b) (findOp l a b) := Find_loop l hl a b l.length 0 (Nat.zero_add _)
def runesN (o : SOp) : Nat := if textOk o.f4 = true then sizeOf' o else 0
theorem RunesO_ev (o : SOp) (h : o.f4.size ≤ 35184372088000) : Ev (fun k => lectionaryref4_Runes.f k o.f0 o.f1 o.f2 o.f3.f0 o.f3.f1 o.f3.f2 o.f4 o.f5 o.f6 o.f7 o.f8) (runesN o : Int) := by
  refine Ev.bind (f := fun _ (bt : List Int × Bool) => some (bt.1.length : Int)) (Runes_ev o.f4 h) ?_
  unfold runesN
  cases textOk o.f4
  · exact Ev.now _
  · exact Ev.now _
theorem opOk_text {o : SOp} (h : opOk o = true) : runesN o = sizeOf' o := by
  unfold runesN
  rcases opOk_kinds h with ⟨_, h2⟩ | ⟨h1, h2⟩
  · unfold editOk at h2; simp only [Bool.and_eq_true] at h2
    rw [if_pos h2.1.1.1.1.1.2]
  · have := (opOk_size2 h).2 h1
    split <;> omega
def writtenN (l : List SOp) (e : SElem) : Bool := isBegin e || (decide (0 ≤ findOp l e.f0 e.f1) && decide (0 ≤ e.f2) && decide (e.f2 < (runesN (rd_Op l (findOp l e.f0 e.f1)) : Int)))
theorem written_ev (l : List SOp) (hl : l.length ≤ 1000000000000) (hs : ∀ o ∈ l, o.f4.size ≤ 35184372088000) (e : SElem) : Ev (fun k => lectionaryref4_written.f k l e.f0 e.f1 e.f2) (writtenN l e) := by
  unfold lectionaryref4_written.f writtenN
  simp only [ref4_Begin_f, Option.bind_some]
  cases isBegin e
  · simp only [Bool.false_eq_true, if_false, Bool.false_or]
    refine Ev.bind (Find_ev l hl e.f0 e.f1) ?_
    rcases findOp_cases l e.f0 e.f1 with ⟨i, hi, _, _, _, ef⟩ | ⟨_, ef⟩
    · rw [ef]
      have h0 : (i : Int) ≥ 0 := by omega
      have d0 : decide ((0 : Int) ≤ (i : Int)) = true := decide_eq_true (by omega)
      simp only [if_pos h0, d0, Bool.true_and]
      by_cases h2 : e.f2 ≥ 0
      · have d2 : decide ((0 : Int) ≤ e.f2) = true := decide_eq_true h2
        have h3 : (i : Int) < (l.length : Int) := by omega
        have h4 : (0 : Int) ≤ (i : Int) := by omega
        simp only [if_pos h2, d2, if_pos h3, if_pos h4, Bool.true_and]
        refine Ev.bind (f := fun _ t => some (decide (e.f2 < t))) (RunesO_ev (rd_Op l (i : Int)) (by rw [rd_Op_nat _ _ hi]; exact hs _ (List.getElem_mem hi))) (Ev.now _)
      · have d2 : decide ((0 : Int) ≤ e.f2) = false := decide_eq_false (by omega)
        simp only [if_neg h2, d2, Bool.false_and]; exact Ev.now _
    · rw [ef]
      have h0 : ¬ (-1 : Int) ≥ 0 := by omega
      simp only [if_neg h0]; exact Ev.now _
  · simp only [if_true, Bool.true_or]; exact Ev.now _
theorem countS_take (l : List SOp) (a : Int) (i : Nat) (h : i < l.length) : countS (l.take (i + 1)) a = countS (l.take i) a + if l[i].f0 = a then 1 else 0 := by
  rw [List.take_succ_eq_append_getElem h, countS_app]
theorem Many_loop (l : List SOp) (hl : l.length ≤ 1000000000000) (a : Int) : ∀ d i, i + d = l.length → Ev (fun k => lectionaryref4_Many.l0 k l a (countS (l.take i) a : Int) (i : Int)) (countS l a : Int)
  | 0, i, h => by
    rw [List.take_of_length_le (by omega)]
    exact Ev.step (f := fun _ => some (countS l a : Int)) (fun k => by simp only [lectionaryref4_Many.l0]; rw [if_neg (by omega)]) (Ev.now _)
  | d + 1, i, h => by
    have ih := Many_loop l hl a d (i + 1) (by omega)
    have hlt : i < l.length := by omega
    have hc : countS (l.take i) a ≤ i := Nat.le_trans (countS_le _ _) (by rw [List.length_take]; omega)
    rw [countS_take l a i hlt] at ih
    refine Ev.step (fun k => ?_) ih
    simp only [lectionaryref4_Many.l0]
    rw [if_pos (by omega), if_pos (by omega), rd_Op_nat _ _ hlt, wrapS hlt (by omega), wrap64_small (i := (countS (l.take i) a : Int) + 1) (by omega) (by omega)]
    by_cases h0 : l[i].f0 = a
    · rw [if_pos h0, if_pos h0]; rfl
    · rw [if_neg h0, if_neg h0]; rfl
theorem Many_ev (l : List SOp) (hl : l.length ≤ 1000000000000) (a : Int) : Ev (fun k => lectionaryref4_Many.f k l a) (countS l a : Int) := Many_loop l hl a l.length 0 (Nat.zero_add _)
def editN (l : List SOp) (a b : Int) : Bool := decide (0 ≤ findOp l a b) && ((rd_Op l (findOp l a b)).f2 == 1)
theorem Edit_ev (l : List SOp) (hl : l.length ≤ 1000000000000) (a b : Int) : Ev (fun k => lectionaryref4_Edit.f k l a b) (editN l a b) := by
  refine Ev.bind (f := fun _ t => if t ≥ 0 then (if 0 ≤ t then (if t < (l.length : Int) then some ((rd_Op l t).f2 == 1) else none) else none) else some false) (Find_ev l hl a b) ?_
  unfold editN
  rcases findOp_cases l a b with ⟨i, hi, _, _, _, ef⟩ | ⟨_, ef⟩
  · rw [ef]
    refine Ev.congr (fun k => ?_) (Ev.now _)
    rw [if_pos (by omega), if_pos (by omega), if_pos (by omega), decide_eq_true (show (0 : Int) ≤ (i : Int) by omega), Bool.true_and]
  · rw [ef]; exact Ev.now _
structure SmL (l : List SOp) : Prop where
  len : l.length ≤ 1000000000000
  ops : ∀ o ∈ l, Sm2 o
theorem SmL.take {l : List SOp} (h : SmL l) (n : Nat) : SmL (l.take n) := ⟨by have := h.len; rw [List.length_take]; omega, fun o ho => h.ops o (List.mem_of_mem_take ho)⟩
def goesN (l : List SOp) (o : SOp) : Bool := opOk o && (decide (o.f1 = (countS l o.f0 : Int) + 1) && (writtenN l o.f3 && (o.f5.all (writtenN l) && (o.f2 == 1 || editN l o.f6 o.f7))))
theorem Goes_l0 (l : List SOp) (hl : SmL l) (o : SOp) (h : Sm2 o) : ∀ d i, i + d = o.f5.length → Ev (fun k => lectionaryref4_Goes.l0 k l (i : Int) o.f0 o.f1 o.f2 o.f3.f0 o.f3.f1 o.f3.f2 o.f4 o.f5 o.f6 o.f7 o.f8) ((o.f5.drop i).all (writtenN l) && (o.f2 == 1 || editN l o.f6 o.f7))
  | 0, i, hi => by
    rw [List.drop_eq_nil_of_le (by omega)]
    simp only [List.all_nil, Bool.true_and]
    by_cases h1 : o.f2 = 1
    · have : (o.f2 == 1) = true := by simp [h1]
      rw [this, Bool.true_or]
      exact Ev.step (f := fun _ => some true) (fun k => by simp only [lectionaryref4_Goes.l0]; rw [if_neg (by omega), if_pos h1]) (Ev.now _)
    · have : (o.f2 == 1) = false := by simp [h1]
      rw [this, Bool.false_or]
      refine Ev.step (f := fun k => (lectionaryref4_Edit.f k l o.f6 o.f7).bind fun t => some t) (fun k => by simp only [lectionaryref4_Goes.l0]; rw [if_neg (by omega), if_neg h1]) (Ev.bind (f := fun _ t => some t) (Edit_ev l hl.len o.f6 o.f7) (Ev.now _))
  | d + 1, i, hi => by
    have hlt : i < o.f5.length := by omega
    have ih := Goes_l0 l hl o h d (i + 1) (by omega)
    rw [List.drop_eq_getElem_cons hlt, List.all_cons]
    have hw := written_ev l hl.len (fun o ho => (hl.ops o ho).1) o.f5[i]
    refine Ev.step (f := fun k => (lectionaryref4_written.f k l o.f5[i].f0 o.f5[i].f1 o.f5[i].f2).bind fun t => if t = true then lectionaryref4_Goes.l0 k l ((i + 1 : Nat) : Int) o.f0 o.f1 o.f2 o.f3.f0 o.f3.f1 o.f3.f2 o.f4 o.f5 o.f6 o.f7 o.f8 else some false) (fun k => ?_) (Ev.bind (f := fun k t => if t = true then lectionaryref4_Goes.l0 k l ((i + 1 : Nat) : Int) o.f0 o.f1 o.f2 o.f3.f0 o.f3.f1 o.f3.f2 o.f4 o.f5 o.f6 o.f7 o.f8 else some false) hw ?_)
    · simp only [lectionaryref4_Goes.l0]
      rw [if_pos (by omega), if_pos (by omega), rd_Elem_nat _ _ hlt, wrapS hlt (by have := h.2; omega)]
    · cases writtenN l o.f5[i]
      · simp only [Bool.false_and, Bool.false_eq_true, if_false]; exact Ev.now _
      · simp only [Bool.true_and, if_true]; exact ih
theorem Goes_ev (l : List SOp) (hl : SmL l) (o : SOp) (h : Sm2 o) : Ev (fun k => lectionaryref4_Goes.f k l o.f0 o.f1 o.f2 o.f3.f0 o.f3.f1 o.f3.f2 o.f4 o.f5 o.f6 o.f7 o.f8) (goesN l o) := by
  have hj : ∀ b : Bool, Ev (fun k => lectionaryref4_Goes.j0 k l b o.f0 o.f1 o.f2 o.f3.f0 o.f3.f1 o.f3.f2 o.f4 o.f5 o.f6 o.f7 o.f8) (!b && (o.f5.all (writtenN l) && (o.f2 == 1 || editN l o.f6 o.f7))) := by
    intro b
    cases b
    · simp only [Bool.not_false, Bool.true_and]
      exact Ev.step (fun k => by simp only [lectionaryref4_Goes.j0]; rw [if_neg (by decide)]; rfl) (Goes_l0 l hl o h o.f5.length 0 (Nat.zero_add _))
    · simp only [Bool.not_true, Bool.false_and]
      exact Ev.step (f := fun _ => some false) (fun k => by simp only [lectionaryref4_Goes.j0]; rw [if_pos True.intro]) (Ev.now _)
  have hjt := hj true
  simp only [Bool.not_true, Bool.false_and] at hjt
  unfold lectionaryref4_Goes.f goesN
  refine Ev.bind (Op_ev o h) ?_
  cases opOk o
  · simp only [Bool.false_eq_true, if_false, Bool.false_and]; exact hjt
  · simp only [if_true, Bool.true_and]
    refine Ev.bind (Many_ev l hl.len o.f0) ?_
    have hc := countS_le l o.f0
    have hlen := hl.len
    simp only [wrap64_small (show -9223372036854775808 ≤ (countS l o.f0 : Int) + 1 by omega) (show (countS l o.f0 : Int) + 1 ≤ 9223372036854775807 by omega)]
    by_cases hq : o.f1 = (countS l o.f0 : Int) + 1
    · simp only [if_pos hq, decide_eq_true hq, Bool.true_and]
      refine Ev.bind (written_ev l hl.len (fun o ho => (hl.ops o ho).1) o.f3) ?_
      have := hj (!writtenN l o.f3)
      rw [Bool.not_not] at this
      exact this
    · simp only [if_neg hq, decide_eq_false hq, Bool.false_and]; exact hjt
def totalN (l : List SOp) : Nat := (l.map runesN).sum
theorem totalN_take (l : List SOp) (i : Nat) (h : i < l.length) : totalN (l.take (i + 1)) = totalN (l.take i) + runesN l[i] := by
  unfold totalN; rw [List.take_succ_eq_append_getElem h, List.map_append, List.sum_append]; simp
theorem sizeOf_le (o : SOp) : sizeOf' o ≤ o.f4.size := decFrom_len _ _ _
theorem Fits_loop (l : List SOp) (h40 : l.length ≤ 40) (hl : SmL l) : ∀ d i, i + d = l.length → totalN (l.take i) ≤ i * 35184372088000 → Ev (fun k => lectionaryref4_Fits.l0 k l (totalN (l.take i) : Int) (i : Int)) (decide (totalN l ≤ 200))
  | 0, i, h, _ => by
    rw [List.take_of_length_le (by omega)]
    have : decide ((totalN l : Int) ≤ 200) = decide (totalN l ≤ 200) := decide_eq_decide.2 (by omega)
    exact Ev.step (f := fun _ => some (decide (totalN l ≤ 200))) (fun k => by simp only [lectionaryref4_Fits.l0]; rw [if_neg (by omega), if_pos (by omega), this]) (Ev.now _)
  | d + 1, i, h, ht => by
    have hlt : i < l.length := by omega
    have hr : runesN l[i] ≤ 35184372088000 := by
      have := (hl.ops _ (List.getElem_mem hlt)).1
      have := sizeOf_le l[i]
      unfold runesN; split <;> omega
    have e := totalN_take l i hlt
    have ih := Fits_loop l h40 hl d (i + 1) (by omega) (by rw [e]; omega)
    rw [e] at ih
    have hR := RunesO_ev l[i] (hl.ops _ (List.getElem_mem hlt)).1
    refine Ev.step (fun k => ?_) (Ev.bind (f := fun k t => lectionaryref4_Fits.l0 k l (wrap64 ((totalN (l.take i) : Int) + t)) ((i + 1 : Nat) : Int)) hR ?_)
    · simp only [lectionaryref4_Fits.l0]
      rw [if_pos (by omega), if_pos (by omega), if_pos (by omega), rd_Op_nat _ _ hlt, wrapS hlt (by omega)]
    · rw [wrap64_small (by omega) (by omega)]
      exact ih
theorem Fits_ev (l : List SOp) (h40 : l.length ≤ 40) (hl : SmL l) : Ev (fun k => lectionaryref4_Fits.f k l) (decide (totalN l ≤ 200)) := by
  have h := Fits_loop l h40 hl l.length 0 (Nat.zero_add _) (by rw [List.take_zero]; exact Nat.zero_le _)
  have e : totalN (l.take 0) = 0 := by rw [List.take_zero]; rfl
  rw [e] at h
  exact h
def rowR (l : List SOp) (i : Nat) : Bool := (List.range' i (l.length - i)).all (fun j => goesN (l.take j) (rd_Op l (j : Int))) && decide (totalN l ≤ 200)
theorem Row_loop (l : List SOp) (h40 : l.length ≤ 40) (hl : SmL l) : ∀ d i, i + d = l.length → Ev (fun k => lectionaryref4_Row.l0 k l (i : Int)) (rowR l i)
  | 0, i, h => by
    unfold rowR
    rw [show l.length - i = 0 by omega]
    simp only [List.range'_zero, List.all_nil, Bool.true_and]
    refine Ev.step (fun k => by simp only [lectionaryref4_Row.l0]; rw [if_neg (by omega)]) (Ev.bind (f := fun _ t => some t) (Fits_ev l h40 hl) (Ev.now _))
  | d + 1, i, h => by
    have hlt : i < l.length := by omega
    have ih := Row_loop l h40 hl d (i + 1) (by omega)
    have hG := Goes_ev (l.take i) (hl.take i) l[i] (hl.ops _ (List.getElem_mem hlt))
    unfold rowR at ih ⊢
    rw [show l.length - i = (l.length - (i + 1)) + 1 by omega, List.range'_succ, List.all_cons, rd_Op_nat _ _ hlt]
    refine Ev.step (fun k => ?_) (Ev.bind (f := fun k t => if t = true then lectionaryref4_Row.l0 k l ((i + 1 : Nat) : Int) else some false) hG ?_)
    · simp only [lectionaryref4_Row.l0]
      rw [if_pos (by omega), if_pos (by omega), if_pos (by omega), rd_Op_nat _ _ hlt, Int.toNat_natCast, wrapS hlt (by omega)]
    · cases goesN (l.take i) l[i]
      · simp only [Bool.false_and, Bool.false_eq_true, if_false]; exact Ev.now _
      · simp only [Bool.true_and, if_true]; exact ih
theorem writtenN_wr {l : List SOp} (hr : RowOk l) (e : SElem) : writtenN l e = true ↔ wr l e := by
  unfold writtenN wr
  rw [Bool.or_eq_true]
  refine or_congr Iff.rfl ?_
  simp only [Bool.and_eq_true, decide_eq_true_eq]
  constructor
  · rintro ⟨⟨h0, h1⟩, h2⟩
    rcases findOp_cases l e.f0 e.f1 with ⟨i, hi, e0, e1, _, ef⟩ | ⟨_, ef⟩
    · rw [ef, rd_Op_nat _ _ hi, opOk_text (hr.oks _ (List.getElem_mem hi))] at h2
      exact ⟨h1, l[i], List.getElem_mem hi, e0, e1, h2⟩
    · omega
  · rintro ⟨h1, p, hp, e0, e1, h2⟩
    obtain ⟨i, hi, ef, ei⟩ := findOp_mem hr hp
    rw [← e0, ← e1, ef, rd_Op_nat _ _ hi, ei, opOk_text (hr.oks p hp)]
    exact ⟨⟨by omega, h1⟩, h2⟩
theorem editN_iff {l : List SOp} (hr : RowOk l) (a b : Int) : editN l a b = true ↔ ∃ p ∈ l, p.f2 = 1 ∧ p.f0 = a ∧ p.f1 = b := by
  unfold editN
  simp only [Bool.and_eq_true, decide_eq_true_eq, beq_iff_eq]
  constructor
  · rintro ⟨h0, h1⟩
    rcases findOp_cases l a b with ⟨i, hi, e0, e1, _, ef⟩ | ⟨_, ef⟩
    · rw [ef, rd_Op_nat _ _ hi] at h1; exact ⟨l[i], List.getElem_mem hi, h1, e0, e1⟩
    · omega
  · rintro ⟨p, hp, h2, rfl, rfl⟩
    obtain ⟨i, hi, ef, ei⟩ := findOp_mem hr hp
    rw [ef, rd_Op_nat _ _ hi, ei]
    exact ⟨by omega, h2⟩
theorem goesN_iff {l : List SOp} (hr : RowOk l) (o : SOp) : goesN l o = true ↔ GoesR l o := by
  unfold goesN
  simp only [Bool.and_eq_true, decide_eq_true_eq, Bool.or_eq_true, beq_iff_eq, List.all_eq_true, writtenN_wr hr, editN_iff hr]
  constructor
  · rintro ⟨h1, h2, h3, h4, h5⟩
    exact ⟨h1, h2, h3, h4, fun e => h5.elim (fun e1 => by omega) id⟩
  · intro h
    refine ⟨h.ok, h.seq, h.after, h.gone, ?_⟩
    rcases opOk_kinds h.ok with ⟨e, _⟩ | ⟨e, _⟩
    · exact .inl e
    · exact .inr (h.tog e)
theorem totalN_eq {l : List SOp} (h : ∀ o ∈ l, opOk o = true) : totalN l = total l := by
  unfold totalN total
  rw [List.map_congr_left (fun o ho => opOk_text (h o ho))]
theorem rowR_iff (l : List SOp) (h40 : l.length ≤ 40) : rowR l 0 = true ↔ RowOk l := by
  unfold rowR
  rw [Nat.sub_zero]
  simp only [Bool.and_eq_true, decide_eq_true_eq, List.all_eq_true, List.mem_range'_1]
  constructor
  · rintro ⟨h1, h2⟩
    have key : ∀ n, n ≤ l.length → (∀ i (h : i < l.length), i < n → GoesR (l.take i) l[i]) ∧ (∀ o ∈ l.take n, opOk o = true) ∧ RowOk (l.take n) := by
      intro n
      induction n with
      | zero => intro _; exact ⟨fun i _ h => by omega, fun o ho => by simp at ho, by simpa using RowOk.nil⟩
      | succ n ih =>
        intro hn
        obtain ⟨a, b, c⟩ := ih (by omega)
        have hlt : n < l.length := by omega
        have g := h1 n ⟨Nat.zero_le _, by omega⟩
        rw [rd_Op_nat _ _ hlt] at g
        have g' := (goesN_iff c l[n]).1 g
        have b' : ∀ o ∈ l.take (n + 1), opOk o = true := by
          rw [List.take_succ_eq_append_getElem hlt]
          intro o ho
          rcases List.mem_append.1 ho with ho | ho
          · exact b o ho
          · simp at ho; subst ho; exact g'.ok
        refine ⟨fun i hi hin => ?_, b', ?_⟩
        · by_cases e : i = n
          · subst e; exact g'
          · exact a i hi (by omega)
        · rw [List.take_succ_eq_append_getElem hlt]
          refine .snoc c ⟨by rw [List.length_take]; omega, g'.ok, g'.seq, g'.after, g'.gone, g'.tog, ?_⟩
          have t1 := totalN_eq b'
          rw [List.take_succ_eq_append_getElem hlt, total_app] at t1
          have t2 : totalN (l.take (n + 1)) ≤ totalN l := by
            have : totalN (l.take (n + 1)) + totalN (l.drop (n + 1)) = totalN l := by
              unfold totalN; rw [← List.sum_append, ← List.map_append, List.take_append_drop]
            omega
          rw [List.take_succ_eq_append_getElem hlt] at t2
          omega
    have := (key l.length (Nat.le_refl _)).2.2
    rwa [List.take_length] at this
  · intro h
    refine ⟨fun j hj => ?_, by rw [totalN_eq h.oks]; exact h.sums.2⟩
    rw [rd_Op_nat _ _ (by omega)]
    exact (goesN_iff (h.take j) _).2 (((RowOk_iff l).1 h).2.2 j (by omega))
theorem Row_ev (l : List SOp) (hl : SmL l) : Ev (fun k => lectionaryref4_Row.f k l) (mayB l) := by
  unfold lectionaryref4_Row.f
  by_cases h40 : l.length ≤ 40
  · have n40 : ¬ (l.length : Int) > 40 := by omega
    simp only [if_neg n40]
    have : mayB l = rowR l 0 := by rw [Bool.eq_iff_iff, mayB_iff, rowR_iff l h40]
    rw [this]
    exact Row_loop l h40 hl l.length 0 (Nat.zero_add _)
  · have n40 : (l.length : Int) > 40 := by omega
    simp only [if_pos n40]
    have : mayB l = false := by unfold mayB; simp [h40]
    rw [this]; exact Ev.now _
end Go.Proofs.YtdahgnalojekdaaDoor.L
end

section
namespace Go.Proofs.YtdahgnalojekdaaDoor.L
open Go.RowKit Go.Proofs.YtdahgnalojekdaaDoorW.PrintWords Go.Proofs.YtdahgnalojekdaaDoorW.PrintLast Go.Proofs.YtdahgnalojekdaaDoorW.PrintMore
set_option linter.unusedVariables false
set_option linter.unusedSimpArgs false
theorem wakes5_f : lectionarylaw5_wakes.f = some true := by decide +kernel
def opA (i : Nat) : SOp := ⟨((1 + i % 4 : Nat) : Int), ((1 + i / 4 : Nat) : Int), 1, ⟨0, 0, 0⟩, ⟨#[97]⟩, [], 0, 0, 0⟩
def rowA (n : Nat) : List SOp := (List.range n).map opA
theorem rowA_succ (n : Nat) : rowA (n + 1) = rowA n ++ [opA n] := by simp [rowA, List.range_succ]
theorem rowA_len (n : Nat) : (rowA n).length = n := by simp [rowA]
theorem rowA_40 : RowOk (rowA 40) := (mayB_iff _).1 (by decide +kernel)
theorem rowA_take (n m : Nat) (h : n ≤ m) : (rowA m).take n = rowA n := by
  unfold rowA
  rw [← List.map_take, List.take_range, Nat.min_eq_left h]
theorem rowA_may (n : Nat) : mayB (rowA n) = decide (n ≤ 40) := by
  by_cases h : n ≤ 40
  · rw [decide_eq_true h]
    exact (mayB_iff _).2 (by rw [← rowA_take n 40 h]; exact rowA_40.take n)
  · rw [decide_eq_false h]
    unfold mayB; rw [rowA_len, decide_eq_false h]; rfl
theorem rowA_smalls (n : Nat) (h : n ≤ 42) : smalls (rowA n) = true := by
  refine good_smalls ⟨by rw [rowA_len]; omega, fun o ho => ?_⟩
  unfold rowA at ho
  obtain ⟨i, _, rfl⟩ := List.mem_map.1 ho
  exact ⟨by show (⟨#[97]⟩ : ByteArray).size ≤ _; decide, by show ([] : List SElem).length ≤ _; simp⟩
theorem opA_eq (i : Nat) (h : i < 42) : (⟨wrap64 (1 + (Int.tmod (i : Int) 4)), wrap64 (1 + (wrap64 (Int.tdiv (i : Int) 4))), 1, (⟨0, 0, 0⟩ : SElem), (⟨#[97]⟩ : ByteArray), ([] : List (SElem)), 0, 0, 0⟩ : SOp) = opA i := by
  unfold opA
  rw [Int.tmod_eq_emod_of_nonneg (by omega), Int.tdiv_eq_ediv_of_nonneg (by omega), wrap64_small (i := (i : Int) / 4) (by omega) (by omega), wrap64_small (by omega) (by omega), wrap64_small (by omega) (by omega)]
  congr 1
section
variable {l0 : List (List SOp)} {l1 : List SElem} {l2 : List SOp} {l3 : List Int}
theorem TLim_l1 : ∀ d i (x : List SOp), i + d = 20 → x.length = i → (∀ o ∈ x, o.f4.size ≤ 12 ∧ o.f5 = []) → Ev (fun k => lectionarylaw5_TreeLimits.l1 k x (i : Int) l0 l1 l2 l3) true
  | 0, i, x, h, hx, hs => by
    refine Ev.step (f := fun _ => some true) (fun k => ?_) (Ev.now _)
    simp only [lectionarylaw5_TreeLimits.l1]
    rw [if_neg (by omega), if_pos (by omega), wakes5_f]
    rfl
  | d + 1, i, x, h, hx, hs => by
    have hm : wrap64 (10 + (Int.tmod (i : Int) 3)) = ((10 + i % 3 : Nat) : Int) := by
      rw [Int.tmod_eq_emod_of_nonneg (by omega), wrap64_small (by omega) (by omega)]; omega
    generalize hy : x ++ [(⟨1, wrap64 (1 + (i : Int)), 1, (⟨0, 0, 0⟩ : SElem), (⟨#[48, 49, 50, 51, 52, 53, 54, 55, 56, 57, 97, 98]⟩ : ByteArray).extract 0 ((((10 + i % 3 : Nat) : Int)) : Int).toNat, ([] : List (SElem)), 0, 0, 0⟩ : SOp)] = y
    have hys : ∀ o ∈ y, o.f4.size ≤ 12 ∧ o.f5 = [] := by
      rw [← hy]
      intro o ho
      rcases List.mem_append.1 ho with ho | ho
      · exact hs o ho
      · rw [List.mem_singleton] at ho
        subst ho
        refine ⟨?_, rfl⟩
        show ByteArray.size (ByteArray.extract _ _ _) ≤ 12
        rw [ByteArray.size_extract]
        have : (⟨#[48, 49, 50, 51, 52, 53, 54, 55, 56, 57, 97, 98]⟩ : ByteArray).size = 12 := rfl
        omega
    have hyl : y.length = i + 1 := by rw [← hy]; simp [hx]
    have hsm : smalls y = true := good_smalls ⟨by omega, fun o ho => by have := hys o ho; rw [this.2]; exact ⟨by omega, by simp⟩⟩
    have hSm : SmL y := ⟨by omega, fun o ho => by have := hys o ho; unfold Sm2; rw [this.2]; exact ⟨by omega, by simp⟩⟩
    have ih := TLim_l1 d (i + 1) y (by omega) hyl hys
    have hR := Row_ev y hSm
    refine Ev.step (f := fun k => (lectionaryref4_Row.f k y).bind fun t => if (mayB y != t) = true then some false else lectionarylaw5_TreeLimits.l1 k y ((i + 1 : Nat) : Int) l0 l1 l2 l3) (fun k => ?_) (Ev.bind (f := fun k t => if (mayB y != t) = true then some false else lectionarylaw5_TreeLimits.l1 k y ((i + 1 : Nat) : Int) l0 l1 l2 l3) hR ?_)
    · simp only [lectionarylaw5_TreeLimits.l1]
      rw [hm, if_pos (by omega), if_pos (by omega), if_pos (by omega), if_pos (by omega), hy, Option.bind_some, tree_Check_f hsm, Option.bind_some]
      unfold lectionarylaw5_num.f
      rw [Option.bind_some, wrapS (show i < 20 by omega) (by omega)]
      have : (((if mayB y = true then (0 : Int) else 1) == 0) : Bool) = mayB y := by cases mayB y <;> rfl
      rw [this]
    · simp only [bne_self_eq_false, Bool.false_eq_true, if_false]
      exact ih
theorem TLim_l0 : ∀ d i, i + d = 42 → Ev (fun k => lectionarylaw5_TreeLimits.l0 k (rowA i) (i : Int) l0 l1 l2 l3) true
  | 0, i, h => by
    refine Ev.step (fun k => ?_) (TLim_l1 (l0 := l0) (l1 := l1) (l2 := l2) (l3 := l3) 20 0 [] (by omega) rfl (fun o ho => by cases ho))
    simp only [lectionarylaw5_TreeLimits.l0]
    rw [if_neg (by omega)]
    rfl
  | d + 1, i, h => by
    have ih := TLim_l0 d (i + 1) (by omega)
    refine Ev.step (fun k => ?_) ih
    simp only [lectionarylaw5_TreeLimits.l0]
    rw [if_pos (by omega), rowA_len, if_pos (by omega), opA_eq i (by omega), ← rowA_succ, Option.bind_some, tree_Check_f (rowA_smalls _ (by omega)), Option.bind_some]
    unfold lectionarylaw5_num.f
    rw [Option.bind_some, rowA_may, rowA_len, wrapS (show i < 42 by omega) (by omega)]
    have e1 : decide (((i + 1 : Nat) : Int) ≤ 40) = decide (i + 1 ≤ 40) := decide_eq_decide.2 (by omega)
    rw [e1]
    by_cases h40 : i + 1 ≤ 40
    · rw [decide_eq_true h40]; rfl
    · rw [decide_eq_false h40]; rfl
end
theorem PureTreeLimits (l0 : List (List SOp)) (l1 : List SElem) (l2 : List SOp) (l3 : List Int) (hg : GoodAsk l0 l1 l2 l3) : ∃ k, lectionarylaw5_TreeLimits.f k l0 l1 l2 l3 = some true :=
  Ev.rounds (TLim_l0 42 0 (Nat.zero_add _))
end Go.Proofs.YtdahgnalojekdaaDoor.L
end
