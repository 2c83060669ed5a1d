/- Part 6 of the proof that for every argument the laws TreeBegins, TreeChains, TreeForks and TreeMixed answer true: where all is written behind the begin, each into the last one, some behind the same elements, or here and there, the order is the page's, by rows made here; the cards tie the two tables of unicode/utf8 that are laid -/
import Derived.Test.YtdahgnalojekdaaDoorZTO5
import Derived.Shelf.Unicode.DecodeAny
section
namespace Go.Proofs
open Go.Shelf
def Tryd.lays197_ren : Go.Shelf.Ren := ⟨fun | 197 => 103 | 260 => 143 | n => n, fun | 9 => 9 | 21 => 21 | 3 => 3 | 4 => 4 | 5 => 5 | 105 => 107 | 119 => 172 | 0 => 0 | 46 => 123 | 139 => 175 | 138 => 174 | n => n, fun | 3 => 0 | 4 => 1 | n => n⟩
theorem Tryd.lays197 : Go.Proofs.Lays.n197 Tryd.prog Tryd.lays197_ren := {
  mixed := by kernel_rfl
  f197 := Tryd.func103.trans (congrArg some (by kernel_rfl))
  f260 := Tryd.func143.trans (congrArg some (by kernel_rfl))
  t0 := Tryd.underlying0
  a0 := Tryd.isAgg0
  z0 := Tryd.sizeOf0
  v0 := Tryd.zeroValue0
  t3 := Tryd.underlying3
  a3 := Tryd.isAgg3
  z3 := Tryd.sizeOf3
  v3 := Tryd.zeroValue3
  t4 := Tryd.underlying4
  a4 := Tryd.isAgg4
  z4 := Tryd.sizeOf4
  v4 := Tryd.zeroValue4
  t5 := Tryd.underlying5
  a5 := Tryd.isAgg5
  z5 := Tryd.sizeOf5
  v5 := Tryd.zeroValue5
  t9 := Tryd.underlying9
  a9 := Tryd.isAgg9
  z9 := Tryd.sizeOf9
  v9 := Tryd.zeroValue9
  t21 := Tryd.underlying21
  a21 := Tryd.isAgg21
  z21 := Tryd.sizeOf21
  v21 := Tryd.zeroValue21
  t46 := Tryd.underlying123
  a46 := Tryd.isAgg123
  z46 := Tryd.sizeOf123
  v46 := Tryd.zeroValue123
  t105 := Tryd.underlying107
  a105 := Tryd.isAgg107
  z105 := Tryd.sizeOf107
  v105 := Tryd.zeroValue107
  t119 := Tryd.underlying172
  a119 := Tryd.isAgg172
  z119 := Tryd.sizeOf172
  t138 := Tryd.underlying174
  a138 := Tryd.isAgg174
  z138 := Tryd.sizeOf174
  v138 := Tryd.zeroValue174
  t139 := Tryd.underlying175
  a139 := Tryd.isAgg175
  z139 := Tryd.sizeOf175
  v139 := Tryd.zeroValue175
  g3 := by kernel_rfl
  g4 := by kernel_rfl }
def Tryd.lays260_ren : Go.Shelf.Ren := ⟨fun | 260 => 143 | n => n, fun | 9 => 9 | 21 => 21 | 3 => 3 | 4 => 4 | 5 => 5 | 119 => 172 | 0 => 0 | 46 => 123 | 139 => 175 | 138 => 174 | n => n, fun | 3 => 0 | 4 => 1 | n => n⟩
theorem Tryd.lays260 : Go.Proofs.Lays.n260 Tryd.prog Tryd.lays260_ren := {
  mixed := by kernel_rfl
  f260 := Tryd.func143.trans (congrArg some (by kernel_rfl))
  t0 := Tryd.underlying0
  a0 := Tryd.isAgg0
  z0 := Tryd.sizeOf0
  v0 := Tryd.zeroValue0
  t3 := Tryd.underlying3
  a3 := Tryd.isAgg3
  z3 := Tryd.sizeOf3
  v3 := Tryd.zeroValue3
  t4 := Tryd.underlying4
  a4 := Tryd.isAgg4
  z4 := Tryd.sizeOf4
  v4 := Tryd.zeroValue4
  t5 := Tryd.underlying5
  a5 := Tryd.isAgg5
  z5 := Tryd.sizeOf5
  v5 := Tryd.zeroValue5
  t9 := Tryd.underlying9
  a9 := Tryd.isAgg9
  z9 := Tryd.sizeOf9
  v9 := Tryd.zeroValue9
  t21 := Tryd.underlying21
  a21 := Tryd.isAgg21
  z21 := Tryd.sizeOf21
  v21 := Tryd.zeroValue21
  t46 := Tryd.underlying123
  a46 := Tryd.isAgg123
  z46 := Tryd.sizeOf123
  v46 := Tryd.zeroValue123
  t119 := Tryd.underlying172
  a119 := Tryd.isAgg172
  z119 := Tryd.sizeOf172
  t138 := Tryd.underlying174
  a138 := Tryd.isAgg174
  z138 := Tryd.sizeOf174
  v138 := Tryd.zeroValue174
  t139 := Tryd.underlying175
  a139 := Tryd.isAgg175
  z139 := Tryd.sizeOf175
  v139 := Tryd.zeroValue175
  g3 := by kernel_rfl
  g4 := by kernel_rfl }
end Go.Proofs
namespace Go.Proofs.YtdahgnalojekdaaDoor.L
open Go.RowKit Go.Proofs.YtdahgnalojekdaaDoorW.PrintWords
def utf8_DecodeRuneInString.f (a0 : ByteArray) : Option (Int × Int) := some (((Lib.decodeGo a0).1 : Int), ((Lib.decodeGo a0).2 : Int))
theorem utf8_DecodeRuneInString.calls (a0 : ByteArray) (r1 : Int) (r2 : Int) (w : World) (hT : GT w) (h : utf8_DecodeRuneInString.f a0 = some (r1, r2)) :
    Calls Tryd.prog 103 #[.string a0] w fun e w' => e = .returned (.tuple #[.int .i32 r1, .int .i64 r2]) ∧ Below w.heap.size w w' := by
  unfold utf8_DecodeRuneInString.f at h
  injection h with h
  injection h with h1 h2
  subst h1 h2
  exact Any.utf8_DecodeRuneInString Tryd.lays197 a0 w hT
end Go.Proofs.YtdahgnalojekdaaDoor.L
end

section
namespace Go.Proofs.YtdahgnalojekdaaDoor.L
open Go.RowKit Go.Proofs.YtdahgnalojekdaaDoorW.PrintWords Go.Proofs.YtdahgnalojekdaaDoorW.PrintLast Go.Proofs.YtdahgnalojekdaaDoorW.PrintMore
attribute [local go_sem] max2_int min2_int max_two min_two max_three min_three max_four min_four
set_option linter.unusedVariables false
set_option linter.unusedSimpArgs false
attribute [local go_sem high] eqAElem
def lectionaryref1_Rune.f (a0 : Int) : Option (Bool) := if a0 = 10 then (some true) else (if a0 ≥ 32 then (if a0 ≤ 55295 then (if a0 = 127 then (if a0 ≥ 57344 then (if a0 ≤ 1114111 then (some (a0 != 65533)) else (some false)) else (some false)) else (some true)) else (if a0 ≥ 57344 then (if a0 ≤ 1114111 then (some (a0 != 65533)) else (some false)) else (some false))) else (if a0 ≥ 57344 then (if a0 ≤ 1114111 then (some (a0 != 65533)) else (some false)) else (some false)))
set_option maxHeartbeats 8000000 in
set_option maxRecDepth 100000 in
theorem lectionaryref1_Rune.calls (a0 : Int) (r : Bool) (w : World) (h : lectionaryref1_Rune.f a0 = some r) :
  Calls Tryd.prog 104 #[.int .i32 a0] w fun e w' => e = .returned (.bool r) ∧ Drawn0 w w' := by
 have H : (if a0 = 10 then (some true) else (if a0 ≥ 32 then (if a0 ≤ 55295 then (if a0 = 127 then (if a0 ≥ 57344 then (if a0 ≤ 1114111 then (some (a0 != 65533)) else (some false)) else (some false)) else (some true)) else (if a0 ≥ 57344 then (if a0 ≤ 1114111 then (some (a0 != 65533)) else (some false)) else (some false))) else (if a0 ≥ 57344 then (if a0 ≤ 1114111 then (some (a0 != 65533)) else (some false)) else (some false)))) = some r := h
 clear h
 by_cases c2 : a0 = 10
 ·rw [if_pos c2] at H
  have c2b0 : (a0 == 10) = true := beq_iff_eq.mpr c2
  have c2b1 : (a0 != 10) = false := bne_eq_false_iff_eq.mpr c2
  clear c2
  obtain rfl := Option.some.inj H
  go_enter Tryd.func104, Tryd.ntmps104
  go_wp2
  go_ret
  exact ⟨rf, by repeat (first | exact Drawn0.refl _ | apply Drawn0.step)⟩
 rw [if_neg c2] at H
 have c2b0 : (a0 == 10) = false := beq_eq_false_iff_ne.mpr c2
 have c2b1 : (a0 != 10) = true := bne_iff_ne.mpr c2
 by_cases c3 : a0 ≥ 32
 ·rw [if_pos c3] at H
  have c3b0 : decide (32 ≤ a0) = true := decide_eq_true c3
  clear c3
  by_cases c4 : a0 ≤ 55295
  ·rw [if_pos c4] at H
   have c4b0 : decide (a0 ≤ 55295) = true := decide_eq_true c4
   clear c4
   by_cases c5 : a0 = 127
   ·rw [if_pos c5] at H
    have c5b0 : (a0 == 127) = true := beq_iff_eq.mpr c5
    have c5b1 : (a0 != 127) = false := bne_eq_false_iff_eq.mpr c5
    clear c5
    by_cases c6 : a0 ≥ 57344
    ·rw [if_pos c6] at H
     have c6b0 : decide (57344 ≤ a0) = true := decide_eq_true c6
     clear c6
     by_cases c7 : a0 ≤ 1114111
     ·rw [if_pos c7] at H
      have c7b0 : decide (a0 ≤ 1114111) = true := decide_eq_true c7
      clear c7
      obtain rfl := Option.some.inj H
      go_enter Tryd.func104, Tryd.ntmps104
      go_wp2
      go_ret
      exact ⟨rf, by repeat (first | exact Drawn0.refl _ | apply Drawn0.step)⟩
     rw [if_neg c7] at H
     have c7b0 : decide (a0 ≤ 1114111) = false := decide_eq_false c7
     clear c7
     obtain rfl := Option.some.inj H
     go_enter Tryd.func104, Tryd.ntmps104
     go_wp2
     go_ret
     exact ⟨rf, by repeat (first | exact Drawn0.refl _ | apply Drawn0.step)⟩
    rw [if_neg c6] at H
    have c6b0 : decide (57344 ≤ a0) = false := decide_eq_false c6
    clear c6
    obtain rfl := Option.some.inj H
    go_enter Tryd.func104, Tryd.ntmps104
    go_wp2
    go_ret
    exact ⟨rf, by repeat (first | exact Drawn0.refl _ | apply Drawn0.step)⟩
   rw [if_neg c5] at H
   have c5b0 : (a0 == 127) = false := beq_eq_false_iff_ne.mpr c5
   have c5b1 : (a0 != 127) = true := bne_iff_ne.mpr c5
   obtain rfl := Option.some.inj H
   go_enter Tryd.func104, Tryd.ntmps104
   go_wp2
   go_ret
   exact ⟨rf, by repeat (first | exact Drawn0.refl _ | apply Drawn0.step)⟩
  rw [if_neg c4] at H
  have c4b0 : decide (a0 ≤ 55295) = false := decide_eq_false c4
  clear c4
  by_cases c8 : a0 ≥ 57344
  ·rw [if_pos c8] at H
   have c8b0 : decide (57344 ≤ a0) = true := decide_eq_true c8
   clear c8
   by_cases c9 : a0 ≤ 1114111
   ·rw [if_pos c9] at H
    have c9b0 : decide (a0 ≤ 1114111) = true := decide_eq_true c9
    clear c9
    obtain rfl := Option.some.inj H
    go_enter Tryd.func104, Tryd.ntmps104
    go_wp2
    go_ret
    exact ⟨rf, by repeat (first | exact Drawn0.refl _ | apply Drawn0.step)⟩
   rw [if_neg c9] at H
   have c9b0 : decide (a0 ≤ 1114111) = false := decide_eq_false c9
   clear c9
   obtain rfl := Option.some.inj H
   go_enter Tryd.func104, Tryd.ntmps104
   go_wp2
   go_ret
   exact ⟨rf, by repeat (first | exact Drawn0.refl _ | apply Drawn0.step)⟩
  rw [if_neg c8] at H
  have c8b0 : decide (57344 ≤ a0) = false := decide_eq_false c8
  clear c8
  obtain rfl := Option.some.inj H
  go_enter Tryd.func104, Tryd.ntmps104
  go_wp2
  go_ret
  exact ⟨rf, by repeat (first | exact Drawn0.refl _ | apply Drawn0.step)⟩
 rw [if_neg c3] at H
 have c3b0 : decide (32 ≤ a0) = false := decide_eq_false c3
 clear c3
 by_cases c10 : a0 ≥ 57344
 ·rw [if_pos c10] at H
  have c10b0 : decide (57344 ≤ a0) = true := decide_eq_true c10
  clear c10
  by_cases c11 : a0 ≤ 1114111
  ·rw [if_pos c11] at H
   have c11b0 : decide (a0 ≤ 1114111) = true := decide_eq_true c11
   clear c11
   obtain rfl := Option.some.inj H
   go_enter Tryd.func104, Tryd.ntmps104
   go_wp2
   go_ret
   exact ⟨rf, by repeat (first | exact Drawn0.refl _ | apply Drawn0.step)⟩
  rw [if_neg c11] at H
  have c11b0 : decide (a0 ≤ 1114111) = false := decide_eq_false c11
  clear c11
  obtain rfl := Option.some.inj H
  go_enter Tryd.func104, Tryd.ntmps104
  go_wp2
  go_ret
  exact ⟨rf, by repeat (first | exact Drawn0.refl _ | apply Drawn0.step)⟩
 rw [if_neg c10] at H
 have c10b0 : decide (57344 ≤ a0) = false := decide_eq_false c10
 clear c10
 obtain rfl := Option.some.inj H
 go_enter Tryd.func104, Tryd.ntmps104
 go_wp2
 go_ret
 exact ⟨rf, by repeat (first | exact Drawn0.refl _ | apply Drawn0.step)⟩
def lectionaryref1_Runes.l0 : Nat → ByteArray → List Int → Int → Option (List Int × Bool)
 | 0, _, _, _ => none
 | k + 1, x0, x4, x5 => if x5 < (x0.size : Int) then (if 0 ≤ x5 then (if x5 ≤ (x0.size : Int) then ((utf8_DecodeRuneInString.f (x0.extract (x5 : Int).toNat x0.size)).bind fun bt148 => ((lectionaryref1_Rune.f bt148.1).bind fun t150 => (if t150 = true then (if x4.length < 35184372088832 then (lectionaryref1_Runes.l0 k x0 (x4 ++ [bt148.1]) (wrap64 (x5 + bt148.2))) else (none)) else (some (([] : List Int), false))))) else (none)) else (none)) else (some (x4, true))
def lectionaryref1_Runes.f (k : Nat) (a0 : ByteArray) : Option (List Int × Bool) := lectionaryref1_Runes.l0 k a0 ([] : List Int) 0
set_option maxHeartbeats 8000000 in
set_option maxRecDepth 100000 in
theorem lectionaryref1_Runes.calls (k : Nat) (a0 : ByteArray) (r1 : List Int) (r2 : Bool) (w : World) (hT : GT w) (h : lectionaryref1_Runes.f k a0 = some (r1, r2)) :
  Calls Tryd.prog 50 #[.string a0] w fun e w' => ∃ v0_ : Value, e = .returned (.tuple #[v0_, .bool r2]) ∧ Kd.R (Kd.int .i32) 21 w' w.heap.size (fun _ => True) v0_ r1 ∧ Below w.heap.size w w' := by
 have HB := Aside0.mk (Below.refl w.heap.size w)
 have H : (lectionaryref1_Runes.l0 k a0 ([] : List Int) 0) = some (r1, r2) := h
 clear h
 have H' := Aside0.mk H
 clear H
 go_enter Tryd.func50, Tryd.ntmps50
 go_wp2
 go_loopg [4, 5] k (fun kq v4 v5 w' => ∃ (x4_1 : List Int) (x5_1 : Int), v5 = .int .i64 x5_1 ∧ Aside0 (lectionaryref1_Runes.l0 kq a0 x4_1 x5_1 = some (r1, r2)) ∧ Aside0 (kq ≤ k) ∧ Aside0 (Kd.R (Kd.int .i32) 21 w' w.heap.size (fun _ => True) v4 x4_1) ∧ Aside0 (Below w.heap.size w w'))
 case atStart => exact ⟨(([] : List Int)), (0), rf, H', ⟨Nat.le_refl _⟩, ⟨by first | exact Kd.R_nil _ _ _ _ _ | exact Kd.N_nil _ _ _ _ _ | exact Kd.V_nil _ _ _ _ _ | exact Kd.Q_nil _ _ _ _ _ | exact Kd.S_nil _ _ _ _ _⟩, ⟨bw HB⟩⟩
 case round =>
  clear H'
  obtain ⟨x4_1, x5_1, rfl, HA, HK1, HO_4, HB⟩ := hrel
  cases gk with
  | zero => exact absurd HA.out (by simp [lectionaryref1_Runes.l0])
  | succ k1 =>
   have H := HA.out
   clear HA
   simp only [lectionaryref1_Runes.l0] at H
   by_cases c2 : x5_1 < (a0.size : Int)
   ·rw [if_pos c2] at H
    have c2b0 : decide (x5_1 < (a0.size : Int)) = true := decide_eq_true c2
    clear c2
    by_cases c3 : 0 ≤ x5_1
    ·rw [if_pos c3] at H
     have c3b0 := eq_true c3
     have c3b1 : decide (0 ≤ x5_1) = true := decide_eq_true c3
     clear c3
     by_cases c4 : x5_1 ≤ (a0.size : Int)
     ·rw [if_pos c4] at H
      have c4b0 := eq_true c4
      have c4b1 : decide (x5_1 ≤ (a0.size : Int)) = true := decide_eq_true c4
      clear c4
      replace H := Option.bind_eq_some_iff.mp H
      obtain ⟨⟨t148, t149⟩, A50, H⟩ := H
      replace H : ((lectionaryref1_Rune.f t148).bind fun t150 => (if t150 = true then (if x4_1.length < 35184372088832 then (lectionaryref1_Runes.l0 k1 a0 (x4_1 ++ [t148]) (wrap64 (x5_1 + t149))) else (none)) else (some (([] : List Int), false)))) = some (r1, r2) := H
      have A5 := Aside0.mk A50
      clear A50
      replace H := Option.bind_eq_some_iff.mp H
      obtain ⟨t150, A60, H⟩ := H
      replace H : (if t150 = true then (if x4_1.length < 35184372088832 then (lectionaryref1_Runes.l0 k1 a0 (x4_1 ++ [t148]) (wrap64 (x5_1 + t149))) else (none)) else (some (([] : List Int), false))) = some (r1, r2) := H
      have A6 := Aside0.mk A60
      clear A60
      by_cases c7 : t150 = true
      ·subst c7
       have H1 : (if x4_1.length < 35184372088832 then (lectionaryref1_Runes.l0 k1 a0 (x4_1 ++ [t148]) (wrap64 (x5_1 + t149))) else (none)) = some (r1, r2) := by rw [if_pos rfl] at H; exact H
       clear H
       have H := H1
       clear H1
       by_cases c8 : x4_1.length < 35184372088832
       ·rw [if_pos c8] at H
        have LMc8 := Aside0.mk c8
        clear c8
        obtain ⟨y151, hy151⟩ : ∃ y_ : List Int, y_ = (x4_1 ++ [t148]) := ⟨_, rfl⟩
        replace H : (lectionaryref1_Runes.l0 k1 a0 y151 (wrap64 (x5_1 + t149))) = some (r1, r2) := by first | (rw [hy151]; with_reducible exact H) | (have H2_ := (Option.bind_some _ _).symm.trans H; rw [hy151]; with_reducible exact H2_) | (have H2_ := (Option.bind_some _ _).symm.trans H; with_reducible exact H2_) | with_reducible exact H | (rw [hy151]; exact H) | exact H
        have Ny151 := Aside0.mk hy151
        clear hy151
        have H' := Aside0.mk H
        clear H
        go_wp2_with (first | ((with_reducible refine gate_callee (f := 103) rfl ?_); refine gl (some 16) Tryd.func103 #[.string (a0.extract (x5_1 : Int).toNat a0.size)] (h := ?_); (with_reducible refine (utf8_DecodeRuneInString.calls (a0.extract (x5_1 : Int).toNat a0.size) t148 t149 _ ?side1 A5.out).mono ?_); (case side1 => exact (hT.below (bw HB))); rintro e w9 ⟨rfl, hb⟩; refine ⟨_, rfl, ?_⟩; replace HO_4 := Aside0.mk (Kd.R_below (by (with_reducible repeat (first | apply Kd.R_alloc | apply Kd.R_drewN | apply Kd.R_drew)); exact HO_4.out) hb); replace HB := bs HB hb; (try clear hb); (try clear hb2); (try clear hk); (try clear hi)) | ((with_reducible refine gate_callee (f := 104) rfl ?_); refine gl (some 20) Tryd.func104 #[.int .i32 t148] (h := ?_); (with_reducible refine (lectionaryref1_Rune.calls t148 true _ A6.out).mono ?_); rintro e w' ⟨rfl, ⟨nd, rfl⟩⟩; refine ⟨_, rfl, ?_⟩) | ((with_reducible refine gate_builtin (b := .append) (xs := #[.tmp 22, .tmp 24]) rfl ?_); at_builtin; refine Kd.R_append (Kd.int .i32) (w0 := w) w.heap.size rfl (.tmp 22) (.tmp 24) 65 21 (.int .i32 0) 4 rfl Tryd.underlying65 info21 rfl (by decide) (by omega) u4 x4_1 t148 [.int .i32 t148] (fun _ => True) (fun _ => False) rfl rfl ?aP (fun _ hk => hk.elim) ?aF ?aO ?aB ?aS ?aL ?_; (case aP => exact rfl); (case aB => exact (bw HB)); (case aF => exact (fun _ _ => trivial)); (case aO => exact (by (with_reducible repeat (first | apply Kd.R_alloc | apply Kd.R_drewN | apply Kd.R_drew)); exact HO_4.out)); (case aS => exact (below_size (bw HB))); (case aL => have := LMc8.out; omega); intro v152 w10 ho hb hg hat; rw [← Ny151.out] at ho; have n0_ := Aside0.mk (hb); have n1_ := Aside0.mk (ho); clear HB; clear HO_4; have HB := n0_; have HO153 := n1_; clear n0_ n1_; clear ho hb hg hat))
        go_roundg k1
        case measure => have := HK1.out; omega
        case rel => exact ⟨(y151), (wrap64 (x5_1 + t149)), rf, H', ⟨by have := HK1.out; omega⟩, ⟨by (with_reducible repeat (first | apply Kd.R_alloc | apply Kd.R_drewN | apply Kd.R_drew)); exact HO153.out⟩, ⟨bw HB⟩⟩
       rw [if_neg c8] at H
       exact absurd H (by simp)
      replace c7 := Bool.eq_false_iff.mpr c7
      subst c7
      have H1 : (some (([] : List Int), false)) = some (r1, r2) := by rw [if_neg (show ¬ (false = true) by decide)] at H; exact H
      clear H
      have H := H1
      clear H1
      simp only [Option.some.injEq, Prod.mk.injEq] at H
      obtain ⟨rfl, rfl⟩ := H
      go_wp2_with (first | ((with_reducible refine gate_callee (f := 103) rfl ?_); refine gl (some 16) Tryd.func103 #[.string (a0.extract (x5_1 : Int).toNat a0.size)] (h := ?_); (with_reducible refine (utf8_DecodeRuneInString.calls (a0.extract (x5_1 : Int).toNat a0.size) t148 t149 _ ?side1 A5.out).mono ?_); (case side1 => exact (hT.below (bw HB))); rintro e w11 ⟨rfl, hb⟩; refine ⟨_, rfl, ?_⟩; replace HO_4 := Aside0.mk (Kd.R_below (by (with_reducible repeat (first | apply Kd.R_alloc | apply Kd.R_drewN | apply Kd.R_drew)); exact HO_4.out) hb); replace HB := bs HB hb; (try clear hb); (try clear hb2); (try clear hk); (try clear hi)) | ((with_reducible refine gate_callee (f := 104) rfl ?_); refine gl (some 20) Tryd.func104 #[.int .i32 t148] (h := ?_); (with_reducible refine (lectionaryref1_Rune.calls t148 false _ A6.out).mono ?_); rintro e w' ⟨rfl, ⟨nd, rfl⟩⟩; refine ⟨_, rfl, ?_⟩))
      go_ret2
      exact ⟨_, re, by first | exact Kd.R_nil _ _ _ _ _ | exact Kd.N_nil _ _ _ _ _ | exact Kd.V_nil _ _ _ _ _ | exact Kd.Q_nil _ _ _ _ _ | exact Kd.S_nil _ _ _ _ _, bw HB⟩
     rw [if_neg c4] at H
     exact absurd H (by simp)
    rw [if_neg c3] at H
    exact absurd H (by simp)
   rw [if_neg c2] at H
   have c2b0 : decide (x5_1 < (a0.size : Int)) = false := decide_eq_false c2
   clear c2
   simp only [Option.some.injEq, Prod.mk.injEq] at H
   obtain ⟨rfl, rfl⟩ := H
   go_wp2
   go_ret2
   exact ⟨_, re, by (with_reducible repeat (first | apply Kd.R_alloc | apply Kd.R_drewN | apply Kd.R_drew)); exact HO_4.out, bw HB⟩
def lectionaryref0_Num.f (a0 : Int) (a1 : Int) : Option (Bool) := if a0 ≥ 0 then (some (decide (a0 ≤ a1))) else (some false)
set_option maxHeartbeats 8000000 in
set_option maxRecDepth 100000 in
theorem lectionaryref0_Num.calls (a0 : Int) (a1 : Int) (r : Bool) (w : World) (h : lectionaryref0_Num.f a0 a1 = some r) :
  Calls Tryd.prog 51 #[.int .i64 a0, .int .i64 a1] w fun e w' => e = .returned (.bool r) ∧ Drawn0 w w' := by
 have H : (if a0 ≥ 0 then (some (decide (a0 ≤ a1))) else (some false)) = some r := h
 clear h
 by_cases c3 : a0 ≥ 0
 ·rw [if_pos c3] at H
  have c3b0 : decide (0 ≤ a0) = true := decide_eq_true c3
  clear c3
  obtain rfl := Option.some.inj H
  go_enter Tryd.func51, Tryd.ntmps51
  go_wp2
  go_ret
  exact ⟨rf, by repeat (first | exact Drawn0.refl _ | apply Drawn0.step)⟩
 rw [if_neg c3] at H
 have c3b0 : decide (0 ≤ a0) = false := decide_eq_false c3
 clear c3
 obtain rfl := Option.some.inj H
 go_enter Tryd.func51, Tryd.ntmps51
 go_wp2
 go_ret
 exact ⟨rf, by repeat (first | exact Drawn0.refl _ | apply Drawn0.step)⟩
def lectionaryref4_Begin.f (a0_0 : Int) (a0_1 : Int) (a0_2 : Int) : Option (Bool) := some (a0_0 == 0 && (a0_1 == 0 && (a0_2 == 0)))
set_option maxHeartbeats 8000000 in
set_option maxRecDepth 100000 in
theorem lectionaryref4_Begin.calls (a0_0 : Int) (a0_1 : Int) (a0_2 : Int) (r : Bool) (w : World) (h : lectionaryref4_Begin.f a0_0 a0_1 a0_2 = some r) :
  Calls Tryd.prog 77 #[.agg #[.int .i64 a0_0, .int .i64 a0_1, .int .i64 a0_2]] w fun e w' => e = .returned (.bool r) ∧ Below w.heap.size w w' := by
 have hu29 := Tryd.underlying29
 have HB := Aside0.mk (Below.refl w.heap.size w)
 have H : (some (a0_0 == 0 && (a0_1 == 0 && (a0_2 == 0)))) = some r := h
 clear h
 obtain rfl := Option.some.inj H
 go_enter Tryd.func77, Tryd.ntmps77
 go_wp2_with (first | ((with_reducible refine gate_dst (N := 1) rfl ?_); refine bx 1 #[.int .i64 a0_0, .int .i64 a0_1, .int .i64 a0_2] 29 (h := ?_); intro gb154 hg w2 hbox hb; have BK154 := Aside0.mk (hbox); have GW154 := bz HB hg; have GE154 := bz HB hg; replace HB := bs HB hb; clear hb hbox hg; obtain ⟨hcz3_0, hcz3_1, hcz3_2, hfz3_0, hfz3_1, hfz3_2⟩ := kc3 BK154))
 go_ret
 exact ⟨re, bw HB⟩
def lectionaryref0_Between.f (a0 : Int) (a1 : Int) (a2 : Int) : Option (Bool) := if a0 ≥ a1 then (some (decide (a0 ≤ a2))) else (some false)
set_option maxHeartbeats 8000000 in
set_option maxRecDepth 100000 in
theorem lectionaryref0_Between.calls (a0 : Int) (a1 : Int) (a2 : Int) (r : Bool) (w : World) (h : lectionaryref0_Between.f a0 a1 a2 = some r) :
  Calls Tryd.prog 152 #[.int .i64 a0, .int .i64 a1, .int .i64 a2] w fun e w' => e = .returned (.bool r) ∧ Drawn0 w w' := by
 have H : (if a0 ≥ a1 then (some (decide (a0 ≤ a2))) else (some false)) = some r := h
 clear h
 by_cases c4 : a0 ≥ a1
 ·rw [if_pos c4] at H
  have c4b0 : decide (a1 ≤ a0) = true := decide_eq_true c4
  clear c4
  obtain rfl := Option.some.inj H
  go_enter Tryd.func152, Tryd.ntmps152
  go_wp2
  go_ret
  exact ⟨rf, by repeat (first | exact Drawn0.refl _ | apply Drawn0.step)⟩
 rw [if_neg c4] at H
 have c4b0 : decide (a1 ≤ a0) = false := decide_eq_false c4
 clear c4
 obtain rfl := Option.some.inj H
 go_enter Tryd.func152, Tryd.ntmps152
 go_wp2
 go_ret
 exact ⟨rf, by repeat (first | exact Drawn0.refl _ | apply Drawn0.step)⟩
def lectionaryref4_name.f (a0 : Int) (a1 : Int) : Option (Bool) := (lectionaryref0_Between.f a0 1 8).bind fun t155 => (if t155 = true then ((lectionaryref0_Between.f a1 1 268435456).bind fun t156 => (some t156)) else (some false))
set_option maxHeartbeats 8000000 in
set_option maxRecDepth 100000 in
theorem lectionaryref4_name.calls (a0 : Int) (a1 : Int) (r : Bool) (w : World) (h : lectionaryref4_name.f a0 a1 = some r) :
  Calls Tryd.prog 113 #[.int .i64 a0, .int .i64 a1] w fun e w' => e = .returned (.bool r) ∧ Drawn0 w w' := by
 have H : ((lectionaryref0_Between.f a0 1 8).bind fun t155 => (if t155 = true then ((lectionaryref0_Between.f a1 1 268435456).bind fun t156 => (some t156)) else (some false))) = some r := h
 clear h
 replace H := Option.bind_eq_some_iff.mp H
 obtain ⟨t155, A30, H⟩ := H
 replace H : (if t155 = true then ((lectionaryref0_Between.f a1 1 268435456).bind fun t156 => (some t156)) else (some false)) = some r := H
 have A3 := Aside0.mk A30
 clear A30
 by_cases c4 : t155 = true
 ·subst c4
  have H1 : ((lectionaryref0_Between.f a1 1 268435456).bind fun t156 => (some t156)) = some r := by rw [if_pos rfl] at H; exact H
  clear H
  have H := H1
  clear H1
  replace H := Option.bind_eq_some_iff.mp H
  obtain ⟨t156, A50, H⟩ := H
  replace H : (some t156) = some r := H
  have A5 := Aside0.mk A50
  clear A50
  obtain rfl := Option.some.inj H
  go_enter Tryd.func113, Tryd.ntmps113
  go_wp2_with (first | ((with_reducible refine gate_callee (f := 152) rfl ?_); refine gl (some 6) Tryd.func152 #[.int .i64 a0, .int .i64 1, .int .i64 8] (h := ?_); (with_reducible refine (lectionaryref0_Between.calls a0 1 8 true _ A3.out).mono ?_); rintro e w' ⟨rfl, ⟨nd, rfl⟩⟩; refine ⟨_, rfl, ?_⟩) | (go_at_call 152; (with_reducible refine (lectionaryref0_Between.calls a1 1 268435456 t156 _ A5.out).mono ?_); rintro e w' ⟨rfl, ⟨nd, rfl⟩⟩))
  go_ret
  exact ⟨rf, by repeat (first | exact Drawn0.refl _ | apply Drawn0.step)⟩
 replace c4 := Bool.eq_false_iff.mpr c4
 subst c4
 have H1 : (some false) = some r := by rw [if_neg (show ¬ (false = true) by decide)] at H; exact H
 clear H
 have H := H1
 clear H1
 obtain rfl := Option.some.inj H
 go_enter Tryd.func113, Tryd.ntmps113
 go_wp2_with (first | ((with_reducible refine gate_callee (f := 152) rfl ?_); refine gl (some 6) Tryd.func152 #[.int .i64 a0, .int .i64 1, .int .i64 8] (h := ?_); (with_reducible refine (lectionaryref0_Between.calls a0 1 8 false _ A3.out).mono ?_); rintro e w' ⟨rfl, ⟨nd, rfl⟩⟩; refine ⟨_, rfl, ?_⟩))
 go_ret
 exact ⟨rf, by repeat (first | exact Drawn0.refl _ | apply Drawn0.step)⟩
def lectionaryref4_Elem.f (a0_0 : Int) (a0_1 : Int) (a0_2 : Int) : Option (Bool) := (lectionaryref4_Begin.f a0_0 a0_1 a0_2).bind fun t158 => (if t158 = true then (some true) else ((lectionaryref4_name.f a0_0 a0_1).bind fun t159 => (if t159 = true then ((lectionaryref0_Num.f a0_2 11).bind fun t160 => (some t160)) else (some false))))
set_option maxHeartbeats 8000000 in
set_option maxRecDepth 100000 in
theorem lectionaryref4_Elem.calls (a0_0 : Int) (a0_1 : Int) (a0_2 : Int) (r : Bool) (w : World) (h : lectionaryref4_Elem.f a0_0 a0_1 a0_2 = some r) :
  Calls Tryd.prog 68 #[.agg #[.int .i64 a0_0, .int .i64 a0_1, .int .i64 a0_2]] w fun e w' => e = .returned (.bool r) ∧ Below w.heap.size w w' := by
 have hu29 := Tryd.underlying29
 have HB := Aside0.mk (Below.refl w.heap.size w)
 have H : ((lectionaryref4_Begin.f a0_0 a0_1 a0_2).bind fun t158 => (if t158 = true then (some true) else ((lectionaryref4_name.f a0_0 a0_1).bind fun t159 => (if t159 = true then ((lectionaryref0_Num.f a0_2 11).bind fun t160 => (some t160)) else (some false))))) = some r := h
 clear h
 replace H := Option.bind_eq_some_iff.mp H
 obtain ⟨t158, A20, H⟩ := H
 replace H : (if t158 = true then (some true) else ((lectionaryref4_name.f a0_0 a0_1).bind fun t159 => (if t159 = true then ((lectionaryref0_Num.f a0_2 11).bind fun t160 => (some t160)) else (some false)))) = some r := H
 have A2 := Aside0.mk A20
 clear A20
 by_cases c3 : t158 = true
 ·subst c3
  have H1 : (some true) = some r := by rw [if_pos rfl] at H; exact H
  clear H
  have H := H1
  clear H1
  obtain rfl := Option.some.inj H
  go_enter Tryd.func68, Tryd.ntmps68
  go_wp2_with (first | ((with_reducible refine gate_dst (N := 1) rfl ?_); refine bx 1 #[.int .i64 a0_0, .int .i64 a0_1, .int .i64 a0_2] 29 (h := ?_); intro gb157 hg w4 hbox hb; have BK157 := Aside0.mk (hbox); have GW157 := bz HB hg; have GE157 := bz HB hg; replace HB := bs HB hb; clear hb hbox hg; obtain ⟨hcz5_0, hcz5_1, hcz5_2, hfz5_0, hfz5_1, hfz5_2⟩ := kc3 BK157) | ((with_reducible refine gate_callee (f := 77) rfl ?_); refine gl (some 4) Tryd.func77 #[.agg #[.int .i64 a0_0, .int .i64 a0_1, .int .i64 a0_2]] (h := ?_); (with_reducible refine (lectionaryref4_Begin.calls a0_0 a0_1 a0_2 true _ A2.out).mono ?_); rintro e w6 ⟨rfl, hb⟩; refine ⟨_, rfl, ?_⟩; replace BK157 := bl BK157 hb; replace HB := bs HB hb; (try clear hb); (try clear hb2); (try clear hk); (try clear hi)))
  go_ret
  exact ⟨re, bw HB⟩
 replace c3 := Bool.eq_false_iff.mpr c3
 subst c3
 have H1 : ((lectionaryref4_name.f a0_0 a0_1).bind fun t159 => (if t159 = true then ((lectionaryref0_Num.f a0_2 11).bind fun t160 => (some t160)) else (some false))) = some r := by rw [if_neg (show ¬ (false = true) by decide)] at H; exact H
 clear H
 have H := H1
 clear H1
 replace H := Option.bind_eq_some_iff.mp H
 obtain ⟨t159, A70, H⟩ := H
 replace H : (if t159 = true then ((lectionaryref0_Num.f a0_2 11).bind fun t160 => (some t160)) else (some false)) = some r := H
 have A7 := Aside0.mk A70
 clear A70
 by_cases c8 : t159 = true
 ·subst c8
  have H1 : ((lectionaryref0_Num.f a0_2 11).bind fun t160 => (some t160)) = some r := by rw [if_pos rfl] at H; exact H
  clear H
  have H := H1
  clear H1
  replace H := Option.bind_eq_some_iff.mp H
  obtain ⟨t160, A90, H⟩ := H
  replace H : (some t160) = some r := H
  have A9 := Aside0.mk A90
  clear A90
  obtain rfl := Option.some.inj H
  go_enter Tryd.func68, Tryd.ntmps68
  go_wp2_with (first | ((with_reducible refine gate_dst (N := 1) rfl ?_); refine bx 1 #[.int .i64 a0_0, .int .i64 a0_1, .int .i64 a0_2] 29 (h := ?_); intro gb157 hg w10 hbox hb; have BK157 := Aside0.mk (hbox); have GW157 := bz HB hg; have GE157 := bz HB hg; replace HB := bs HB hb; clear hb hbox hg; obtain ⟨hcz11_0, hcz11_1, hcz11_2, hfz11_0, hfz11_1, hfz11_2⟩ := kc3 BK157) | ((with_reducible refine gate_callee (f := 77) rfl ?_); refine gl (some 4) Tryd.func77 #[.agg #[.int .i64 a0_0, .int .i64 a0_1, .int .i64 a0_2]] (h := ?_); (with_reducible refine (lectionaryref4_Begin.calls a0_0 a0_1 a0_2 false _ A2.out).mono ?_); rintro e w12 ⟨rfl, hb⟩; refine ⟨_, rfl, ?_⟩; replace BK157 := bl BK157 hb; replace HB := bs HB hb; (try clear hb); (try clear hb2); (try clear hk); (try clear hi); obtain ⟨hcz13_0, hcz13_1, hcz13_2, hfz13_0, hfz13_1, hfz13_2⟩ := kc3 BK157) | (go_at_call 113; (with_reducible refine (lectionaryref4_name.calls a0_0 a0_1 true _ A7.out).mono ?_); rintro e w' ⟨rfl, ⟨nd, rfl⟩⟩) | (go_at_call 51; (with_reducible refine (lectionaryref0_Num.calls a0_2 11 t160 _ A9.out).mono ?_); rintro e w' ⟨rfl, ⟨nd, rfl⟩⟩))
  go_ret
  exact ⟨re, bw HB⟩
 replace c8 := Bool.eq_false_iff.mpr c8
 subst c8
 have H1 : (some false) = some r := by rw [if_neg (show ¬ (false = true) by decide)] at H; exact H
 clear H
 have H := H1
 clear H1
 obtain rfl := Option.some.inj H
 go_enter Tryd.func68, Tryd.ntmps68
 go_wp2_with (first | ((with_reducible refine gate_dst (N := 1) rfl ?_); refine bx 1 #[.int .i64 a0_0, .int .i64 a0_1, .int .i64 a0_2] 29 (h := ?_); intro gb157 hg w14 hbox hb; have BK157 := Aside0.mk (hbox); have GW157 := bz HB hg; have GE157 := bz HB hg; replace HB := bs HB hb; clear hb hbox hg; obtain ⟨hcz15_0, hcz15_1, hcz15_2, hfz15_0, hfz15_1, hfz15_2⟩ := kc3 BK157) | ((with_reducible refine gate_callee (f := 77) rfl ?_); refine gl (some 4) Tryd.func77 #[.agg #[.int .i64 a0_0, .int .i64 a0_1, .int .i64 a0_2]] (h := ?_); (with_reducible refine (lectionaryref4_Begin.calls a0_0 a0_1 a0_2 false _ A2.out).mono ?_); rintro e w16 ⟨rfl, hb⟩; refine ⟨_, rfl, ?_⟩; replace BK157 := bl BK157 hb; replace HB := bs HB hb; (try clear hb); (try clear hb2); (try clear hk); (try clear hi); obtain ⟨hcz17_0, hcz17_1, hcz17_2, hfz17_0, hfz17_1, hfz17_2⟩ := kc3 BK157) | (go_at_call 113; (with_reducible refine (lectionaryref4_name.calls a0_0 a0_1 false _ A7.out).mono ?_); rintro e w' ⟨rfl, ⟨nd, rfl⟩⟩))
 go_ret
 exact ⟨re, bw HB⟩
def lectionaryref4_Less.f (a0_0 : Int) (a0_1 : Int) (a0_2 : Int) (a1_0 : Int) (a1_1 : Int) (a1_2 : Int) : Option (Bool) := if a0_0 = a1_0 then (if a0_1 = a1_1 then (some (decide (a0_2 < a1_2))) else (some (decide (a0_1 < a1_1)))) else (some (decide (a0_0 < a1_0)))
set_option maxHeartbeats 8000000 in
set_option maxRecDepth 100000 in
theorem lectionaryref4_Less.calls (a0_0 : Int) (a0_1 : Int) (a0_2 : Int) (a1_0 : Int) (a1_1 : Int) (a1_2 : Int) (r : Bool) (w : World) (h : lectionaryref4_Less.f a0_0 a0_1 a0_2 a1_0 a1_1 a1_2 = some r) :
  Calls Tryd.prog 70 #[.agg #[.int .i64 a0_0, .int .i64 a0_1, .int .i64 a0_2], .agg #[.int .i64 a1_0, .int .i64 a1_1, .int .i64 a1_2]] w fun e w' => e = .returned (.bool r) ∧ Below w.heap.size w w' := by
 have hu29 := Tryd.underlying29
 have HB := Aside0.mk (Below.refl w.heap.size w)
 have H : (if a0_0 = a1_0 then (if a0_1 = a1_1 then (some (decide (a0_2 < a1_2))) else (some (decide (a0_1 < a1_1)))) else (some (decide (a0_0 < a1_0)))) = some r := h
 clear h
 by_cases c3 : a0_0 = a1_0
 ·rw [if_pos c3] at H
  have c3b0 : (a0_0 == a1_0) = true := beq_iff_eq.mpr c3
  have c3b1 : (a0_0 != a1_0) = false := bne_eq_false_iff_eq.mpr c3
  clear c3
  by_cases c4 : a0_1 = a1_1
  ·rw [if_pos c4] at H
   have c4b0 : (a0_1 == a1_1) = true := beq_iff_eq.mpr c4
   have c4b1 : (a0_1 != a1_1) = false := bne_eq_false_iff_eq.mpr c4
   clear c4
   obtain rfl := Option.some.inj H
   go_enter Tryd.func70, Tryd.ntmps70
   go_wp2_with (first | ((with_reducible refine gate_dst (N := 2) rfl ?_); refine bx 2 #[.int .i64 a0_0, .int .i64 a0_1, .int .i64 a0_2] 29 (h := ?_); intro gb161 hg w5 hbox hb; have BK161 := Aside0.mk (hbox); have GW161 := bz HB hg; have GE161 := bz HB hg; replace HB := bs HB hb; clear hb hbox hg) | ((with_reducible refine gate_dst (N := 3) rfl ?_); refine bx 3 #[.int .i64 a1_0, .int .i64 a1_1, .int .i64 a1_2] 29 (h := ?_); intro gb162 hg w6 hbox hb; have BK162 := Aside0.mk (hbox); have GW162 := bz HB hg; have GE162 := bz HB hg; have NB161_162 := bn BK161 hg; have NB162_161 := bm BK161 hg; replace BK161 := bl BK161 hb; replace HB := bs HB hb; clear hb hbox hg; have hnb7 := NB161_162.out; have hnc7 := NB162_161.out; obtain ⟨hcz8_0, hcz8_1, hcz8_2, hfz8_0, hfz8_1, hfz8_2⟩ := kc3 BK161; obtain ⟨hcz9_0, hcz9_1, hcz9_2, hfz9_0, hfz9_1, hfz9_2⟩ := kc3 BK162))
   go_ret
   exact ⟨re, bw HB⟩
  rw [if_neg c4] at H
  have c4b0 : (a0_1 == a1_1) = false := beq_eq_false_iff_ne.mpr c4
  have c4b1 : (a0_1 != a1_1) = true := bne_iff_ne.mpr c4
  obtain rfl := Option.some.inj H
  go_enter Tryd.func70, Tryd.ntmps70
  go_wp2_with (first | ((with_reducible refine gate_dst (N := 2) rfl ?_); refine bx 2 #[.int .i64 a0_0, .int .i64 a0_1, .int .i64 a0_2] 29 (h := ?_); intro gb161 hg w10 hbox hb; have BK161 := Aside0.mk (hbox); have GW161 := bz HB hg; have GE161 := bz HB hg; replace HB := bs HB hb; clear hb hbox hg) | ((with_reducible refine gate_dst (N := 3) rfl ?_); refine bx 3 #[.int .i64 a1_0, .int .i64 a1_1, .int .i64 a1_2] 29 (h := ?_); intro gb162 hg w11 hbox hb; have BK162 := Aside0.mk (hbox); have GW162 := bz HB hg; have GE162 := bz HB hg; have NB161_162 := bn BK161 hg; have NB162_161 := bm BK161 hg; replace BK161 := bl BK161 hb; replace HB := bs HB hb; clear hb hbox hg; have hnb12 := NB161_162.out; have hnc12 := NB162_161.out; obtain ⟨hcz13_0, hcz13_1, hcz13_2, hfz13_0, hfz13_1, hfz13_2⟩ := kc3 BK161; obtain ⟨hcz14_0, hcz14_1, hcz14_2, hfz14_0, hfz14_1, hfz14_2⟩ := kc3 BK162))
  go_ret
  exact ⟨re, bw HB⟩
 rw [if_neg c3] at H
 have c3b0 : (a0_0 == a1_0) = false := beq_eq_false_iff_ne.mpr c3
 have c3b1 : (a0_0 != a1_0) = true := bne_iff_ne.mpr c3
 obtain rfl := Option.some.inj H
 go_enter Tryd.func70, Tryd.ntmps70
 go_wp2_with (first | ((with_reducible refine gate_dst (N := 2) rfl ?_); refine bx 2 #[.int .i64 a0_0, .int .i64 a0_1, .int .i64 a0_2] 29 (h := ?_); intro gb161 hg w15 hbox hb; have BK161 := Aside0.mk (hbox); have GW161 := bz HB hg; have GE161 := bz HB hg; replace HB := bs HB hb; clear hb hbox hg) | ((with_reducible refine gate_dst (N := 3) rfl ?_); refine bx 3 #[.int .i64 a1_0, .int .i64 a1_1, .int .i64 a1_2] 29 (h := ?_); intro gb162 hg w16 hbox hb; have BK162 := Aside0.mk (hbox); have GW162 := bz HB hg; have GE162 := bz HB hg; have NB161_162 := bn BK161 hg; have NB162_161 := bm BK161 hg; replace BK161 := bl BK161 hb; replace HB := bs HB hb; clear hb hbox hg; have hnb17 := NB161_162.out; have hnc17 := NB162_161.out; obtain ⟨hcz18_0, hcz18_1, hcz18_2, hfz18_0, hfz18_1, hfz18_2⟩ := kc3 BK161; obtain ⟨hcz19_0, hcz19_1, hcz19_2, hfz19_0, hfz19_1, hfz19_2⟩ := kc3 BK162))
 go_ret
 exact ⟨re, bw HB⟩
def lectionaryref4_own.f (a0_0 : Int) (a0_1 : Int) (a0_2 : Int) (a0_3 : Int) (a0_4 : Int) (a0_5 : Int) (a0_6 : ByteArray) (l0_7 : List (SElem)) (a0_8 : Int) (a0_9 : Int) (a0_10 : Int) (a1_0 : Int) (a1_1 : Int) (a1_2 : Int) : Option (Bool) := if a1_0 = a0_0 then (some (a1_1 == a0_1)) else (some false)
set_option maxHeartbeats 8000000 in
set_option maxRecDepth 100000 in
theorem lectionaryref4_own.calls (a0_0 : Int) (a0_1 : Int) (a0_2 : Int) (a0_3 : Int) (a0_4 : Int) (a0_5 : Int) (a0_6 : ByteArray) (A0_7 : Option Addr) (c0_7 : Nat) (l0_7 : List (SElem)) (a0_8 : Int) (a0_9 : Int) (a0_10 : Int) (a1_0 : Int) (a1_1 : Int) (a1_2 : Int) (r : Bool) (w : World) (hr0_7 : Kd.C kElem w A0_7 l0_7.length l0_7) (hc0_7 : l0_7.length ≤ c0_7) (h : lectionaryref4_own.f a0_0 a0_1 a0_2 a0_3 a0_4 a0_5 a0_6 l0_7 a0_8 a0_9 a0_10 a1_0 a1_1 a1_2 = some r) :
  Calls Tryd.prog 114 #[.agg #[.int .i64 a0_0, .int .i64 a0_1, .int .i64 a0_2, .int .i64 a0_3, .int .i64 a0_4, .int .i64 a0_5, .string a0_6, .slice A0_7 l0_7.length c0_7, .int .i64 a0_8, .int .i64 a0_9, .int .i64 a0_10], .agg #[.int .i64 a1_0, .int .i64 a1_1, .int .i64 a1_2]] w fun e w' => e = .returned (.bool r) ∧ Below w.heap.size w w' := by
 have hu31 := Tryd.underlying31
 have hu29 := Tryd.underlying29
 have HR0_7 := Aside0.mk hr0_7
 have HC0_7 := Aside0.mk hc0_7
 clear hr0_7 hc0_7
 have HB := Aside0.mk (Below.refl w.heap.size w)
 have H : (if a1_0 = a0_0 then (some (a1_1 == a0_1)) else (some false)) = some r := h
 clear h
 by_cases c3 : a1_0 = a0_0
 ·rw [if_pos c3] at H
  have c3b0 : (a1_0 == a0_0) = true := beq_iff_eq.mpr c3
  have c3b1 : (a1_0 != a0_0) = false := bne_eq_false_iff_eq.mpr c3
  clear c3
  obtain rfl := Option.some.inj H
  go_enter Tryd.func114, Tryd.ntmps114
  go_wp2_with (first | ((with_reducible refine gate_dst (N := 2) rfl ?_); refine bx 2 #[.int .i64 a0_0, .int .i64 a0_1, .int .i64 a0_2, .int .i64 a0_3, .int .i64 a0_4, .int .i64 a0_5, .string a0_6, .slice A0_7 l0_7.length c0_7, .int .i64 a0_8, .int .i64 a0_9, .int .i64 a0_10] 31 (h := ?_); intro gb163 hg w4 hbox hb; have BK163 := Aside0.mk (hbox); have GW163 := bz HB hg; have GE163 := bz HB hg; replace HB := bs HB hb; clear hb hbox hg) | ((with_reducible refine gate_dst (N := 3) rfl ?_); refine bx 3 #[.int .i64 a1_0, .int .i64 a1_1, .int .i64 a1_2] 29 (h := ?_); intro gb164 hg w5 hbox hb; have BK164 := Aside0.mk (hbox); have GW164 := bz HB hg; have GE164 := bz HB hg; have NB163_164 := bn BK163 hg; have NB164_163 := bm BK163 hg; replace BK163 := bl BK163 hb; replace HB := bs HB hb; clear hb hbox hg; have hnb6 := NB164_163.out; have hnc6 := NB163_164.out; obtain ⟨hcz7_0, hcz7_1, hcz7_2, hfz7_0, hfz7_1, hfz7_2⟩ := kc3 BK164; obtain ⟨hcz8_0, hcz8_1, hcz8_2, hcz8_3, hcz8_4, hcz8_5, hcz8_6, hcz8_7, hcz8_8, hcz8_9, hcz8_10, hfz8_0, hfz8_1, hfz8_2, hfz8_3, hfz8_4, hfz8_5, hfz8_6, hfz8_7, hfz8_8, hfz8_9, hfz8_10⟩ := kc11 BK163))
  go_ret
  exact ⟨re, bw HB⟩
 rw [if_neg c3] at H
 have c3b0 : (a1_0 == a0_0) = false := beq_eq_false_iff_ne.mpr c3
 have c3b1 : (a1_0 != a0_0) = true := bne_iff_ne.mpr c3
 obtain rfl := Option.some.inj H
 go_enter Tryd.func114, Tryd.ntmps114
 go_wp2_with (first | ((with_reducible refine gate_dst (N := 2) rfl ?_); refine bx 2 #[.int .i64 a0_0, .int .i64 a0_1, .int .i64 a0_2, .int .i64 a0_3, .int .i64 a0_4, .int .i64 a0_5, .string a0_6, .slice A0_7 l0_7.length c0_7, .int .i64 a0_8, .int .i64 a0_9, .int .i64 a0_10] 31 (h := ?_); intro gb163 hg w9 hbox hb; have BK163 := Aside0.mk (hbox); have GW163 := bz HB hg; have GE163 := bz HB hg; replace HB := bs HB hb; clear hb hbox hg) | ((with_reducible refine gate_dst (N := 3) rfl ?_); refine bx 3 #[.int .i64 a1_0, .int .i64 a1_1, .int .i64 a1_2] 29 (h := ?_); intro gb164 hg w10 hbox hb; have BK164 := Aside0.mk (hbox); have GW164 := bz HB hg; have GE164 := bz HB hg; have NB163_164 := bn BK163 hg; have NB164_163 := bm BK163 hg; replace BK163 := bl BK163 hb; replace HB := bs HB hb; clear hb hbox hg; have hnb11 := NB164_163.out; have hnc11 := NB163_164.out; obtain ⟨hcz12_0, hcz12_1, hcz12_2, hfz12_0, hfz12_1, hfz12_2⟩ := kc3 BK164; obtain ⟨hcz13_0, hcz13_1, hcz13_2, hcz13_3, hcz13_4, hcz13_5, hcz13_6, hcz13_7, hcz13_8, hcz13_9, hcz13_10, hfz13_0, hfz13_1, hfz13_2, hfz13_3, hfz13_4, hfz13_5, hfz13_6, hfz13_7, hfz13_8, hfz13_9, hfz13_10⟩ := kc11 BK163))
 go_ret
 exact ⟨re, bw HB⟩
end Go.Proofs.YtdahgnalojekdaaDoor.L
end

section
namespace Go.Proofs.YtdahgnalojekdaaDoor.L
open Go.RowKit Go.Proofs.YtdahgnalojekdaaDoorW.PrintWords Go.Proofs.YtdahgnalojekdaaDoorW.PrintLast Go.Proofs.YtdahgnalojekdaaDoorW.PrintMore
attribute [local go_sem] max2_int min2_int max_two min_two max_three min_three max_four min_four
set_option linter.unusedVariables false
set_option linter.unusedSimpArgs false
def lectionaryref4_Find.l0 : Nat → List (SOp) → Int → Int → Int → Option (Int)
 | 0, _, _, _, _ => none
 | k + 1, x0, x1, x2, x7 => if x7 < (x0.length : Int) then (if 0 ≤ x7 then (if ((rd_Op x0 x7).f0) = x1 then (if ((rd_Op x0 x7).f1) = x2 then (some x7) else (lectionaryref4_Find.l0 k x0 x1 x2 (wrap64 (x7 + 1)))) else (lectionaryref4_Find.l0 k x0 x1 x2 (wrap64 (x7 + 1)))) else (none)) else (some (-1))
def lectionaryref4_Find.f (k : Nat) (l0 : List (SOp)) (a1 : Int) (a2 : Int) : Option (Int) := lectionaryref4_Find.l0 k l0 a1 a2 0
set_option maxHeartbeats 8000000 in
set_option maxRecDepth 100000 in
theorem lectionaryref4_Find.calls (k : Nat) (A0 : Option Addr) (c0 : Nat) (l0 : List (SOp)) (a1 : Int) (a2 : Int) (r : Int) (w : World) (hr0 : Kd.C kOp w A0 l0.length l0) (hc0 : l0.length ≤ c0) (h : lectionaryref4_Find.f k l0 a1 a2 = some r) :
  Calls Tryd.prog 91 #[.slice A0 l0.length c0, .int .i64 a1, .int .i64 a2] w fun e w' => e = .returned (.int .i64 r) ∧ Drawn0 w w' := by
 have HR0 := Aside0.mk hr0
 have HC0 := Aside0.mk hc0
 clear hr0 hc0
 have H : (lectionaryref4_Find.l0 k l0 a1 a2 0) = some r := h
 clear h
 have H' := Aside0.mk H
 clear H
 go_enter Tryd.func91, Tryd.ntmps91
 go_wp2
 go_loopg [7] k (fun kq v7 w' => ∃ (x7_1 : Int), v7 = .int .i64 x7_1 ∧ Aside0 (lectionaryref4_Find.l0 kq l0 a1 a2 x7_1 = some r) ∧ Aside0 (kq ≤ k) ∧ Drawn0 w w')
 case atStart => exact ⟨(0), rf, H', ⟨Nat.le_refl _⟩, by repeat (first | exact Drawn0.refl _ | apply Drawn0.step)⟩
 case round =>
  clear H'
  obtain ⟨x7_1, rfl, HA, HK1, ⟨m1, rfl⟩⟩ := hrel
  cases gk with
  | zero => exact absurd HA.out (by simp [lectionaryref4_Find.l0])
  | succ k1 =>
   have H := HA.out
   clear HA
   simp only [lectionaryref4_Find.l0] at H
   by_cases c4 : x7_1 < (l0.length : Int)
   ·rw [if_pos c4] at H
    have c4b0 : decide (x7_1 < (l0.length : Int)) = true := decide_eq_true c4
    clear c4
    by_cases c5 : 0 ≤ x7_1
    ·rw [if_pos c5] at H
     have c5b0 : decide (0 ≤ x7_1) = true := decide_eq_true c5
     clear c5
     by_cases c6 : ((rd_Op l0 x7_1).f0) = a1
     ·rw [if_pos c6] at H
      have c6b0 : (((rd_Op l0 x7_1).f0) == a1) = true := beq_iff_eq.mpr c6
      have c6b1 : (((rd_Op l0 x7_1).f0) != a1) = false := bne_eq_false_iff_eq.mpr c6
      clear c6
      by_cases c7 : ((rd_Op l0 x7_1).f1) = a2
      ·rw [if_pos c7] at H
       have c7b0 : (((rd_Op l0 x7_1).f1) == a2) = true := beq_iff_eq.mpr c7
       have c7b1 : (((rd_Op l0 x7_1).f1) != a2) = false := bne_eq_false_iff_eq.mpr c7
       clear c7
       obtain rfl := Option.some.inj H
       have p189 : 0 ≤ (x7_1 : Int) := of_decide_eq_true (by first | (with_reducible assumption) | assumption)
       have q189 : x7_1 < (l0.length : Int) := of_decide_eq_true (by first | (with_reducible assumption) | assumption)
       obtain ⟨ad189, A189_7, c189_7, e189, hx189_0, hx189_1, hx189_2, hx189_3, hx189_4, hx189_5, hx189_6, hx189_7, hx189_8, hx189_9, hx189_10, hl189_7, hi189_7⟩ := at_Op HR0.out x7_1 p189 q189
       cases e189
       have HR189_7 := Aside0.mk hi189_7
       have HC189_7 := Aside0.mk hl189_7
       clear hi189_7 hl189_7
       replace p189 := eq_true p189
       replace q189 := eq_true q189
       have p190 : 0 ≤ (x7_1 : Int) := of_decide_eq_true (by first | (with_reducible assumption) | assumption)
       have q190 : x7_1 < (l0.length : Int) := of_decide_eq_true (by first | (with_reducible assumption) | assumption)
       obtain ⟨ad190, A190_7, c190_7, e190, hx190_0, hx190_1, hx190_2, hx190_3, hx190_4, hx190_5, hx190_6, hx190_7, hx190_8, hx190_9, hx190_10, hl190_7, hi190_7⟩ := at_Op HR0.out x7_1 p190 q190
       obtain rfl : ad189 = ad190 := (by injection e190)
       have HR190_7 := Aside0.mk hi190_7
       have HC190_7 := Aside0.mk hl190_7
       clear hi190_7 hl190_7
       replace p190 := eq_true p190
       replace q190 := eq_true q190
       have ea_ := Option.some.inj (hx189_7.symm.trans hx190_7)
       injection ea_ with ea_ en_ ec_
       subst ea_
       subst ec_
       clear en_
       go_wp2
       go_ret
       exact ⟨rf, by repeat (first | exact Drawn0.refl _ | apply Drawn0.step)⟩
      rw [if_neg c7] at H
      have c7b0 : (((rd_Op l0 x7_1).f1) == a2) = false := beq_eq_false_iff_ne.mpr c7
      have c7b1 : (((rd_Op l0 x7_1).f1) != a2) = true := bne_iff_ne.mpr c7
      have H' := Aside0.mk H
      clear H
      have p189 : 0 ≤ (x7_1 : Int) := of_decide_eq_true (by first | (with_reducible assumption) | assumption)
      have q189 : x7_1 < (l0.length : Int) := of_decide_eq_true (by first | (with_reducible assumption) | assumption)
      obtain ⟨ad189, A189_7, c189_7, e189, hx189_0, hx189_1, hx189_2, hx189_3, hx189_4, hx189_5, hx189_6, hx189_7, hx189_8, hx189_9, hx189_10, hl189_7, hi189_7⟩ := at_Op HR0.out x7_1 p189 q189
      cases e189
      have HR189_7 := Aside0.mk hi189_7
      have HC189_7 := Aside0.mk hl189_7
      clear hi189_7 hl189_7
      replace p189 := eq_true p189
      replace q189 := eq_true q189
      have p190 : 0 ≤ (x7_1 : Int) := of_decide_eq_true (by first | (with_reducible assumption) | assumption)
      have q190 : x7_1 < (l0.length : Int) := of_decide_eq_true (by first | (with_reducible assumption) | assumption)
      obtain ⟨ad190, A190_7, c190_7, e190, hx190_0, hx190_1, hx190_2, hx190_3, hx190_4, hx190_5, hx190_6, hx190_7, hx190_8, hx190_9, hx190_10, hl190_7, hi190_7⟩ := at_Op HR0.out x7_1 p190 q190
      obtain rfl : ad189 = ad190 := (by injection e190)
      have HR190_7 := Aside0.mk hi190_7
      have HC190_7 := Aside0.mk hl190_7
      clear hi190_7 hl190_7
      replace p190 := eq_true p190
      replace q190 := eq_true q190
      have ea_ := Option.some.inj (hx189_7.symm.trans hx190_7)
      injection ea_ with ea_ en_ ec_
      subst ea_
      subst ec_
      clear en_
      go_wp2
      go_roundg k1
      case measure => have := HK1.out; omega
      case rel => exact ⟨(wrap64 (x7_1 + 1)), rf, H', ⟨by have := HK1.out; omega⟩, by repeat (first | exact Drawn0.refl _ | apply Drawn0.step)⟩
     rw [if_neg c6] at H
     have c6b0 : (((rd_Op l0 x7_1).f0) == a1) = false := beq_eq_false_iff_ne.mpr c6
     have c6b1 : (((rd_Op l0 x7_1).f0) != a1) = true := bne_iff_ne.mpr c6
     have H' := Aside0.mk H
     clear H
     have p189 : 0 ≤ (x7_1 : Int) := of_decide_eq_true (by first | (with_reducible assumption) | assumption)
     have q189 : x7_1 < (l0.length : Int) := of_decide_eq_true (by first | (with_reducible assumption) | assumption)
     obtain ⟨ad189, A189_7, c189_7, e189, hx189_0, hx189_1, hx189_2, hx189_3, hx189_4, hx189_5, hx189_6, hx189_7, hx189_8, hx189_9, hx189_10, hl189_7, hi189_7⟩ := at_Op HR0.out x7_1 p189 q189
     cases e189
     have HR189_7 := Aside0.mk hi189_7
     have HC189_7 := Aside0.mk hl189_7
     clear hi189_7 hl189_7
     replace p189 := eq_true p189
     replace q189 := eq_true q189
     go_wp2
     go_roundg k1
     case measure => have := HK1.out; omega
     case rel => exact ⟨(wrap64 (x7_1 + 1)), rf, H', ⟨by have := HK1.out; omega⟩, by repeat (first | exact Drawn0.refl _ | apply Drawn0.step)⟩
    rw [if_neg c5] at H
    exact absurd H (by simp)
   rw [if_neg c4] at H
   have c4b0 : decide (x7_1 < (l0.length : Int)) = false := decide_eq_false c4
   clear c4
   obtain rfl := Option.some.inj H
   go_wp2
   go_ret
   exact ⟨rf, by repeat (first | exact Drawn0.refl _ | apply Drawn0.step)⟩
def lectionaryref4_Runes.f (k : Nat) (a0_0 : Int) (a0_1 : Int) (a0_2 : Int) (a0_3 : Int) (a0_4 : Int) (a0_5 : Int) (a0_6 : ByteArray) (l0_7 : List (SElem)) (a0_8 : Int) (a0_9 : Int) (a0_10 : Int) : Option (Int) := (lectionaryref1_Runes.f k a0_6).bind fun bt192 => (some (bt192.1.length : Int))
set_option maxHeartbeats 8000000 in
set_option maxRecDepth 100000 in
theorem lectionaryref4_Runes.calls (k : Nat) (a0_0 : Int) (a0_1 : Int) (a0_2 : Int) (a0_3 : Int) (a0_4 : Int) (a0_5 : Int) (a0_6 : ByteArray) (A0_7 : Option Addr) (c0_7 : Nat) (l0_7 : List (SElem)) (a0_8 : Int) (a0_9 : Int) (a0_10 : Int) (r : Int) (w : World) (hr0_7 : Kd.C kElem w A0_7 l0_7.length l0_7) (hc0_7 : l0_7.length ≤ c0_7) (hT : GT w) (h : lectionaryref4_Runes.f k a0_0 a0_1 a0_2 a0_3 a0_4 a0_5 a0_6 l0_7 a0_8 a0_9 a0_10 = some r) :
  Calls Tryd.prog 116 #[.agg #[.int .i64 a0_0, .int .i64 a0_1, .int .i64 a0_2, .int .i64 a0_3, .int .i64 a0_4, .int .i64 a0_5, .string a0_6, .slice A0_7 l0_7.length c0_7, .int .i64 a0_8, .int .i64 a0_9, .int .i64 a0_10]] w fun e w' => e = .returned (.int .i64 r) ∧ Below w.heap.size w w' := by
 have hu31 := Tryd.underlying31
 have HR0_7 := Aside0.mk hr0_7
 have HC0_7 := Aside0.mk hc0_7
 clear hr0_7 hc0_7
 have HB := Aside0.mk (Below.refl w.heap.size w)
 have H : ((lectionaryref1_Runes.f k a0_6).bind fun bt192 => (some (bt192.1.length : Int))) = some r := h
 clear h
 replace H := Option.bind_eq_some_iff.mp H
 obtain ⟨⟨t192, t193⟩, A20, H⟩ := H
 replace H : (some (t192.length : Int)) = some r := H
 have A2 := Aside0.mk A20
 clear A20
 obtain rfl := Option.some.inj H
 go_enter Tryd.func116, Tryd.ntmps116
 go_wp2_with (first | ((with_reducible refine gate_dst (N := 1) rfl ?_); refine bx 1 #[.int .i64 a0_0, .int .i64 a0_1, .int .i64 a0_2, .int .i64 a0_3, .int .i64 a0_4, .int .i64 a0_5, .string a0_6, .slice A0_7 l0_7.length c0_7, .int .i64 a0_8, .int .i64 a0_9, .int .i64 a0_10] 31 (h := ?_); intro gb191 hg w3 hbox hb; have BK191 := Aside0.mk (hbox); have GW191 := bz HB hg; have GE191 := bz HB hg; replace HB := bs HB hb; clear hb hbox hg; obtain ⟨hcz4_0, hcz4_1, hcz4_2, hcz4_3, hcz4_4, hcz4_5, hcz4_6, hcz4_7, hcz4_8, hcz4_9, hcz4_10, hfz4_0, hfz4_1, hfz4_2, hfz4_3, hfz4_4, hfz4_5, hfz4_6, hfz4_7, hfz4_8, hfz4_9, hfz4_10⟩ := kc11 BK191) | ((with_reducible refine gate_callee (f := 50) rfl ?_); refine gl (some 8) Tryd.func50 #[.string a0_6] (h := ?_); (with_reducible refine (lectionaryref1_Runes.calls k a0_6 t192 t193 _ ?side1 A2.out).mono ?_); (case side1 => exact (hT.below (bw HB))); rintro e w5 ⟨v194, rfl, ho0, hb⟩; refine ⟨_, rfl, ?_⟩; have HO195 := Aside0.mk (Kd.R_lower ho0 (below_size (bw HB))); replace BK191 := bl BK191 hb; replace HB := bs HB hb; (try clear hb); (try clear hb2); (try clear hk); (try clear hi); (try clear ho0); obtain ⟨Ao6, co6, eo6⟩ := Kd.R_slice HO195.out; subst eo6))
 go_ret
 exact ⟨re, bw HB⟩
def lectionaryref4_written.f (k : Nat) (l0 : List (SOp)) (a1_0 : Int) (a1_1 : Int) (a1_2 : Int) : Option (Bool) := (lectionaryref4_Begin.f a1_0 a1_1 a1_2).bind fun t197 => (if t197 = true then (some true) else ((lectionaryref4_Find.f k l0 a1_0 a1_1).bind fun t198 => (if t198 ≥ 0 then (if a1_2 ≥ 0 then (if 0 ≤ t198 then (if t198 < (l0.length : Int) then ((lectionaryref4_Runes.f k ((rd_Op l0 t198).f0) ((rd_Op l0 t198).f1) ((rd_Op l0 t198).f2) ((rd_Op l0 t198).f3.f0) ((rd_Op l0 t198).f3.f1) ((rd_Op l0 t198).f3.f2) ((rd_Op l0 t198).f4) ((rd_Op l0 t198).f5) ((rd_Op l0 t198).f6) ((rd_Op l0 t198).f7) ((rd_Op l0 t198).f8)).bind fun t200 => (some (decide (a1_2 < t200)))) else (none)) else (none)) else (some false)) else (some false))))
def lectionaryref4_written.T4 : Bool × List (List Nat × List Nat) := (true, [([], []), ([0], [0]), ([1], [1]), ([2], [2]), ([3, 2], [2, 3]), ([4, 2], [2, 4]), ([2, 5], [2, 5]), ([6, 2], [6]), ([7], [7]), ([8, 7], [7, 8]), ([7], [7]), ([7], [7]), ([10, 11, 7], [7, 10, 11]), ([12, 7], [7, 12]), ([13, 7, 7], [7, 13]), ([9, 14, 7], [7, 9, 14]), ([7, 15], [7, 15]), ([16, 14, 0, 1, 2, 3, 4, 5, 6, 7, 8, 9, 10, 11, 12, 13, 14, 15, 16], [16])])
def lectionaryref4_written.B4 : List Nat := [0, 1, 3, 7, 15, 31, 63, 127, 255, 511, 255, 255, 3327, 7423, 15615, 32767, 65535, 131071]
theorem lectionaryref4_written.tab4 : rtab .any (opsOf Tryd.f82 4) = lectionaryref4_written.T4 := by kernel_rfl
theorem lectionaryref4_written.bits4 : waitsOk lectionaryref4_written.T4.2 lectionaryref4_written.B4 = true := by kernel_rfl
set_option maxHeartbeats 8000000 in
set_option maxRecDepth 100000 in
theorem lectionaryref4_written.calls (k : Nat) (A0 : Option Addr) (c0 : Nat) (l0 : List (SOp)) (a1_0 : Int) (a1_1 : Int) (a1_2 : Int) (r : Bool) (w : World) (hr0 : Kd.C kOp w A0 l0.length l0) (hc0 : l0.length ≤ c0) (hT : GT w) (h : lectionaryref4_written.f k l0 a1_0 a1_1 a1_2 = some r) :
  Calls Tryd.prog 82 #[.slice A0 l0.length c0, .agg #[.int .i64 a1_0, .int .i64 a1_1, .int .i64 a1_2]] w fun e w' => e = .returned (.bool r) ∧ Below w.heap.size w w' := by
 have hu29 := Tryd.underlying29
 have hu31 := Tryd.underlying31
 have HR0 := Aside0.mk hr0
 have HC0 := Aside0.mk hc0
 clear hr0 hc0
 have HB := Aside0.mk (Below.refl w.heap.size w)
 have H : ((lectionaryref4_Begin.f a1_0 a1_1 a1_2).bind fun t197 => (if t197 = true then (some true) else ((lectionaryref4_Find.f k l0 a1_0 a1_1).bind fun t198 => (if t198 ≥ 0 then (if a1_2 ≥ 0 then (if 0 ≤ t198 then (if t198 < (l0.length : Int) then ((lectionaryref4_Runes.f k ((rd_Op l0 t198).f0) ((rd_Op l0 t198).f1) ((rd_Op l0 t198).f2) ((rd_Op l0 t198).f3.f0) ((rd_Op l0 t198).f3.f1) ((rd_Op l0 t198).f3.f2) ((rd_Op l0 t198).f4) ((rd_Op l0 t198).f5) ((rd_Op l0 t198).f6) ((rd_Op l0 t198).f7) ((rd_Op l0 t198).f8)).bind fun t200 => (some (decide (a1_2 < t200)))) else (none)) else (none)) else (some false)) else (some false))))) = some r := h
 clear h
 replace H := Option.bind_eq_some_iff.mp H
 obtain ⟨t197, A30, H⟩ := H
 replace H : (if t197 = true then (some true) else ((lectionaryref4_Find.f k l0 a1_0 a1_1).bind fun t198 => (if t198 ≥ 0 then (if a1_2 ≥ 0 then (if 0 ≤ t198 then (if t198 < (l0.length : Int) then ((lectionaryref4_Runes.f k ((rd_Op l0 t198).f0) ((rd_Op l0 t198).f1) ((rd_Op l0 t198).f2) ((rd_Op l0 t198).f3.f0) ((rd_Op l0 t198).f3.f1) ((rd_Op l0 t198).f3.f2) ((rd_Op l0 t198).f4) ((rd_Op l0 t198).f5) ((rd_Op l0 t198).f6) ((rd_Op l0 t198).f7) ((rd_Op l0 t198).f8)).bind fun t200 => (some (decide (a1_2 < t200)))) else (none)) else (none)) else (some false)) else (some false)))) = some r := H
 have A3 := Aside0.mk A30
 clear A30
 by_cases c4 : t197 = true
 ·subst c4
  have H1 : (some true) = some r := by rw [if_pos rfl] at H; exact H
  clear H
  have H := H1
  clear H1
  obtain rfl := Option.some.inj H
  go_enter Tryd.func82, Tryd.ntmps82
  go_wp2_with (first | ((with_reducible refine gate_dst (N := 3) rfl ?_); refine bx 3 #[.int .i64 a1_0, .int .i64 a1_1, .int .i64 a1_2] 29 (h := ?_); intro gb196 hg w5 hbox hb; have BK196 := Aside0.mk (hbox); have GW196 := bz HB hg; have GE196 := bz HB hg; replace HB := bs HB hb; clear hb hbox hg; obtain ⟨hcz6_0, hcz6_1, hcz6_2, hfz6_0, hfz6_1, hfz6_2⟩ := kc3 BK196) | ((with_reducible refine gate_callee (f := 77) rfl ?_); refine gl (some 7) Tryd.func77 #[.agg #[.int .i64 a1_0, .int .i64 a1_1, .int .i64 a1_2]] (h := ?_); (with_reducible refine (lectionaryref4_Begin.calls a1_0 a1_1 a1_2 true _ A3.out).mono ?_); rintro e w7 ⟨rfl, hb⟩; refine ⟨_, rfl, ?_⟩; replace BK196 := bl BK196 hb; replace HB := bs HB hb; (try clear hb); (try clear hb2); (try clear hk); (try clear hi)))
  go_ret
  exact ⟨re, bw HB⟩
 replace c4 := Bool.eq_false_iff.mpr c4
 subst c4
 have H1 : ((lectionaryref4_Find.f k l0 a1_0 a1_1).bind fun t198 => (if t198 ≥ 0 then (if a1_2 ≥ 0 then (if 0 ≤ t198 then (if t198 < (l0.length : Int) then ((lectionaryref4_Runes.f k ((rd_Op l0 t198).f0) ((rd_Op l0 t198).f1) ((rd_Op l0 t198).f2) ((rd_Op l0 t198).f3.f0) ((rd_Op l0 t198).f3.f1) ((rd_Op l0 t198).f3.f2) ((rd_Op l0 t198).f4) ((rd_Op l0 t198).f5) ((rd_Op l0 t198).f6) ((rd_Op l0 t198).f7) ((rd_Op l0 t198).f8)).bind fun t200 => (some (decide (a1_2 < t200)))) else (none)) else (none)) else (some false)) else (some false))) = some r := by rw [if_neg (show ¬ (false = true) by decide)] at H; exact H
 clear H
 have H := H1
 clear H1
 replace H := Option.bind_eq_some_iff.mp H
 obtain ⟨t198, A80, H⟩ := H
 replace H : (if t198 ≥ 0 then (if a1_2 ≥ 0 then (if 0 ≤ t198 then (if t198 < (l0.length : Int) then ((lectionaryref4_Runes.f k ((rd_Op l0 t198).f0) ((rd_Op l0 t198).f1) ((rd_Op l0 t198).f2) ((rd_Op l0 t198).f3.f0) ((rd_Op l0 t198).f3.f1) ((rd_Op l0 t198).f3.f2) ((rd_Op l0 t198).f4) ((rd_Op l0 t198).f5) ((rd_Op l0 t198).f6) ((rd_Op l0 t198).f7) ((rd_Op l0 t198).f8)).bind fun t200 => (some (decide (a1_2 < t200)))) else (none)) else (none)) else (some false)) else (some false)) = some r := H
 have A8 := Aside0.mk A80
 clear A80
 by_cases c9 : t198 ≥ 0
 ·rw [if_pos c9] at H
  have c9b0 : decide (0 ≤ t198) = true := decide_eq_true c9
  clear c9
  by_cases c10 : a1_2 ≥ 0
  ·rw [if_pos c10] at H
   have c10b0 : decide (0 ≤ a1_2) = true := decide_eq_true c10
   clear c10
   by_cases c11 : 0 ≤ t198
   ·rw [if_pos c11] at H
    have c11b0 : decide (0 ≤ t198) = true := decide_eq_true c11
    clear c11
    by_cases c12 : t198 < (l0.length : Int)
    ·rw [if_pos c12] at H
     have c12b0 : decide (t198 < (l0.length : Int)) = true := decide_eq_true c12
     clear c12
     replace H := Option.bind_eq_some_iff.mp H
     obtain ⟨t200, A130, H⟩ := H
     replace H : (some (decide (a1_2 < t200))) = some r := H
     have A13 := Aside0.mk A130
     clear A130
     obtain rfl := Option.some.inj H
     go_enter Tryd.func82, Tryd.ntmps82
     try go_wp2_with (first | ((with_reducible refine gate_dst (N := 3) rfl ?_); refine bx 3 #[.int .i64 a1_0, .int .i64 a1_1, .int .i64 a1_2] 29 (h := ?_); intro gb196 hg w14 hbox hb; have BK196 := Aside0.mk (hbox); have GW196 := bz HB hg; have GE196 := bz HB hg; replace HB := bs HB hb; clear hb hbox hg; obtain ⟨hcz15_0, hcz15_1, hcz15_2, hfz15_0, hfz15_1, hfz15_2⟩ := kc3 BK196) | ((with_reducible refine gate_callee (f := 77) rfl ?_); refine gl (some 7) Tryd.func77 #[.agg #[.int .i64 a1_0, .int .i64 a1_1, .int .i64 a1_2]] (h := ?_); (with_reducible refine (lectionaryref4_Begin.calls a1_0 a1_1 a1_2 false _ A3.out).mono ?_); rintro e w16 ⟨rfl, hb⟩; refine ⟨_, rfl, ?_⟩; replace BK196 := bl BK196 hb; replace HB := bs HB hb; (try clear hb); (try clear hb2); (try clear hk); (try clear hi); obtain ⟨hcz17_0, hcz17_1, hcz17_2, hfz17_0, hfz17_1, hfz17_2⟩ := kc3 BK196) | ((with_reducible refine gate_callee (f := 91) rfl ?_); refine gl (some 13) Tryd.func91 #[.slice A0 l0.length c0, .int .i64 a1_0, .int .i64 a1_1] (h := ?_); (with_reducible refine (lectionaryref4_Find.calls k _ _ l0 a1_0 a1_1 t198 _ ?side1 ?side2 A8.out).mono ?_); (case side1 => repeat (first | exact (Kd.C_below HR0.out HB.out) | (with_reducible refine Kd.C_alloc ?_ _) | (with_reducible refine Kd.C_drewN ?_ _) | (with_reducible refine Kd.C_drew ?_))); (case side2 => exact HC0.out); rintro e w' ⟨rfl, ⟨nd, rfl⟩⟩; refine ⟨_, rfl, ?_⟩))
     (try (rw [drewN_self w16]; generalize hq_ : World.drewN w16 _ = w16; have n0_ : Aside0 (w16.heap[gb196]? = some (.cells #[.int .i64 a1_0, .int .i64 a1_1, .int .i64 a1_2] 29 (0, 0))) := ⟨by rw [← hq_]; exact (kk BK196)⟩; have n1_ : Aside0 (Below w.heap.size w w16) := ⟨by rw [← hq_]; exact (bw HB)⟩; clear BK196 HB hq_; have BK196 := n0_; have HB := n1_; clear n0_ n1_))
     have n0_ := Aside0.mk (blk_drew BK196.out)
     have n1_ := Aside0.mk (below_drew1 HB.out)
     clear BK196
     clear HB
     have BK196 := n0_
     have HB := n1_
     clear n0_ n1_
     have p199 : 0 ≤ (t198 : Int) := of_decide_eq_true (by first | (with_reducible assumption) | assumption)
     have q199 : t198 < (l0.length : Int) := of_decide_eq_true (by first | (with_reducible assumption) | assumption)
     obtain ⟨ad199, A199_7, c199_7, e199, hx199_0, hx199_1, hx199_2, hx199_3, hx199_4, hx199_5, hx199_6, hx199_7, hx199_8, hx199_9, hx199_10, hl199_7, hi199_7⟩ := at_Op HR0.out t198 p199 q199
     have hw199_10 := hx199_10
     have hw199_9 := hx199_9
     have hw199_8 := hx199_8
     have hw199_7 := hx199_7
     have hw199_6 := hx199_6
     have hw199_5 := hx199_5
     have hw199_4 := hx199_4
     have hw199_3 := hx199_3
     have hw199_2 := hx199_2
     have hw199_1 := hx199_1
     have hw199_0 := hx199_0
     cases e199
     replace hx199_0 := cl HB hx199_0
     replace hx199_1 := cl HB hx199_1
     replace hx199_2 := cl HB hx199_2
     replace hx199_3 := cl HB hx199_3
     replace hx199_4 := cl HB hx199_4
     replace hx199_5 := cl HB hx199_5
     replace hx199_6 := cl HB hx199_6
     replace hx199_7 := cl HB hx199_7
     replace hx199_8 := cl HB hx199_8
     replace hx199_9 := cl HB hx199_9
     replace hx199_10 := cl HB hx199_10
     have HR199_7 := Aside0.mk hi199_7
     have HC199_7 := Aside0.mk hl199_7
     clear hi199_7 hl199_7
     replace p199 := eq_true p199
     replace q199 := eq_true q199
     refine stP (fun w' => B3 w' gb196 (.int .i64 a1_0) (.int .i64 a1_1) (.int .i64 a1_2) (w'.cell? (ad199.add ((t198).toNat * 11)) = some (.int .i64 ((rd_Op l0 t198).f0)) ∧ w'.cell? ⟨(ad199.add ((t198).toNat * 11)).block, (ad199.add ((t198).toNat * 11)).off + 1, none⟩ = some (.int .i64 ((rd_Op l0 t198).f1)) ∧ w'.cell? ⟨(ad199.add ((t198).toNat * 11)).block, (ad199.add ((t198).toNat * 11)).off + 2, none⟩ = some (.int .i64 ((rd_Op l0 t198).f2)) ∧ w'.cell? ⟨(ad199.add ((t198).toNat * 11)).block, (ad199.add ((t198).toNat * 11)).off + 3, none⟩ = some (.int .i64 ((rd_Op l0 t198).f3.f0)) ∧ w'.cell? ⟨(ad199.add ((t198).toNat * 11)).block, (ad199.add ((t198).toNat * 11)).off + 4, none⟩ = some (.int .i64 ((rd_Op l0 t198).f3.f1)) ∧ w'.cell? ⟨(ad199.add ((t198).toNat * 11)).block, (ad199.add ((t198).toNat * 11)).off + 5, none⟩ = some (.int .i64 ((rd_Op l0 t198).f3.f2)) ∧ w'.cell? ⟨(ad199.add ((t198).toNat * 11)).block, (ad199.add ((t198).toNat * 11)).off + 6, none⟩ = some (.string ((rd_Op l0 t198).f4)) ∧ w'.cell? ⟨(ad199.add ((t198).toNat * 11)).block, (ad199.add ((t198).toNat * 11)).off + 7, none⟩ = some (.slice A199_7 ((rd_Op l0 t198).f5).length c199_7) ∧ w'.cell? ⟨(ad199.add ((t198).toNat * 11)).block, (ad199.add ((t198).toNat * 11)).off + 8, none⟩ = some (.int .i64 ((rd_Op l0 t198).f6)) ∧ w'.cell? ⟨(ad199.add ((t198).toNat * 11)).block, (ad199.add ((t198).toNat * 11)).off + 9, none⟩ = some (.int .i64 ((rd_Op l0 t198).f7)) ∧ w'.cell? ⟨(ad199.add ((t198).toNat * 11)).block, (ad199.add ((t198).toNat * 11)).off + 10, none⟩ = some (.int .i64 ((rd_Op l0 t198).f8)))) 18 (b3 BK196 ⟨(cl HB hw199_0), (cl HB hw199_1), (cl HB hw199_2), (cl HB hw199_3), (cl HB hw199_4), (cl HB hw199_5), (cl HB hw199_6), (cl HB hw199_7), (cl HB hw199_8), (cl HB hw199_9), (cl HB hw199_10)⟩) (h := fun hHeld => ?_); refine with_tabW lectionaryref4_written.tab4 lectionaryref4_written.bits4 (fun HT_ HW_ => ?_)
     generalize w16.drew = w18 at BK196 HB HR199_7 hx199_0 hx199_1 hx199_10 hx199_2 hx199_3 hx199_4 hx199_5 hx199_6 hx199_7 hx199_8 hx199_9 hHeld ⊢
     refine pu HT_ 0 14 1 (h := ?_)
     refine pu HT_ 1 15 3 (h := ?_)
     refine pu HT_ 2 16 7 (h := ?_)
     refine pu HT_ 3 17 15 (h := ?_)
     refine tk HT_ HW_ hHeld 4 18 31 (h := ?_)
     refine pu HT_ 5 19 63 (h := ?_)
     refine pu HT_ 6 20 127 (h := ?_)
     refine pu HT_ 7 21 255 (h := ?_)
     refine pu HT_ 8 22 511 (h := ?_)
     refine pu HT_ 10 24 1535 (h := ?_)
     refine pu HT_ 11 25 3583 (h := ?_)
     refine pu HT_ 12 26 7679 (h := ?_)
     refine tk HT_ HW_ hHeld 9 23 8191 (h := ?_)
     refine tk HT_ HW_ hHeld 13 27 16383 (h := ?_)
     refine on HT_ 14 (some 28) 32767 (h := fun K hK => ?_)
     refine gS Tryd.func116 #[.agg #[.int .i64 ((rd_Op l0 t198).f0), .int .i64 ((rd_Op l0 t198).f1), .int .i64 ((rd_Op l0 t198).f2), .int .i64 ((rd_Op l0 t198).f3.f0), .int .i64 ((rd_Op l0 t198).f3.f1), .int .i64 ((rd_Op l0 t198).f3.f2), .string ((rd_Op l0 t198).f4), .slice A199_7 ((rd_Op l0 t198).f5).length c199_7, .int .i64 ((rd_Op l0 t198).f6), .int .i64 ((rd_Op l0 t198).f7), .int .i64 ((rd_Op l0 t198).f8)]] (h := ?_)
     with_reducible refine (lectionaryref4_Runes.calls k ((rd_Op l0 t198).f0) ((rd_Op l0 t198).f1) ((rd_Op l0 t198).f2) ((rd_Op l0 t198).f3.f0) ((rd_Op l0 t198).f3.f1) ((rd_Op l0 t198).f3.f2) ((rd_Op l0 t198).f4) _ _ ((rd_Op l0 t198).f5) ((rd_Op l0 t198).f6) ((rd_Op l0 t198).f7) ((rd_Op l0 t198).f8) t200 _ ?side1 ?side2 ?side3 A13.out).mono ?_
     (case side1 => repeat (first | exact (Kd.C_below HR199_7.out HB.out) | (with_reducible refine Kd.C_alloc ?_ _) | (with_reducible refine Kd.C_drewN ?_ _) | (with_reducible refine Kd.C_drew ?_)))
     (case side2 => exact HC199_7.out)
     (case side3 => exact (hT.below (bw HB)))
     rintro e w19 ⟨rfl, hb⟩
     refine ⟨_, rfl, ?_⟩
     have n0_ := bl BK196 hb
     have n1_ := bs HB hb
     clear BK196
     clear HB
     have BK196 := n0_
     have HB := n1_
     clear n0_ n1_
     (try clear hb)
     (try clear hb2)
     (try clear hk)
     (try clear hi)
     refine hK.out _ _ (b3 BK196 ⟨(cl HB hw199_0), (cl HB hw199_1), (cl HB hw199_2), (cl HB hw199_3), (cl HB hw199_4), (cl HB hw199_5), (cl HB hw199_6), (cl HB hw199_7), (cl HB hw199_8), (cl HB hw199_9), (cl HB hw199_10)⟩) (fun hHeld => ?_)
     clear hK K
     refine nm (h := ?_)
     refine pu HT_ 15 29 65535 (h := ?_)
     refine pu HT_ 16 30 131071 (h := ?_)
     refine pu HT_ 17 4 262143 (h := ?_)
     refine dn HT_ (h := ?_)
     try go_wp2
     go_ret
     exact ⟨re, bw HB⟩
    rw [if_neg c12] at H
    exact absurd H (by simp)
   rw [if_neg c11] at H
   exact absurd H (by simp)
  rw [if_neg c10] at H
  have c10b0 : decide (0 ≤ a1_2) = false := decide_eq_false c10
  clear c10
  obtain rfl := Option.some.inj H
  go_enter Tryd.func82, Tryd.ntmps82
  try go_wp2_with (first | ((with_reducible refine gate_dst (N := 3) rfl ?_); refine bx 3 #[.int .i64 a1_0, .int .i64 a1_1, .int .i64 a1_2] 29 (h := ?_); intro gb196 hg w20 hbox hb; have BK196 := Aside0.mk (hbox); have GW196 := bz HB hg; have GE196 := bz HB hg; replace HB := bs HB hb; clear hb hbox hg; obtain ⟨hcz21_0, hcz21_1, hcz21_2, hfz21_0, hfz21_1, hfz21_2⟩ := kc3 BK196) | ((with_reducible refine gate_callee (f := 77) rfl ?_); refine gl (some 7) Tryd.func77 #[.agg #[.int .i64 a1_0, .int .i64 a1_1, .int .i64 a1_2]] (h := ?_); (with_reducible refine (lectionaryref4_Begin.calls a1_0 a1_1 a1_2 false _ A3.out).mono ?_); rintro e w22 ⟨rfl, hb⟩; refine ⟨_, rfl, ?_⟩; replace BK196 := bl BK196 hb; replace HB := bs HB hb; (try clear hb); (try clear hb2); (try clear hk); (try clear hi); obtain ⟨hcz23_0, hcz23_1, hcz23_2, hfz23_0, hfz23_1, hfz23_2⟩ := kc3 BK196) | ((with_reducible refine gate_callee (f := 91) rfl ?_); refine gl (some 13) Tryd.func91 #[.slice A0 l0.length c0, .int .i64 a1_0, .int .i64 a1_1] (h := ?_); (with_reducible refine (lectionaryref4_Find.calls k _ _ l0 a1_0 a1_1 t198 _ ?side1 ?side2 A8.out).mono ?_); (case side1 => repeat (first | exact (Kd.C_below HR0.out HB.out) | (with_reducible refine Kd.C_alloc ?_ _) | (with_reducible refine Kd.C_drewN ?_ _) | (with_reducible refine Kd.C_drew ?_))); (case side2 => exact HC0.out); rintro e w' ⟨rfl, ⟨nd, rfl⟩⟩; refine ⟨_, rfl, ?_⟩))
  (try (rw [drewN_self w22]; generalize hq_ : World.drewN w22 _ = w22; have n0_ : Aside0 (w22.heap[gb196]? = some (.cells #[.int .i64 a1_0, .int .i64 a1_1, .int .i64 a1_2] 29 (0, 0))) := ⟨by rw [← hq_]; exact (kk BK196)⟩; have n1_ : Aside0 (Below w.heap.size w w22) := ⟨by rw [← hq_]; exact (bw HB)⟩; clear BK196 HB hq_; have BK196 := n0_; have HB := n1_; clear n0_ n1_))
  have n0_ := Aside0.mk (blk_drew BK196.out)
  have n1_ := Aside0.mk (below_drew1 HB.out)
  clear BK196
  clear HB
  have BK196 := n0_
  have HB := n1_
  clear n0_ n1_
  refine stP (fun w' => E3 w' gb196 (.int .i64 a1_0) (.int .i64 a1_1) (.int .i64 a1_2)) 18 (e3 BK196) (h := fun hHeld => ?_); refine with_tabW lectionaryref4_written.tab4 lectionaryref4_written.bits4 (fun HT_ HW_ => ?_)
  generalize w22.drew = w24 at BK196 HB hHeld ⊢
  refine pu HT_ 0 14 1 (h := ?_)
  refine pu HT_ 1 15 3 (h := ?_)
  refine pu HT_ 2 16 7 (h := ?_)
  refine pu HT_ 3 17 15 (h := ?_)
  refine tk HT_ HW_ hHeld 4 18 31 (h := ?_)
  refine pu HT_ 5 19 63 (h := ?_)
  refine pu HT_ 6 20 127 (h := ?_)
  refine pu HT_ 7 21 255 (h := ?_)
  refine off HT_ 8 22 511 (h := ?_)
  refine off HT_ 9 23 1023 (h := ?_)
  refine off HT_ 10 24 2047 (h := ?_)
  refine off HT_ 11 25 4095 (h := ?_)
  refine off HT_ 12 26 8191 (h := ?_)
  refine off HT_ 13 27 16383 (h := ?_)
  refine off HT_ 14 28 32767 (h := ?_)
  refine off HT_ 15 29 65535 (h := ?_)
  refine pu HT_ 16 30 131071 (h := ?_)
  refine pu HT_ 17 4 262143 (h := ?_)
  refine dn HT_ (h := ?_)
  try go_wp2
  go_ret
  exact ⟨re, bw HB⟩
 rw [if_neg c9] at H
 have c9b0 : decide (0 ≤ t198) = false := decide_eq_false c9
 clear c9
 obtain rfl := Option.some.inj H
 go_enter Tryd.func82, Tryd.ntmps82
 try go_wp2_with (first | ((with_reducible refine gate_dst (N := 3) rfl ?_); refine bx 3 #[.int .i64 a1_0, .int .i64 a1_1, .int .i64 a1_2] 29 (h := ?_); intro gb196 hg w25 hbox hb; have BK196 := Aside0.mk (hbox); have GW196 := bz HB hg; have GE196 := bz HB hg; replace HB := bs HB hb; clear hb hbox hg; obtain ⟨hcz26_0, hcz26_1, hcz26_2, hfz26_0, hfz26_1, hfz26_2⟩ := kc3 BK196) | ((with_reducible refine gate_callee (f := 77) rfl ?_); refine gl (some 7) Tryd.func77 #[.agg #[.int .i64 a1_0, .int .i64 a1_1, .int .i64 a1_2]] (h := ?_); (with_reducible refine (lectionaryref4_Begin.calls a1_0 a1_1 a1_2 false _ A3.out).mono ?_); rintro e w27 ⟨rfl, hb⟩; refine ⟨_, rfl, ?_⟩; replace BK196 := bl BK196 hb; replace HB := bs HB hb; (try clear hb); (try clear hb2); (try clear hk); (try clear hi); obtain ⟨hcz28_0, hcz28_1, hcz28_2, hfz28_0, hfz28_1, hfz28_2⟩ := kc3 BK196) | ((with_reducible refine gate_callee (f := 91) rfl ?_); refine gl (some 13) Tryd.func91 #[.slice A0 l0.length c0, .int .i64 a1_0, .int .i64 a1_1] (h := ?_); (with_reducible refine (lectionaryref4_Find.calls k _ _ l0 a1_0 a1_1 t198 _ ?side1 ?side2 A8.out).mono ?_); (case side1 => repeat (first | exact (Kd.C_below HR0.out HB.out) | (with_reducible refine Kd.C_alloc ?_ _) | (with_reducible refine Kd.C_drewN ?_ _) | (with_reducible refine Kd.C_drew ?_))); (case side2 => exact HC0.out); rintro e w' ⟨rfl, ⟨nd, rfl⟩⟩; refine ⟨_, rfl, ?_⟩))
 (try (rw [drewN_self w27]; generalize hq_ : World.drewN w27 _ = w27; have n0_ : Aside0 (w27.heap[gb196]? = some (.cells #[.int .i64 a1_0, .int .i64 a1_1, .int .i64 a1_2] 29 (0, 0))) := ⟨by rw [← hq_]; exact (kk BK196)⟩; have n1_ : Aside0 (Below w.heap.size w w27) := ⟨by rw [← hq_]; exact (bw HB)⟩; clear BK196 HB hq_; have BK196 := n0_; have HB := n1_; clear n0_ n1_))
 have n0_ := Aside0.mk (blk_drew BK196.out)
 have n1_ := Aside0.mk (below_drew1 HB.out)
 clear BK196
 clear HB
 have BK196 := n0_
 have HB := n1_
 clear n0_ n1_
 refine stP (fun w' => True) 18 trivial (h := fun hHeld => ?_); refine with_tabW lectionaryref4_written.tab4 lectionaryref4_written.bits4 (fun HT_ HW_ => ?_)
 generalize w27.drew = w29 at BK196 HB hHeld ⊢
 refine pu HT_ 0 14 1 (h := ?_)
 refine pu HT_ 1 15 3 (h := ?_)
 refine pu HT_ 2 16 7 (h := ?_)
 refine off HT_ 3 17 15 (h := ?_)
 refine off HT_ 4 18 31 (h := ?_)
 refine off HT_ 5 19 63 (h := ?_)
 refine pu HT_ 6 20 127 (h := ?_)
 refine pu HT_ 7 21 255 (h := ?_)
 refine off HT_ 8 22 511 (h := ?_)
 refine off HT_ 9 23 1023 (h := ?_)
 refine off HT_ 10 24 2047 (h := ?_)
 refine off HT_ 11 25 4095 (h := ?_)
 refine off HT_ 12 26 8191 (h := ?_)
 refine off HT_ 13 27 16383 (h := ?_)
 refine off HT_ 14 28 32767 (h := ?_)
 refine off HT_ 15 29 65535 (h := ?_)
 refine pu HT_ 16 30 131071 (h := ?_)
 refine pu HT_ 17 4 262143 (h := ?_)
 refine dn HT_ (h := ?_)
 try go_wp2
 go_ret
 exact ⟨re, bw HB⟩
def lectionaryref4_Many.l0 : Nat → List (SOp) → Int → Int → Int → Option (Int)
 | 0, _, _, _, _ => none
 | k + 1, x0, x1, x5, x6 => if x6 < (x0.length : Int) then (if 0 ≤ x6 then (if ((rd_Op x0 x6).f0) = x1 then (lectionaryref4_Many.l0 k x0 x1 (wrap64 (x5 + 1)) (wrap64 (x6 + 1))) else (lectionaryref4_Many.l0 k x0 x1 x5 (wrap64 (x6 + 1)))) else (none)) else (some x5)
def lectionaryref4_Many.f (k : Nat) (l0 : List (SOp)) (a1 : Int) : Option (Int) := lectionaryref4_Many.l0 k l0 a1 0 0
set_option maxHeartbeats 8000000 in
set_option maxRecDepth 100000 in
theorem lectionaryref4_Many.calls (k : Nat) (A0 : Option Addr) (c0 : Nat) (l0 : List (SOp)) (a1 : Int) (r : Int) (w : World) (hr0 : Kd.C kOp w A0 l0.length l0) (hc0 : l0.length ≤ c0) (h : lectionaryref4_Many.f k l0 a1 = some r) :
  Calls Tryd.prog 84 #[.slice A0 l0.length c0, .int .i64 a1] w fun e w' => e = .returned (.int .i64 r) ∧ Drawn0 w w' := by
 have HR0 := Aside0.mk hr0
 have HC0 := Aside0.mk hc0
 clear hr0 hc0
 have H : (lectionaryref4_Many.l0 k l0 a1 0 0) = some r := h
 clear h
 have H' := Aside0.mk H
 clear H
 go_enter Tryd.func84, Tryd.ntmps84
 go_wp2
 go_loopg [5, 6] k (fun kq v5 v6 w' => ∃ (x5_1 : Int) (x6_1 : Int), v5 = .int .i64 x5_1 ∧ v6 = .int .i64 x6_1 ∧ Aside0 (lectionaryref4_Many.l0 kq l0 a1 x5_1 x6_1 = some r) ∧ Aside0 (kq ≤ k) ∧ Drawn0 w w')
 case atStart => exact ⟨(0), (0), rf, rf, H', ⟨Nat.le_refl _⟩, by repeat (first | exact Drawn0.refl _ | apply Drawn0.step)⟩
 case round =>
  clear H'
  obtain ⟨x5_1, x6_1, rfl, rfl, HA, HK1, ⟨m1, rfl⟩⟩ := hrel
  cases gk with
  | zero => exact absurd HA.out (by simp [lectionaryref4_Many.l0])
  | succ k1 =>
   have H := HA.out
   clear HA
   simp only [lectionaryref4_Many.l0] at H
   by_cases c3 : x6_1 < (l0.length : Int)
   ·rw [if_pos c3] at H
    have c3b0 : decide (x6_1 < (l0.length : Int)) = true := decide_eq_true c3
    clear c3
    by_cases c4 : 0 ≤ x6_1
    ·rw [if_pos c4] at H
     have c4b0 : decide (0 ≤ x6_1) = true := decide_eq_true c4
     clear c4
     by_cases c5 : ((rd_Op l0 x6_1).f0) = a1
     ·rw [if_pos c5] at H
      have c5b0 : (((rd_Op l0 x6_1).f0) == a1) = true := beq_iff_eq.mpr c5
      have c5b1 : (((rd_Op l0 x6_1).f0) != a1) = false := bne_eq_false_iff_eq.mpr c5
      clear c5
      have H' := Aside0.mk H
      clear H
      have p201 : 0 ≤ (x6_1 : Int) := of_decide_eq_true (by first | (with_reducible assumption) | assumption)
      have q201 : x6_1 < (l0.length : Int) := of_decide_eq_true (by first | (with_reducible assumption) | assumption)
      obtain ⟨ad201, A201_7, c201_7, e201, hx201_0, hx201_1, hx201_2, hx201_3, hx201_4, hx201_5, hx201_6, hx201_7, hx201_8, hx201_9, hx201_10, hl201_7, hi201_7⟩ := at_Op HR0.out x6_1 p201 q201
      cases e201
      have HR201_7 := Aside0.mk hi201_7
      have HC201_7 := Aside0.mk hl201_7
      clear hi201_7 hl201_7
      replace p201 := eq_true p201
      replace q201 := eq_true q201
      go_wp2
      go_roundg k1
      case measure => have := HK1.out; omega
      case rel => exact ⟨(wrap64 (x5_1 + 1)), (wrap64 (x6_1 + 1)), rf, rf, H', ⟨by have := HK1.out; omega⟩, by repeat (first | exact Drawn0.refl _ | apply Drawn0.step)⟩
     rw [if_neg c5] at H
     have c5b0 : (((rd_Op l0 x6_1).f0) == a1) = false := beq_eq_false_iff_ne.mpr c5
     have c5b1 : (((rd_Op l0 x6_1).f0) != a1) = true := bne_iff_ne.mpr c5
     have H' := Aside0.mk H
     clear H
     have p201 : 0 ≤ (x6_1 : Int) := of_decide_eq_true (by first | (with_reducible assumption) | assumption)
     have q201 : x6_1 < (l0.length : Int) := of_decide_eq_true (by first | (with_reducible assumption) | assumption)
     obtain ⟨ad201, A201_7, c201_7, e201, hx201_0, hx201_1, hx201_2, hx201_3, hx201_4, hx201_5, hx201_6, hx201_7, hx201_8, hx201_9, hx201_10, hl201_7, hi201_7⟩ := at_Op HR0.out x6_1 p201 q201
     cases e201
     have HR201_7 := Aside0.mk hi201_7
     have HC201_7 := Aside0.mk hl201_7
     clear hi201_7 hl201_7
     replace p201 := eq_true p201
     replace q201 := eq_true q201
     go_wp2
     go_roundg k1
     case measure => have := HK1.out; omega
     case rel => exact ⟨(x5_1), (wrap64 (x6_1 + 1)), rf, rf, H', ⟨by have := HK1.out; omega⟩, by repeat (first | exact Drawn0.refl _ | apply Drawn0.step)⟩
    rw [if_neg c4] at H
    exact absurd H (by simp)
   rw [if_neg c3] at H
   have c3b0 : decide (x6_1 < (l0.length : Int)) = false := decide_eq_false c3
   clear c3
   obtain rfl := Option.some.inj H
   go_wp2
   go_ret
   exact ⟨rf, by repeat (first | exact Drawn0.refl _ | apply Drawn0.step)⟩
end Go.Proofs.YtdahgnalojekdaaDoor.L
end
