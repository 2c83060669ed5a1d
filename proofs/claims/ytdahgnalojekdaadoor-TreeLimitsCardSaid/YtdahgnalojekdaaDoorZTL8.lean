/- Part 8 of the proof that for every argument the law TreeLimits answers true: as many ops, and as many runes, as may be are a row, one more is none, by rows made here; the card ties the two tables of unicode/utf8 that are listed; no other condition is laid. -/
import Derived.Test.YtdahgnalojekdaaDoorZTL7
section
namespace Go.Proofs.YtdahgnalojekdaaDoor.L
open Go.RowKit Go.Proofs.YtdahgnalojekdaaDoorW.PrintWords Go.Proofs.YtdahgnalojekdaaDoorW.PrintLast Go.Proofs.YtdahgnalojekdaaDoorW.PrintMore
attribute [local go_sem] max2_int min2_int max_two min_two max_three min_three max_four min_four
set_option linter.unusedVariables false
set_option linter.unusedSimpArgs false
mutual
def lectionaryref4_Op.j0 : Nat → Bool → Int → Int → Int → Int → Int → Int → ByteArray → List (SElem) → Int → Int → Int → Option (Bool)
  | 0, _, _, _, _, _, _, _, _, _, _, _, _ => none
  | k + 1, x89, x166000, x166001, x166002, x166003, x166004, x166005, x166006, x166007, x166008, x166009, x166010 => if x89 = true then (some false) else ((lectionaryref1_Runes.f k x166006).bind fun bt172 => (if bt172.2 = true then (if (bt172.1.length : Int) > 12 then (lectionaryref4_Op.j1 k true x166000 x166001 x166002 x166003 x166004 x166005 x166006 x166007 x166008 x166009 x166010) else ((lectionaryref4_Elem.f x166003 x166004 x166005).bind fun t176 => (if t176 = true then (if (bt172.1.length : Int) = 0 then ((lectionaryref4_Begin.f x166003 x166004 x166005).bind fun t177 => (if t177 = true then ((lectionaryref4_own.f x166000 x166001 x166002 x166003 x166004 x166005 x166006 x166007 x166008 x166009 x166010 x166003 x166004 x166005).bind fun t178 => (lectionaryref4_Op.j1 k t178 x166000 x166001 x166002 x166003 x166004 x166005 x166006 x166007 x166008 x166009 x166010)) else (lectionaryref4_Op.j1 k true x166000 x166001 x166002 x166003 x166004 x166005 x166006 x166007 x166008 x166009 x166010))) else ((lectionaryref4_own.f x166000 x166001 x166002 x166003 x166004 x166005 x166006 x166007 x166008 x166009 x166010 x166003 x166004 x166005).bind fun t179 => (lectionaryref4_Op.j1 k t179 x166000 x166001 x166002 x166003 x166004 x166005 x166006 x166007 x166008 x166009 x166010))) else (lectionaryref4_Op.j1 k true x166000 x166001 x166002 x166003 x166004 x166005 x166006 x166007 x166008 x166009 x166010)))) else (lectionaryref4_Op.j1 k true x166000 x166001 x166002 x166003 x166004 x166005 x166006 x166007 x166008 x166009 x166010)))
def lectionaryref4_Op.j1 : Nat → Bool → Int → Int → Int → Int → Int → Int → ByteArray → List (SElem) → Int → Int → Int → Option (Bool)
  | 0, _, _, _, _, _, _, _, _, _, _, _, _ => none
  | k + 1, x125, x166000, x166001, x166002, x166003, x166004, x166005, x166006, x166007, x166008, x166009, x166010 => if x125 = true then (some false) else (lectionaryref4_Op.l0 k 0 x166000 x166001 x166002 x166003 x166004 x166005 x166006 x166007 x166008 x166009 x166010)
def lectionaryref4_Op.l0 : Nat → Int → Int → Int → Int → Int → Int → Int → ByteArray → List (SElem) → Int → Int → Int → Option (Bool)
  | 0, _, _, _, _, _, _, _, _, _, _, _, _ => none
  | k + 1, x5, x166000, x166001, x166002, x166003, x166004, x166005, x166006, x166007, x166008, x166009, x166010 => if x5 < (x166007.length : Int) then (if 0 ≤ x5 then ((lectionaryref4_Begin.f ((rd_Elem x166007 x5).f0) ((rd_Elem x166007 x5).f1) ((rd_Elem x166007 x5).f2)).bind fun t181 => (if t181 = true then (some false) else ((lectionaryref4_Elem.f ((rd_Elem x166007 x5).f0) ((rd_Elem x166007 x5).f1) ((rd_Elem x166007 x5).f2)).bind fun t183 => (if t183 = true then ((lectionaryref4_own.f x166000 x166001 x166002 x166003 x166004 x166005 x166006 x166007 x166008 x166009 x166010 ((rd_Elem x166007 x5).f0) ((rd_Elem x166007 x5).f1) ((rd_Elem x166007 x5).f2)).bind fun t185 => (if t185 = true then (some false) else (if x5 > 0 then (if 0 ≤ (wrap64 (x5 - 1)) then (if (wrap64 (x5 - 1)) < (x166007.length : Int) then ((lectionaryref4_Less.f ((rd_Elem x166007 (wrap64 (x5 - 1))).f0) ((rd_Elem x166007 (wrap64 (x5 - 1))).f1) ((rd_Elem x166007 (wrap64 (x5 - 1))).f2) ((rd_Elem x166007 x5).f0) ((rd_Elem x166007 x5).f1) ((rd_Elem x166007 x5).f2)).bind fun t188 => (if t188 = true then (lectionaryref4_Op.l0 k (wrap64 (x5 + 1)) x166000 x166001 x166002 x166003 x166004 x166005 x166006 x166007 x166008 x166009 x166010) else (some false))) else (none)) else (none)) else (lectionaryref4_Op.l0 k (wrap64 (x5 + 1)) x166000 x166001 x166002 x166003 x166004 x166005 x166006 x166007 x166008 x166009 x166010)))) else (some false))))) else (none)) else (some true)
end
def lectionaryref4_Op.f (k : Nat) (a0_0 : Int) (a0_1 : Int) (a0_2 : Int) (a0_3 : Int) (a0_4 : Int) (a0_5 : Int) (a0_6 : ByteArray) (l0_7 : List (SElem)) (a0_8 : Int) (a0_9 : Int) (a0_10 : Int) : Option (Bool) := (lectionaryref4_name.f a0_0 a0_1).bind fun t166 => (if t166 = true then (if a0_2 = 2 then ((lectionaryref4_name.f a0_8 a0_9).bind fun t167 => (if t167 = true then (if a0_8 = a0_0 then (if a0_9 = a0_1 then (some false) else ((lectionaryref0_Num.f a0_10 268435456).bind fun t168 => (if t168 = true then ((lectionaryref4_Begin.f a0_3 a0_4 a0_5).bind fun t169 => (if t169 = true then (if a0_6.toList = ([] : List UInt8) then (some ((l0_7.length : Int) == 0)) else (some false)) else (some false))) else (some false)))) else ((lectionaryref0_Num.f a0_10 268435456).bind fun t170 => (if t170 = true then ((lectionaryref4_Begin.f a0_3 a0_4 a0_5).bind fun t171 => (if t171 = true then (if a0_6.toList = ([] : List UInt8) then (some ((l0_7.length : Int) == 0)) else (some false)) else (some false))) else (some false)))) else (some false))) else (if a0_2 = 1 then (if a0_8 = 0 then (if a0_9 = 0 then (if a0_10 = 0 then (if (l0_7.length : Int) > 200 then (lectionaryref4_Op.j0 k true a0_0 a0_1 a0_2 a0_3 a0_4 a0_5 a0_6 l0_7 a0_8 a0_9 a0_10) else (if a0_6.toList = ([] : List UInt8) then (lectionaryref4_Op.j0 k ((l0_7.length : Int) == 0) a0_0 a0_1 a0_2 a0_3 a0_4 a0_5 a0_6 l0_7 a0_8 a0_9 a0_10) else (lectionaryref4_Op.j0 k false a0_0 a0_1 a0_2 a0_3 a0_4 a0_5 a0_6 l0_7 a0_8 a0_9 a0_10))) else (lectionaryref4_Op.j0 k true a0_0 a0_1 a0_2 a0_3 a0_4 a0_5 a0_6 l0_7 a0_8 a0_9 a0_10)) else (lectionaryref4_Op.j0 k true a0_0 a0_1 a0_2 a0_3 a0_4 a0_5 a0_6 l0_7 a0_8 a0_9 a0_10)) else (lectionaryref4_Op.j0 k true a0_0 a0_1 a0_2 a0_3 a0_4 a0_5 a0_6 l0_7 a0_8 a0_9 a0_10)) else (lectionaryref4_Op.j0 k true a0_0 a0_1 a0_2 a0_3 a0_4 a0_5 a0_6 l0_7 a0_8 a0_9 a0_10))) else (some false))
def lectionaryref4_Op.T13 : Bool × List (List Nat × List Nat) := (true, [([], []), ([0], [0]), ([], []), ([1, 2], [1, 2]), ([3], [3]), ([4], [4]), ([5, 5], [5]), ([6], [6]), ([7, 6], [6, 7]), ([6], [6]), ([8, 9, 6], [6, 8, 9]), ([10, 6], [6, 10]), ([11, 6, 6], [6, 11]), ([12, 6], [6, 12]), ([6, 13], [6, 13]), ([14, 12], [14]), ([15], [15]), ([15], [15]), ([17, 15], [15, 17]), ([15], [15]), ([18, 19, 15], [15, 18, 19]), ([20, 15], [15, 20]), ([16, 21, 15, 15], [15, 16, 21]), ([15, 22], [15, 22]), ([23, 22], [23]), ([24], [24]), ([25, 24], [24, 25]), ([26, 24, 24], [24, 26]), ([27], [27]), ([28, 27], [27, 28]), ([27], [27]), ([30, 27], [27, 30]), ([29, 31, 27], [27, 29, 31]), ([32, 27], [27, 32]), ([27], [27]), ([34, 27], [27, 34]), ([27], [27]), ([35, 36, 27], [27, 35, 36]), ([37, 27], [27, 37]), ([33, 38, 27, 27], [27, 33, 38]), ([39, 27], [27, 39]), ([27, 40, 24], [24, 27, 40]), ([24, 41], [24, 41])])
def lectionaryref4_Op.B13 : List Nat := [0, 1, 0, 7, 15, 31, 63, 127, 255, 127, 1023, 2047, 4095, 8191, 16383, 32767, 65535, 65535, 196607, 65535, 983039, 2031615, 4194303, 8388607, 16777215, 33554431, 67108863, 134217727, 268435455, 536870911, 268435455, 1342177279, 4294967295, 8589934591, 268435455, 17448304639, 268435455, 120527519743, 257966473215, 549755813887, 1099511627775, 2199023255551, 4398046511103]
theorem lectionaryref4_Op.tab13 : rtab .any (opsOf Tryd.f57 13) = lectionaryref4_Op.T13 := by kernel_rfl
theorem lectionaryref4_Op.bits13 : waitsOk lectionaryref4_Op.T13.2 lectionaryref4_Op.B13 = true := by kernel_rfl
set_option maxHeartbeats 8000000 in
set_option maxRecDepth 100000 in
theorem lectionaryref4_Op.calls (k : Nat) (a0_0 : Int) (a0_1 : Int) (a0_2 : Int) (a0_3 : Int) (a0_4 : Int) (a0_5 : Int) (a0_6 : ByteArray) (A0_7 : Option Addr) (c0_7 : Nat) (l0_7 : List (SElem)) (a0_8 : Int) (a0_9 : Int) (a0_10 : Int) (r : Bool) (w : World) (hr0_7 : Kd.C kElem w A0_7 l0_7.length l0_7) (hc0_7 : l0_7.length ≤ c0_7) (hT : GT w) (h : lectionaryref4_Op.f k a0_0 a0_1 a0_2 a0_3 a0_4 a0_5 a0_6 l0_7 a0_8 a0_9 a0_10 = some r) :
    Calls Tryd.prog 57 #[.agg #[.int .i64 a0_0, .int .i64 a0_1, .int .i64 a0_2, .int .i64 a0_3, .int .i64 a0_4, .int .i64 a0_5, .string a0_6, .slice A0_7 l0_7.length c0_7, .int .i64 a0_8, .int .i64 a0_9, .int .i64 a0_10]] w fun e w' => e = .returned (.bool r) ∧ Below w.heap.size w w' := by
  have hu31 := Tryd.underlying31
  have hu29 := Tryd.underlying29
  have HR0_7 := Aside0.mk hr0_7
  have HC0_7 := Aside0.mk hc0_7
  clear hr0_7 hc0_7
  have HB := Aside0.mk (Below.refl w.heap.size w)
  have H : ((lectionaryref4_name.f a0_0 a0_1).bind fun t166 => (if t166 = true then (if a0_2 = 2 then ((lectionaryref4_name.f a0_8 a0_9).bind fun t167 => (if t167 = true then (if a0_8 = a0_0 then (if a0_9 = a0_1 then (some false) else ((lectionaryref0_Num.f a0_10 268435456).bind fun t168 => (if t168 = true then ((lectionaryref4_Begin.f a0_3 a0_4 a0_5).bind fun t169 => (if t169 = true then (if a0_6.toList = ([] : List UInt8) then (some ((l0_7.length : Int) == 0)) else (some false)) else (some false))) else (some false)))) else ((lectionaryref0_Num.f a0_10 268435456).bind fun t170 => (if t170 = true then ((lectionaryref4_Begin.f a0_3 a0_4 a0_5).bind fun t171 => (if t171 = true then (if a0_6.toList = ([] : List UInt8) then (some ((l0_7.length : Int) == 0)) else (some false)) else (some false))) else (some false)))) else (some false))) else (if a0_2 = 1 then (if a0_8 = 0 then (if a0_9 = 0 then (if a0_10 = 0 then (if (l0_7.length : Int) > 200 then (lectionaryref4_Op.j0 k true a0_0 a0_1 a0_2 a0_3 a0_4 a0_5 a0_6 l0_7 a0_8 a0_9 a0_10) else (if a0_6.toList = ([] : List UInt8) then (lectionaryref4_Op.j0 k ((l0_7.length : Int) == 0) a0_0 a0_1 a0_2 a0_3 a0_4 a0_5 a0_6 l0_7 a0_8 a0_9 a0_10) else (lectionaryref4_Op.j0 k false a0_0 a0_1 a0_2 a0_3 a0_4 a0_5 a0_6 l0_7 a0_8 a0_9 a0_10))) else (lectionaryref4_Op.j0 k true a0_0 a0_1 a0_2 a0_3 a0_4 a0_5 a0_6 l0_7 a0_8 a0_9 a0_10)) else (lectionaryref4_Op.j0 k true a0_0 a0_1 a0_2 a0_3 a0_4 a0_5 a0_6 l0_7 a0_8 a0_9 a0_10)) else (lectionaryref4_Op.j0 k true a0_0 a0_1 a0_2 a0_3 a0_4 a0_5 a0_6 l0_7 a0_8 a0_9 a0_10)) else (lectionaryref4_Op.j0 k true a0_0 a0_1 a0_2 a0_3 a0_4 a0_5 a0_6 l0_7 a0_8 a0_9 a0_10))) else (some false))) = some r := h
  clear h
  replace H := Option.bind_eq_some_iff.mp H
  obtain ⟨t166, A20, H⟩ := H
  replace H : (if t166 = true then (if a0_2 = 2 then ((lectionaryref4_name.f a0_8 a0_9).bind fun t167 => (if t167 = true then (if a0_8 = a0_0 then (if a0_9 = a0_1 then (some false) else ((lectionaryref0_Num.f a0_10 268435456).bind fun t168 => (if t168 = true then ((lectionaryref4_Begin.f a0_3 a0_4 a0_5).bind fun t169 => (if t169 = true then (if a0_6.toList = ([] : List UInt8) then (some ((l0_7.length : Int) == 0)) else (some false)) else (some false))) else (some false)))) else ((lectionaryref0_Num.f a0_10 268435456).bind fun t170 => (if t170 = true then ((lectionaryref4_Begin.f a0_3 a0_4 a0_5).bind fun t171 => (if t171 = true then (if a0_6.toList = ([] : List UInt8) then (some ((l0_7.length : Int) == 0)) else (some false)) else (some false))) else (some false)))) else (some false))) else (if a0_2 = 1 then (if a0_8 = 0 then (if a0_9 = 0 then (if a0_10 = 0 then (if (l0_7.length : Int) > 200 then (lectionaryref4_Op.j0 k true a0_0 a0_1 a0_2 a0_3 a0_4 a0_5 a0_6 l0_7 a0_8 a0_9 a0_10) else (if a0_6.toList = ([] : List UInt8) then (lectionaryref4_Op.j0 k ((l0_7.length : Int) == 0) a0_0 a0_1 a0_2 a0_3 a0_4 a0_5 a0_6 l0_7 a0_8 a0_9 a0_10) else (lectionaryref4_Op.j0 k false a0_0 a0_1 a0_2 a0_3 a0_4 a0_5 a0_6 l0_7 a0_8 a0_9 a0_10))) else (lectionaryref4_Op.j0 k true a0_0 a0_1 a0_2 a0_3 a0_4 a0_5 a0_6 l0_7 a0_8 a0_9 a0_10)) else (lectionaryref4_Op.j0 k true a0_0 a0_1 a0_2 a0_3 a0_4 a0_5 a0_6 l0_7 a0_8 a0_9 a0_10)) else (lectionaryref4_Op.j0 k true a0_0 a0_1 a0_2 a0_3 a0_4 a0_5 a0_6 l0_7 a0_8 a0_9 a0_10)) else (lectionaryref4_Op.j0 k true a0_0 a0_1 a0_2 a0_3 a0_4 a0_5 a0_6 l0_7 a0_8 a0_9 a0_10))) else (some false)) = some r := H
  have A2 := Aside0.mk A20
  clear A20
  by_cases c3 : t166 = true
  · as_aux_lemma =>
    subst c3
    have H1 : (if a0_2 = 2 then ((lectionaryref4_name.f a0_8 a0_9).bind fun t167 => (if t167 = true then (if a0_8 = a0_0 then (if a0_9 = a0_1 then (some false) else ((lectionaryref0_Num.f a0_10 268435456).bind fun t168 => (if t168 = true then ((lectionaryref4_Begin.f a0_3 a0_4 a0_5).bind fun t169 => (if t169 = true then (if a0_6.toList = ([] : List UInt8) then (some ((l0_7.length : Int) == 0)) else (some false)) else (some false))) else (some false)))) else ((lectionaryref0_Num.f a0_10 268435456).bind fun t170 => (if t170 = true then ((lectionaryref4_Begin.f a0_3 a0_4 a0_5).bind fun t171 => (if t171 = true then (if a0_6.toList = ([] : List UInt8) then (some ((l0_7.length : Int) == 0)) else (some false)) else (some false))) else (some false)))) else (some false))) else (if a0_2 = 1 then (if a0_8 = 0 then (if a0_9 = 0 then (if a0_10 = 0 then (if (l0_7.length : Int) > 200 then (lectionaryref4_Op.j0 k true a0_0 a0_1 a0_2 a0_3 a0_4 a0_5 a0_6 l0_7 a0_8 a0_9 a0_10) else (if a0_6.toList = ([] : List UInt8) then (lectionaryref4_Op.j0 k ((l0_7.length : Int) == 0) a0_0 a0_1 a0_2 a0_3 a0_4 a0_5 a0_6 l0_7 a0_8 a0_9 a0_10) else (lectionaryref4_Op.j0 k false a0_0 a0_1 a0_2 a0_3 a0_4 a0_5 a0_6 l0_7 a0_8 a0_9 a0_10))) else (lectionaryref4_Op.j0 k true a0_0 a0_1 a0_2 a0_3 a0_4 a0_5 a0_6 l0_7 a0_8 a0_9 a0_10)) else (lectionaryref4_Op.j0 k true a0_0 a0_1 a0_2 a0_3 a0_4 a0_5 a0_6 l0_7 a0_8 a0_9 a0_10)) else (lectionaryref4_Op.j0 k true a0_0 a0_1 a0_2 a0_3 a0_4 a0_5 a0_6 l0_7 a0_8 a0_9 a0_10)) else (lectionaryref4_Op.j0 k true a0_0 a0_1 a0_2 a0_3 a0_4 a0_5 a0_6 l0_7 a0_8 a0_9 a0_10))) = some r := by rw [if_pos rfl] at H; exact H
    clear H
    have H := H1
    clear H1
    by_cases c4 : a0_2 = 2
    · as_aux_lemma =>
      rw [if_pos c4] at H
      have c4b0 : (a0_2 == 2) = true := beq_iff_eq.mpr c4
      have c4b1 : (a0_2 != 2) = false := bne_eq_false_iff_eq.mpr c4
      clear c4
      replace H := Option.bind_eq_some_iff.mp H
      obtain ⟨t167, A50, H⟩ := H
      replace H : (if t167 = true then (if a0_8 = a0_0 then (if a0_9 = a0_1 then (some false) else ((lectionaryref0_Num.f a0_10 268435456).bind fun t168 => (if t168 = true then ((lectionaryref4_Begin.f a0_3 a0_4 a0_5).bind fun t169 => (if t169 = true then (if a0_6.toList = ([] : List UInt8) then (some ((l0_7.length : Int) == 0)) else (some false)) else (some false))) else (some false)))) else ((lectionaryref0_Num.f a0_10 268435456).bind fun t170 => (if t170 = true then ((lectionaryref4_Begin.f a0_3 a0_4 a0_5).bind fun t171 => (if t171 = true then (if a0_6.toList = ([] : List UInt8) then (some ((l0_7.length : Int) == 0)) else (some false)) else (some false))) else (some false)))) else (some false)) = some r := H
      have A5 := Aside0.mk A50
      clear A50
      by_cases c6 : t167 = true
      · as_aux_lemma =>
        subst c6
        have H1 : (if a0_8 = a0_0 then (if a0_9 = a0_1 then (some false) else ((lectionaryref0_Num.f a0_10 268435456).bind fun t168 => (if t168 = true then ((lectionaryref4_Begin.f a0_3 a0_4 a0_5).bind fun t169 => (if t169 = true then (if a0_6.toList = ([] : List UInt8) then (some ((l0_7.length : Int) == 0)) else (some false)) else (some false))) else (some false)))) else ((lectionaryref0_Num.f a0_10 268435456).bind fun t170 => (if t170 = true then ((lectionaryref4_Begin.f a0_3 a0_4 a0_5).bind fun t171 => (if t171 = true then (if a0_6.toList = ([] : List UInt8) then (some ((l0_7.length : Int) == 0)) else (some false)) else (some false))) else (some false)))) = some r := by rw [if_pos rfl] at H; exact H
        clear H
        have H := H1
        clear H1
        by_cases c7 : a0_8 = a0_0
        · as_aux_lemma =>
          rw [if_pos c7] at H
          have c7b0 : (a0_8 == a0_0) = true := beq_iff_eq.mpr c7
          have c7b1 : (a0_8 != a0_0) = false := bne_eq_false_iff_eq.mpr c7
          clear c7
          by_cases c8 : a0_9 = a0_1
          · rw [if_pos c8] at H
            have c8b0 : (a0_9 == a0_1) = true := beq_iff_eq.mpr c8
            have c8b1 : (a0_9 != a0_1) = false := bne_eq_false_iff_eq.mpr c8
            clear c8
            obtain rfl := Option.some.inj H
            go_enter Tryd.func57, Tryd.ntmps57
            go_wp2_with (first | ((with_reducible refine gate_dst (N := 1) rfl ?_); (try (refine gate_guard (by rfl) ?_; dsimp only)); refine box_event ?hg (N := 1) ?hd (cs := #[.int .i64 a0_0, .int .i64 a0_1, .int .i64 a0_2, .int .i64 a0_3, .int .i64 a0_4, .int .i64 a0_5, .string a0_6, .slice A0_7 l0_7.length c0_7, .int .i64 a0_8, .int .i64 a0_9, .int .i64 a0_10]) (t := 31) ?hr ?_; (case hd => rfl); (case hg => rfl); (case hr => first | (go_simp; done) | (go_simp; rfl)); intro gb165 hg w9 hbox hb; have n0_ := Aside0.mk (below_step (by repeat (first | (with_reducible first | exact HB.out | apply below_alloc | apply pw_below_drewN | apply below_drew1) | exact HB.out)) hb); have n1_ := Aside0.mk (hbox); have n2_ := Aside0.mk ((by rw [hg]; exact (below_size (by repeat (first | (with_reducible first | exact HB.out | apply below_alloc | apply pw_below_drewN | apply below_drew1) | exact HB.out))) : w.heap.size ≤ gb165)); have n3_ := Aside0.mk ((by rw [hg]; exact (below_size (by repeat (first | (with_reducible first | exact HB.out | apply below_alloc | apply pw_below_drewN | apply below_drew1) | exact HB.out))) : w.heap.size ≤ gb165)); clear HB; have HB := n0_; have BK165 := n1_; have GW165 := n2_; have GE165 := n3_; clear n0_ n1_ n2_ n3_; clear hb hbox hg; have hcz10_0 : w9.cell? ⟨gb165, 0, none⟩ = some (.int .i64 a0_0) := bc BK165 0; have hcz10_1 : w9.cell? ⟨gb165, 1, none⟩ = some (.int .i64 a0_1) := bc BK165 1; have hcz10_2 : w9.cell? ⟨gb165, 2, none⟩ = some (.int .i64 a0_2) := bc BK165 2; have hcz10_3 : w9.cell? ⟨gb165, 3, none⟩ = some (.int .i64 a0_3) := bc BK165 3; have hcz10_4 : w9.cell? ⟨gb165, 4, none⟩ = some (.int .i64 a0_4) := bc BK165 4; have hcz10_5 : w9.cell? ⟨gb165, 5, none⟩ = some (.int .i64 a0_5) := bc BK165 5; have hcz10_6 : w9.cell? ⟨gb165, 6, none⟩ = some (.string a0_6) := bc BK165 6; have hcz10_7 : w9.cell? ⟨gb165, 7, none⟩ = some (.slice A0_7 l0_7.length c0_7) := bc BK165 7; have hcz10_8 : w9.cell? ⟨gb165, 8, none⟩ = some (.int .i64 a0_8) := bc BK165 8; have hcz10_9 : w9.cell? ⟨gb165, 9, none⟩ = some (.int .i64 a0_9) := bc BK165 9; have hcz10_10 : w9.cell? ⟨gb165, 10, none⟩ = some (.int .i64 a0_10) := bc BK165 10; have hfz10_0 := bf BK165 0; have hfz10_1 := bf BK165 1; have hfz10_2 := bf BK165 2; have hfz10_3 := bf BK165 3; have hfz10_4 := bf BK165 4; have hfz10_5 := bf BK165 5; have hfz10_6 := bf BK165 6; have hfz10_7 := bf BK165 7; have hfz10_8 := bf BK165 8; have hfz10_9 := bf BK165 9; have hfz10_10 := bf BK165 10) | ((with_reducible refine gate_callee (f := 113) rfl ?_); refine goesL_ (some 10) rfl rfl Tryd.func113 (by kernel_rfl) rfl #[.int .i64 a0_0, .int .i64 a0_1] rfl (by (try simp only [List.map_toArray, List.map_cons, List.map_nil]); first | done | rfl | (simp only [List.length_drop, List.length_take]; rfl)) ?_; (with_reducible refine (lectionaryref4_name.calls a0_0 a0_1 true _ A2.out).mono ?_); rintro e w' ⟨rfl, ⟨nd, rfl⟩⟩; refine ⟨_, rfl, ?_⟩) | ((with_reducible refine gate_callee (f := 113) rfl ?_); refine goesL_ (some 19) rfl rfl Tryd.func113 (by kernel_rfl) rfl #[.int .i64 a0_8, .int .i64 a0_9] rfl (by (try simp only [List.map_toArray, List.map_cons, List.map_nil]); first | done | rfl | (simp only [List.length_drop, List.length_take]; rfl)) ?_; (with_reducible refine (lectionaryref4_name.calls a0_8 a0_9 true _ A5.out).mono ?_); rintro e w' ⟨rfl, ⟨nd, rfl⟩⟩; refine ⟨_, rfl, ?_⟩))
            go_ret
            exact ⟨by first | rfl | (simp [errW_none, errW_some] <;> rfl) | (simp [*, errW_none, errW_some] <;> rfl), by repeat (first | (with_reducible first | exact HB.out | apply below_alloc | apply pw_below_drewN | apply below_drew1 | refine below_set ?_ GE165.out) | exact HB.out)⟩
          rw [if_neg c8] at H
          have c8b0 : (a0_9 == a0_1) = false := beq_eq_false_iff_ne.mpr c8
          have c8b1 : (a0_9 != a0_1) = true := bne_iff_ne.mpr c8
          replace H := Option.bind_eq_some_iff.mp H
          obtain ⟨t168, A110, H⟩ := H
          replace H : (if t168 = true then ((lectionaryref4_Begin.f a0_3 a0_4 a0_5).bind fun t169 => (if t169 = true then (if a0_6.toList = ([] : List UInt8) then (some ((l0_7.length : Int) == 0)) else (some false)) else (some false))) else (some false)) = some r := H
          have A11 := Aside0.mk A110
          clear A110
          by_cases c12 : t168 = true
          · as_aux_lemma =>
            subst c12
            have H1 : ((lectionaryref4_Begin.f a0_3 a0_4 a0_5).bind fun t169 => (if t169 = true then (if a0_6.toList = ([] : List UInt8) then (some ((l0_7.length : Int) == 0)) else (some false)) else (some false))) = some r := by rw [if_pos rfl] at H; exact H
            clear H
            have H := H1
            clear H1
            replace H := Option.bind_eq_some_iff.mp H
            obtain ⟨t169, A130, H⟩ := H
            replace H : (if t169 = true then (if a0_6.toList = ([] : List UInt8) then (some ((l0_7.length : Int) == 0)) else (some false)) else (some false)) = some r := H
            have A13 := Aside0.mk A130
            clear A130
            by_cases c14 : t169 = true
            · as_aux_lemma =>
              subst c14
              have H1 : (if a0_6.toList = ([] : List UInt8) then (some ((l0_7.length : Int) == 0)) else (some false)) = some r := by rw [if_pos rfl] at H; exact H
              clear H
              have H := H1
              clear H1
              by_cases c15 : a0_6.toList = ([] : List UInt8)
              · rw [if_pos c15] at H
                have c15b0 : (a0_6.toList == ([] : List UInt8)) = true := beq_iff_eq.mpr c15
                have c15b1 : (a0_6.toList != ([] : List UInt8)) = false := bne_eq_false_iff_eq.mpr c15
                clear c15
                obtain rfl := Option.some.inj H
                go_enter Tryd.func57, Tryd.ntmps57
                go_wp2_with (first | ((with_reducible refine gate_dst (N := 1) rfl ?_); (try (refine gate_guard (by rfl) ?_; dsimp only)); refine box_event ?hg (N := 1) ?hd (cs := #[.int .i64 a0_0, .int .i64 a0_1, .int .i64 a0_2, .int .i64 a0_3, .int .i64 a0_4, .int .i64 a0_5, .string a0_6, .slice A0_7 l0_7.length c0_7, .int .i64 a0_8, .int .i64 a0_9, .int .i64 a0_10]) (t := 31) ?hr ?_; (case hd => rfl); (case hg => rfl); (case hr => first | (go_simp; done) | (go_simp; rfl)); intro gb165 hg w16 hbox hb; have n0_ := Aside0.mk (below_step (by repeat (first | (with_reducible first | exact HB.out | apply below_alloc | apply pw_below_drewN | apply below_drew1) | exact HB.out)) hb); have n1_ := Aside0.mk (hbox); have n2_ := Aside0.mk ((by rw [hg]; exact (below_size (by repeat (first | (with_reducible first | exact HB.out | apply below_alloc | apply pw_below_drewN | apply below_drew1) | exact HB.out))) : w.heap.size ≤ gb165)); have n3_ := Aside0.mk ((by rw [hg]; exact (below_size (by repeat (first | (with_reducible first | exact HB.out | apply below_alloc | apply pw_below_drewN | apply below_drew1) | exact HB.out))) : w.heap.size ≤ gb165)); clear HB; have HB := n0_; have BK165 := n1_; have GW165 := n2_; have GE165 := n3_; clear n0_ n1_ n2_ n3_; clear hb hbox hg; have hcz17_0 : w16.cell? ⟨gb165, 0, none⟩ = some (.int .i64 a0_0) := bc BK165 0; have hcz17_1 : w16.cell? ⟨gb165, 1, none⟩ = some (.int .i64 a0_1) := bc BK165 1; have hcz17_2 : w16.cell? ⟨gb165, 2, none⟩ = some (.int .i64 a0_2) := bc BK165 2; have hcz17_3 : w16.cell? ⟨gb165, 3, none⟩ = some (.int .i64 a0_3) := bc BK165 3; have hcz17_4 : w16.cell? ⟨gb165, 4, none⟩ = some (.int .i64 a0_4) := bc BK165 4; have hcz17_5 : w16.cell? ⟨gb165, 5, none⟩ = some (.int .i64 a0_5) := bc BK165 5; have hcz17_6 : w16.cell? ⟨gb165, 6, none⟩ = some (.string a0_6) := bc BK165 6; have hcz17_7 : w16.cell? ⟨gb165, 7, none⟩ = some (.slice A0_7 l0_7.length c0_7) := bc BK165 7; have hcz17_8 : w16.cell? ⟨gb165, 8, none⟩ = some (.int .i64 a0_8) := bc BK165 8; have hcz17_9 : w16.cell? ⟨gb165, 9, none⟩ = some (.int .i64 a0_9) := bc BK165 9; have hcz17_10 : w16.cell? ⟨gb165, 10, none⟩ = some (.int .i64 a0_10) := bc BK165 10; have hfz17_0 := bf BK165 0; have hfz17_1 := bf BK165 1; have hfz17_2 := bf BK165 2; have hfz17_3 := bf BK165 3; have hfz17_4 := bf BK165 4; have hfz17_5 := bf BK165 5; have hfz17_6 := bf BK165 6; have hfz17_7 := bf BK165 7; have hfz17_8 := bf BK165 8; have hfz17_9 := bf BK165 9; have hfz17_10 := bf BK165 10) | ((with_reducible refine gate_callee (f := 113) rfl ?_); refine goesL_ (some 10) rfl rfl Tryd.func113 (by kernel_rfl) rfl #[.int .i64 a0_0, .int .i64 a0_1] rfl (by (try simp only [List.map_toArray, List.map_cons, List.map_nil]); first | done | rfl | (simp only [List.length_drop, List.length_take]; rfl)) ?_; (with_reducible refine (lectionaryref4_name.calls a0_0 a0_1 true _ A2.out).mono ?_); rintro e w' ⟨rfl, ⟨nd, rfl⟩⟩; refine ⟨_, rfl, ?_⟩) | ((with_reducible refine gate_callee (f := 113) rfl ?_); refine goesL_ (some 19) rfl rfl Tryd.func113 (by kernel_rfl) rfl #[.int .i64 a0_8, .int .i64 a0_9] rfl (by (try simp only [List.map_toArray, List.map_cons, List.map_nil]); first | done | rfl | (simp only [List.length_drop, List.length_take]; rfl)) ?_; (with_reducible refine (lectionaryref4_name.calls a0_8 a0_9 true _ A5.out).mono ?_); rintro e w' ⟨rfl, ⟨nd, rfl⟩⟩; refine ⟨_, rfl, ?_⟩) | (go_at_call 51; (with_reducible refine (lectionaryref0_Num.calls a0_10 268435456 true _ A11.out).mono ?_); rintro e w' ⟨rfl, ⟨nd, rfl⟩⟩) | (go_at_call 77; (with_reducible refine (lectionaryref4_Begin.calls a0_3 a0_4 a0_5 true _ A13.out).mono ?_); rintro e w18 ⟨rfl, hb⟩; have n0_ := Aside0.mk (blk_below (g := gb165) (o := .cells #[.int .i64 a0_0, .int .i64 a0_1, .int .i64 a0_2, .int .i64 a0_3, .int .i64 a0_4, .int .i64 a0_5, .string a0_6, .slice A0_7 l0_7.length c0_7, .int .i64 a0_8, .int .i64 a0_9, .int .i64 a0_10] 31 (0, 0)) (by (with_reducible repeat (first | refine blk_drewN ?_ _ | refine blk_drew ?_ | refine blk_alloc ?_ _)); exact BK165.out) hb); have n1_ := Aside0.mk (below_step (by repeat (first | (with_reducible first | exact HB.out | apply below_alloc | apply pw_below_drewN | apply below_drew1 | refine below_set ?_ GE165.out) | exact HB.out)) hb); clear BK165; clear HB; have BK165 := n0_; have HB := n1_; clear n0_ n1_; (try clear hb); (try clear hb2); (try clear hk); (try clear hi); have hcz19_0 : w18.cell? ⟨gb165, 0, none⟩ = some (.int .i64 a0_0) := bc BK165 0; have hcz19_1 : w18.cell? ⟨gb165, 1, none⟩ = some (.int .i64 a0_1) := bc BK165 1; have hcz19_2 : w18.cell? ⟨gb165, 2, none⟩ = some (.int .i64 a0_2) := bc BK165 2; have hcz19_3 : w18.cell? ⟨gb165, 3, none⟩ = some (.int .i64 a0_3) := bc BK165 3; have hcz19_4 : w18.cell? ⟨gb165, 4, none⟩ = some (.int .i64 a0_4) := bc BK165 4; have hcz19_5 : w18.cell? ⟨gb165, 5, none⟩ = some (.int .i64 a0_5) := bc BK165 5; have hcz19_6 : w18.cell? ⟨gb165, 6, none⟩ = some (.string a0_6) := bc BK165 6; have hcz19_7 : w18.cell? ⟨gb165, 7, none⟩ = some (.slice A0_7 l0_7.length c0_7) := bc BK165 7; have hcz19_8 : w18.cell? ⟨gb165, 8, none⟩ = some (.int .i64 a0_8) := bc BK165 8; have hcz19_9 : w18.cell? ⟨gb165, 9, none⟩ = some (.int .i64 a0_9) := bc BK165 9; have hcz19_10 : w18.cell? ⟨gb165, 10, none⟩ = some (.int .i64 a0_10) := bc BK165 10; have hfz19_0 := bf BK165 0; have hfz19_1 := bf BK165 1; have hfz19_2 := bf BK165 2; have hfz19_3 := bf BK165 3; have hfz19_4 := bf BK165 4; have hfz19_5 := bf BK165 5; have hfz19_6 := bf BK165 6; have hfz19_7 := bf BK165 7; have hfz19_8 := bf BK165 8; have hfz19_9 := bf BK165 9; have hfz19_10 := bf BK165 10))
                go_ret
                exact ⟨by first | rfl | (simp [errW_none, errW_some] <;> rfl) | (simp [*, errW_none, errW_some] <;> rfl), by repeat (first | (with_reducible first | exact HB.out | apply below_alloc | apply pw_below_drewN | apply below_drew1 | refine below_set ?_ GE165.out) | exact HB.out)⟩
              rw [if_neg c15] at H
              have c15b0 : (a0_6.toList == ([] : List UInt8)) = false := beq_eq_false_iff_ne.mpr c15
              have c15b1 : (a0_6.toList != ([] : List UInt8)) = true := bne_iff_ne.mpr c15
              obtain rfl := Option.some.inj H
              go_enter Tryd.func57, Tryd.ntmps57
              go_wp2_with (first | ((with_reducible refine gate_dst (N := 1) rfl ?_); (try (refine gate_guard (by rfl) ?_; dsimp only)); refine box_event ?hg (N := 1) ?hd (cs := #[.int .i64 a0_0, .int .i64 a0_1, .int .i64 a0_2, .int .i64 a0_3, .int .i64 a0_4, .int .i64 a0_5, .string a0_6, .slice A0_7 l0_7.length c0_7, .int .i64 a0_8, .int .i64 a0_9, .int .i64 a0_10]) (t := 31) ?hr ?_; (case hd => rfl); (case hg => rfl); (case hr => first | (go_simp; done) | (go_simp; rfl)); intro gb165 hg w20 hbox hb; have n0_ := Aside0.mk (below_step (by repeat (first | (with_reducible first | exact HB.out | apply below_alloc | apply pw_below_drewN | apply below_drew1) | exact HB.out)) hb); have n1_ := Aside0.mk (hbox); have n2_ := Aside0.mk ((by rw [hg]; exact (below_size (by repeat (first | (with_reducible first | exact HB.out | apply below_alloc | apply pw_below_drewN | apply below_drew1) | exact HB.out))) : w.heap.size ≤ gb165)); have n3_ := Aside0.mk ((by rw [hg]; exact (below_size (by repeat (first | (with_reducible first | exact HB.out | apply below_alloc | apply pw_below_drewN | apply below_drew1) | exact HB.out))) : w.heap.size ≤ gb165)); clear HB; have HB := n0_; have BK165 := n1_; have GW165 := n2_; have GE165 := n3_; clear n0_ n1_ n2_ n3_; clear hb hbox hg; have hcz21_0 : w20.cell? ⟨gb165, 0, none⟩ = some (.int .i64 a0_0) := bc BK165 0; have hcz21_1 : w20.cell? ⟨gb165, 1, none⟩ = some (.int .i64 a0_1) := bc BK165 1; have hcz21_2 : w20.cell? ⟨gb165, 2, none⟩ = some (.int .i64 a0_2) := bc BK165 2; have hcz21_3 : w20.cell? ⟨gb165, 3, none⟩ = some (.int .i64 a0_3) := bc BK165 3; have hcz21_4 : w20.cell? ⟨gb165, 4, none⟩ = some (.int .i64 a0_4) := bc BK165 4; have hcz21_5 : w20.cell? ⟨gb165, 5, none⟩ = some (.int .i64 a0_5) := bc BK165 5; have hcz21_6 : w20.cell? ⟨gb165, 6, none⟩ = some (.string a0_6) := bc BK165 6; have hcz21_7 : w20.cell? ⟨gb165, 7, none⟩ = some (.slice A0_7 l0_7.length c0_7) := bc BK165 7; have hcz21_8 : w20.cell? ⟨gb165, 8, none⟩ = some (.int .i64 a0_8) := bc BK165 8; have hcz21_9 : w20.cell? ⟨gb165, 9, none⟩ = some (.int .i64 a0_9) := bc BK165 9; have hcz21_10 : w20.cell? ⟨gb165, 10, none⟩ = some (.int .i64 a0_10) := bc BK165 10; have hfz21_0 := bf BK165 0; have hfz21_1 := bf BK165 1; have hfz21_2 := bf BK165 2; have hfz21_3 := bf BK165 3; have hfz21_4 := bf BK165 4; have hfz21_5 := bf BK165 5; have hfz21_6 := bf BK165 6; have hfz21_7 := bf BK165 7; have hfz21_8 := bf BK165 8; have hfz21_9 := bf BK165 9; have hfz21_10 := bf BK165 10) | ((with_reducible refine gate_callee (f := 113) rfl ?_); refine goesL_ (some 10) rfl rfl Tryd.func113 (by kernel_rfl) rfl #[.int .i64 a0_0, .int .i64 a0_1] rfl (by (try simp only [List.map_toArray, List.map_cons, List.map_nil]); first | done | rfl | (simp only [List.length_drop, List.length_take]; rfl)) ?_; (with_reducible refine (lectionaryref4_name.calls a0_0 a0_1 true _ A2.out).mono ?_); rintro e w' ⟨rfl, ⟨nd, rfl⟩⟩; refine ⟨_, rfl, ?_⟩) | ((with_reducible refine gate_callee (f := 113) rfl ?_); refine goesL_ (some 19) rfl rfl Tryd.func113 (by kernel_rfl) rfl #[.int .i64 a0_8, .int .i64 a0_9] rfl (by (try simp only [List.map_toArray, List.map_cons, List.map_nil]); first | done | rfl | (simp only [List.length_drop, List.length_take]; rfl)) ?_; (with_reducible refine (lectionaryref4_name.calls a0_8 a0_9 true _ A5.out).mono ?_); rintro e w' ⟨rfl, ⟨nd, rfl⟩⟩; refine ⟨_, rfl, ?_⟩) | (go_at_call 51; (with_reducible refine (lectionaryref0_Num.calls a0_10 268435456 true _ A11.out).mono ?_); rintro e w' ⟨rfl, ⟨nd, rfl⟩⟩) | (go_at_call 77; (with_reducible refine (lectionaryref4_Begin.calls a0_3 a0_4 a0_5 true _ A13.out).mono ?_); rintro e w22 ⟨rfl, hb⟩; have n0_ := Aside0.mk (blk_below (g := gb165) (o := .cells #[.int .i64 a0_0, .int .i64 a0_1, .int .i64 a0_2, .int .i64 a0_3, .int .i64 a0_4, .int .i64 a0_5, .string a0_6, .slice A0_7 l0_7.length c0_7, .int .i64 a0_8, .int .i64 a0_9, .int .i64 a0_10] 31 (0, 0)) (by (with_reducible repeat (first | refine blk_drewN ?_ _ | refine blk_drew ?_ | refine blk_alloc ?_ _)); exact BK165.out) hb); have n1_ := Aside0.mk (below_step (by repeat (first | (with_reducible first | exact HB.out | apply below_alloc | apply pw_below_drewN | apply below_drew1 | refine below_set ?_ GE165.out) | exact HB.out)) hb); clear BK165; clear HB; have BK165 := n0_; have HB := n1_; clear n0_ n1_; (try clear hb); (try clear hb2); (try clear hk); (try clear hi); have hcz23_0 : w22.cell? ⟨gb165, 0, none⟩ = some (.int .i64 a0_0) := bc BK165 0; have hcz23_1 : w22.cell? ⟨gb165, 1, none⟩ = some (.int .i64 a0_1) := bc BK165 1; have hcz23_2 : w22.cell? ⟨gb165, 2, none⟩ = some (.int .i64 a0_2) := bc BK165 2; have hcz23_3 : w22.cell? ⟨gb165, 3, none⟩ = some (.int .i64 a0_3) := bc BK165 3; have hcz23_4 : w22.cell? ⟨gb165, 4, none⟩ = some (.int .i64 a0_4) := bc BK165 4; have hcz23_5 : w22.cell? ⟨gb165, 5, none⟩ = some (.int .i64 a0_5) := bc BK165 5; have hcz23_6 : w22.cell? ⟨gb165, 6, none⟩ = some (.string a0_6) := bc BK165 6; have hcz23_7 : w22.cell? ⟨gb165, 7, none⟩ = some (.slice A0_7 l0_7.length c0_7) := bc BK165 7; have hcz23_8 : w22.cell? ⟨gb165, 8, none⟩ = some (.int .i64 a0_8) := bc BK165 8; have hcz23_9 : w22.cell? ⟨gb165, 9, none⟩ = some (.int .i64 a0_9) := bc BK165 9; have hcz23_10 : w22.cell? ⟨gb165, 10, none⟩ = some (.int .i64 a0_10) := bc BK165 10; have hfz23_0 := bf BK165 0; have hfz23_1 := bf BK165 1; have hfz23_2 := bf BK165 2; have hfz23_3 := bf BK165 3; have hfz23_4 := bf BK165 4; have hfz23_5 := bf BK165 5; have hfz23_6 := bf BK165 6; have hfz23_7 := bf BK165 7; have hfz23_8 := bf BK165 8; have hfz23_9 := bf BK165 9; have hfz23_10 := bf BK165 10))
              go_ret
              exact ⟨by first | rfl | (simp [errW_none, errW_some] <;> rfl) | (simp [*, errW_none, errW_some] <;> rfl), by repeat (first | (with_reducible first | exact HB.out | apply below_alloc | apply pw_below_drewN | apply below_drew1 | refine below_set ?_ GE165.out) | exact HB.out)⟩
            replace c14 := Bool.eq_false_iff.mpr c14
            subst c14
            have H1 : (some false) = some r := by rw [if_neg (show ¬ (false = true) by decide)] at H; exact H
            clear H
            have H := H1
            clear H1
            obtain rfl := Option.some.inj H
            go_enter Tryd.func57, Tryd.ntmps57
            go_wp2_with (first | ((with_reducible refine gate_dst (N := 1) rfl ?_); (try (refine gate_guard (by rfl) ?_; dsimp only)); refine box_event ?hg (N := 1) ?hd (cs := #[.int .i64 a0_0, .int .i64 a0_1, .int .i64 a0_2, .int .i64 a0_3, .int .i64 a0_4, .int .i64 a0_5, .string a0_6, .slice A0_7 l0_7.length c0_7, .int .i64 a0_8, .int .i64 a0_9, .int .i64 a0_10]) (t := 31) ?hr ?_; (case hd => rfl); (case hg => rfl); (case hr => first | (go_simp; done) | (go_simp; rfl)); intro gb165 hg w24 hbox hb; have n0_ := Aside0.mk (below_step (by repeat (first | (with_reducible first | exact HB.out | apply below_alloc | apply pw_below_drewN | apply below_drew1) | exact HB.out)) hb); have n1_ := Aside0.mk (hbox); have n2_ := Aside0.mk ((by rw [hg]; exact (below_size (by repeat (first | (with_reducible first | exact HB.out | apply below_alloc | apply pw_below_drewN | apply below_drew1) | exact HB.out))) : w.heap.size ≤ gb165)); have n3_ := Aside0.mk ((by rw [hg]; exact (below_size (by repeat (first | (with_reducible first | exact HB.out | apply below_alloc | apply pw_below_drewN | apply below_drew1) | exact HB.out))) : w.heap.size ≤ gb165)); clear HB; have HB := n0_; have BK165 := n1_; have GW165 := n2_; have GE165 := n3_; clear n0_ n1_ n2_ n3_; clear hb hbox hg; have hcz25_0 : w24.cell? ⟨gb165, 0, none⟩ = some (.int .i64 a0_0) := bc BK165 0; have hcz25_1 : w24.cell? ⟨gb165, 1, none⟩ = some (.int .i64 a0_1) := bc BK165 1; have hcz25_2 : w24.cell? ⟨gb165, 2, none⟩ = some (.int .i64 a0_2) := bc BK165 2; have hcz25_3 : w24.cell? ⟨gb165, 3, none⟩ = some (.int .i64 a0_3) := bc BK165 3; have hcz25_4 : w24.cell? ⟨gb165, 4, none⟩ = some (.int .i64 a0_4) := bc BK165 4; have hcz25_5 : w24.cell? ⟨gb165, 5, none⟩ = some (.int .i64 a0_5) := bc BK165 5; have hcz25_6 : w24.cell? ⟨gb165, 6, none⟩ = some (.string a0_6) := bc BK165 6; have hcz25_7 : w24.cell? ⟨gb165, 7, none⟩ = some (.slice A0_7 l0_7.length c0_7) := bc BK165 7; have hcz25_8 : w24.cell? ⟨gb165, 8, none⟩ = some (.int .i64 a0_8) := bc BK165 8; have hcz25_9 : w24.cell? ⟨gb165, 9, none⟩ = some (.int .i64 a0_9) := bc BK165 9; have hcz25_10 : w24.cell? ⟨gb165, 10, none⟩ = some (.int .i64 a0_10) := bc BK165 10; have hfz25_0 := bf BK165 0; have hfz25_1 := bf BK165 1; have hfz25_2 := bf BK165 2; have hfz25_3 := bf BK165 3; have hfz25_4 := bf BK165 4; have hfz25_5 := bf BK165 5; have hfz25_6 := bf BK165 6; have hfz25_7 := bf BK165 7; have hfz25_8 := bf BK165 8; have hfz25_9 := bf BK165 9; have hfz25_10 := bf BK165 10) | ((with_reducible refine gate_callee (f := 113) rfl ?_); refine goesL_ (some 10) rfl rfl Tryd.func113 (by kernel_rfl) rfl #[.int .i64 a0_0, .int .i64 a0_1] rfl (by (try simp only [List.map_toArray, List.map_cons, List.map_nil]); first | done | rfl | (simp only [List.length_drop, List.length_take]; rfl)) ?_; (with_reducible refine (lectionaryref4_name.calls a0_0 a0_1 true _ A2.out).mono ?_); rintro e w' ⟨rfl, ⟨nd, rfl⟩⟩; refine ⟨_, rfl, ?_⟩) | ((with_reducible refine gate_callee (f := 113) rfl ?_); refine goesL_ (some 19) rfl rfl Tryd.func113 (by kernel_rfl) rfl #[.int .i64 a0_8, .int .i64 a0_9] rfl (by (try simp only [List.map_toArray, List.map_cons, List.map_nil]); first | done | rfl | (simp only [List.length_drop, List.length_take]; rfl)) ?_; (with_reducible refine (lectionaryref4_name.calls a0_8 a0_9 true _ A5.out).mono ?_); rintro e w' ⟨rfl, ⟨nd, rfl⟩⟩; refine ⟨_, rfl, ?_⟩) | (go_at_call 51; (with_reducible refine (lectionaryref0_Num.calls a0_10 268435456 true _ A11.out).mono ?_); rintro e w' ⟨rfl, ⟨nd, rfl⟩⟩) | (go_at_call 77; (with_reducible refine (lectionaryref4_Begin.calls a0_3 a0_4 a0_5 false _ A13.out).mono ?_); rintro e w26 ⟨rfl, hb⟩; have n0_ := Aside0.mk (blk_below (g := gb165) (o := .cells #[.int .i64 a0_0, .int .i64 a0_1, .int .i64 a0_2, .int .i64 a0_3, .int .i64 a0_4, .int .i64 a0_5, .string a0_6, .slice A0_7 l0_7.length c0_7, .int .i64 a0_8, .int .i64 a0_9, .int .i64 a0_10] 31 (0, 0)) (by (with_reducible repeat (first | refine blk_drewN ?_ _ | refine blk_drew ?_ | refine blk_alloc ?_ _)); exact BK165.out) hb); have n1_ := Aside0.mk (below_step (by repeat (first | (with_reducible first | exact HB.out | apply below_alloc | apply pw_below_drewN | apply below_drew1 | refine below_set ?_ GE165.out) | exact HB.out)) hb); clear BK165; clear HB; have BK165 := n0_; have HB := n1_; clear n0_ n1_; (try clear hb); (try clear hb2); (try clear hk); (try clear hi)))
            go_ret
            exact ⟨by first | rfl | (simp [errW_none, errW_some] <;> rfl) | (simp [*, errW_none, errW_some] <;> rfl), by repeat (first | (with_reducible first | exact HB.out | apply below_alloc | apply pw_below_drewN | apply below_drew1 | refine below_set ?_ GE165.out) | exact HB.out)⟩
          replace c12 := Bool.eq_false_iff.mpr c12
          subst c12
          have H1 : (some false) = some r := by rw [if_neg (show ¬ (false = true) by decide)] at H; exact H
          clear H
          have H := H1
          clear H1
          obtain rfl := Option.some.inj H
          go_enter Tryd.func57, Tryd.ntmps57
          go_wp2_with (first | ((with_reducible refine gate_dst (N := 1) rfl ?_); (try (refine gate_guard (by rfl) ?_; dsimp only)); refine box_event ?hg (N := 1) ?hd (cs := #[.int .i64 a0_0, .int .i64 a0_1, .int .i64 a0_2, .int .i64 a0_3, .int .i64 a0_4, .int .i64 a0_5, .string a0_6, .slice A0_7 l0_7.length c0_7, .int .i64 a0_8, .int .i64 a0_9, .int .i64 a0_10]) (t := 31) ?hr ?_; (case hd => rfl); (case hg => rfl); (case hr => first | (go_simp; done) | (go_simp; rfl)); intro gb165 hg w27 hbox hb; have n0_ := Aside0.mk (below_step (by repeat (first | (with_reducible first | exact HB.out | apply below_alloc | apply pw_below_drewN | apply below_drew1) | exact HB.out)) hb); have n1_ := Aside0.mk (hbox); have n2_ := Aside0.mk ((by rw [hg]; exact (below_size (by repeat (first | (with_reducible first | exact HB.out | apply below_alloc | apply pw_below_drewN | apply below_drew1) | exact HB.out))) : w.heap.size ≤ gb165)); have n3_ := Aside0.mk ((by rw [hg]; exact (below_size (by repeat (first | (with_reducible first | exact HB.out | apply below_alloc | apply pw_below_drewN | apply below_drew1) | exact HB.out))) : w.heap.size ≤ gb165)); clear HB; have HB := n0_; have BK165 := n1_; have GW165 := n2_; have GE165 := n3_; clear n0_ n1_ n2_ n3_; clear hb hbox hg; have hcz28_0 : w27.cell? ⟨gb165, 0, none⟩ = some (.int .i64 a0_0) := bc BK165 0; have hcz28_1 : w27.cell? ⟨gb165, 1, none⟩ = some (.int .i64 a0_1) := bc BK165 1; have hcz28_2 : w27.cell? ⟨gb165, 2, none⟩ = some (.int .i64 a0_2) := bc BK165 2; have hcz28_3 : w27.cell? ⟨gb165, 3, none⟩ = some (.int .i64 a0_3) := bc BK165 3; have hcz28_4 : w27.cell? ⟨gb165, 4, none⟩ = some (.int .i64 a0_4) := bc BK165 4; have hcz28_5 : w27.cell? ⟨gb165, 5, none⟩ = some (.int .i64 a0_5) := bc BK165 5; have hcz28_6 : w27.cell? ⟨gb165, 6, none⟩ = some (.string a0_6) := bc BK165 6; have hcz28_7 : w27.cell? ⟨gb165, 7, none⟩ = some (.slice A0_7 l0_7.length c0_7) := bc BK165 7; have hcz28_8 : w27.cell? ⟨gb165, 8, none⟩ = some (.int .i64 a0_8) := bc BK165 8; have hcz28_9 : w27.cell? ⟨gb165, 9, none⟩ = some (.int .i64 a0_9) := bc BK165 9; have hcz28_10 : w27.cell? ⟨gb165, 10, none⟩ = some (.int .i64 a0_10) := bc BK165 10; have hfz28_0 := bf BK165 0; have hfz28_1 := bf BK165 1; have hfz28_2 := bf BK165 2; have hfz28_3 := bf BK165 3; have hfz28_4 := bf BK165 4; have hfz28_5 := bf BK165 5; have hfz28_6 := bf BK165 6; have hfz28_7 := bf BK165 7; have hfz28_8 := bf BK165 8; have hfz28_9 := bf BK165 9; have hfz28_10 := bf BK165 10) | ((with_reducible refine gate_callee (f := 113) rfl ?_); refine goesL_ (some 10) rfl rfl Tryd.func113 (by kernel_rfl) rfl #[.int .i64 a0_0, .int .i64 a0_1] rfl (by (try simp only [List.map_toArray, List.map_cons, List.map_nil]); first | done | rfl | (simp only [List.length_drop, List.length_take]; rfl)) ?_; (with_reducible refine (lectionaryref4_name.calls a0_0 a0_1 true _ A2.out).mono ?_); rintro e w' ⟨rfl, ⟨nd, rfl⟩⟩; refine ⟨_, rfl, ?_⟩) | ((with_reducible refine gate_callee (f := 113) rfl ?_); refine goesL_ (some 19) rfl rfl Tryd.func113 (by kernel_rfl) rfl #[.int .i64 a0_8, .int .i64 a0_9] rfl (by (try simp only [List.map_toArray, List.map_cons, List.map_nil]); first | done | rfl | (simp only [List.length_drop, List.length_take]; rfl)) ?_; (with_reducible refine (lectionaryref4_name.calls a0_8 a0_9 true _ A5.out).mono ?_); rintro e w' ⟨rfl, ⟨nd, rfl⟩⟩; refine ⟨_, rfl, ?_⟩) | (go_at_call 51; (with_reducible refine (lectionaryref0_Num.calls a0_10 268435456 false _ A11.out).mono ?_); rintro e w' ⟨rfl, ⟨nd, rfl⟩⟩))
          go_ret
          exact ⟨by first | rfl | (simp [errW_none, errW_some] <;> rfl) | (simp [*, errW_none, errW_some] <;> rfl), by repeat (first | (with_reducible first | exact HB.out | apply below_alloc | apply pw_below_drewN | apply below_drew1 | refine below_set ?_ GE165.out) | exact HB.out)⟩
        rw [if_neg c7] at H
        have c7b0 : (a0_8 == a0_0) = false := beq_eq_false_iff_ne.mpr c7
        have c7b1 : (a0_8 != a0_0) = true := bne_iff_ne.mpr c7
        replace H := Option.bind_eq_some_iff.mp H
        obtain ⟨t170, A290, H⟩ := H
        replace H : (if t170 = true then ((lectionaryref4_Begin.f a0_3 a0_4 a0_5).bind fun t171 => (if t171 = true then (if a0_6.toList = ([] : List UInt8) then (some ((l0_7.length : Int) == 0)) else (some false)) else (some false))) else (some false)) = some r := H
        have A29 := Aside0.mk A290
        clear A290
        by_cases c30 : t170 = true
        · as_aux_lemma =>
          subst c30
          have H1 : ((lectionaryref4_Begin.f a0_3 a0_4 a0_5).bind fun t171 => (if t171 = true then (if a0_6.toList = ([] : List UInt8) then (some ((l0_7.length : Int) == 0)) else (some false)) else (some false))) = some r := by rw [if_pos rfl] at H; exact H
          clear H
          have H := H1
          clear H1
          replace H := Option.bind_eq_some_iff.mp H
          obtain ⟨t171, A310, H⟩ := H
          replace H : (if t171 = true then (if a0_6.toList = ([] : List UInt8) then (some ((l0_7.length : Int) == 0)) else (some false)) else (some false)) = some r := H
          have A31 := Aside0.mk A310
          clear A310
          by_cases c32 : t171 = true
          · as_aux_lemma =>
            subst c32
            have H1 : (if a0_6.toList = ([] : List UInt8) then (some ((l0_7.length : Int) == 0)) else (some false)) = some r := by rw [if_pos rfl] at H; exact H
            clear H
            have H := H1
            clear H1
            by_cases c33 : a0_6.toList = ([] : List UInt8)
            · rw [if_pos c33] at H
              have c33b0 : (a0_6.toList == ([] : List UInt8)) = true := beq_iff_eq.mpr c33
              have c33b1 : (a0_6.toList != ([] : List UInt8)) = false := bne_eq_false_iff_eq.mpr c33
              clear c33
              obtain rfl := Option.some.inj H
              go_enter Tryd.func57, Tryd.ntmps57
              go_wp2_with (first | ((with_reducible refine gate_dst (N := 1) rfl ?_); (try (refine gate_guard (by rfl) ?_; dsimp only)); refine box_event ?hg (N := 1) ?hd (cs := #[.int .i64 a0_0, .int .i64 a0_1, .int .i64 a0_2, .int .i64 a0_3, .int .i64 a0_4, .int .i64 a0_5, .string a0_6, .slice A0_7 l0_7.length c0_7, .int .i64 a0_8, .int .i64 a0_9, .int .i64 a0_10]) (t := 31) ?hr ?_; (case hd => rfl); (case hg => rfl); (case hr => first | (go_simp; done) | (go_simp; rfl)); intro gb165 hg w34 hbox hb; have n0_ := Aside0.mk (below_step (by repeat (first | (with_reducible first | exact HB.out | apply below_alloc | apply pw_below_drewN | apply below_drew1) | exact HB.out)) hb); have n1_ := Aside0.mk (hbox); have n2_ := Aside0.mk ((by rw [hg]; exact (below_size (by repeat (first | (with_reducible first | exact HB.out | apply below_alloc | apply pw_below_drewN | apply below_drew1) | exact HB.out))) : w.heap.size ≤ gb165)); have n3_ := Aside0.mk ((by rw [hg]; exact (below_size (by repeat (first | (with_reducible first | exact HB.out | apply below_alloc | apply pw_below_drewN | apply below_drew1) | exact HB.out))) : w.heap.size ≤ gb165)); clear HB; have HB := n0_; have BK165 := n1_; have GW165 := n2_; have GE165 := n3_; clear n0_ n1_ n2_ n3_; clear hb hbox hg; have hcz35_0 : w34.cell? ⟨gb165, 0, none⟩ = some (.int .i64 a0_0) := bc BK165 0; have hcz35_1 : w34.cell? ⟨gb165, 1, none⟩ = some (.int .i64 a0_1) := bc BK165 1; have hcz35_2 : w34.cell? ⟨gb165, 2, none⟩ = some (.int .i64 a0_2) := bc BK165 2; have hcz35_3 : w34.cell? ⟨gb165, 3, none⟩ = some (.int .i64 a0_3) := bc BK165 3; have hcz35_4 : w34.cell? ⟨gb165, 4, none⟩ = some (.int .i64 a0_4) := bc BK165 4; have hcz35_5 : w34.cell? ⟨gb165, 5, none⟩ = some (.int .i64 a0_5) := bc BK165 5; have hcz35_6 : w34.cell? ⟨gb165, 6, none⟩ = some (.string a0_6) := bc BK165 6; have hcz35_7 : w34.cell? ⟨gb165, 7, none⟩ = some (.slice A0_7 l0_7.length c0_7) := bc BK165 7; have hcz35_8 : w34.cell? ⟨gb165, 8, none⟩ = some (.int .i64 a0_8) := bc BK165 8; have hcz35_9 : w34.cell? ⟨gb165, 9, none⟩ = some (.int .i64 a0_9) := bc BK165 9; have hcz35_10 : w34.cell? ⟨gb165, 10, none⟩ = some (.int .i64 a0_10) := bc BK165 10; have hfz35_0 := bf BK165 0; have hfz35_1 := bf BK165 1; have hfz35_2 := bf BK165 2; have hfz35_3 := bf BK165 3; have hfz35_4 := bf BK165 4; have hfz35_5 := bf BK165 5; have hfz35_6 := bf BK165 6; have hfz35_7 := bf BK165 7; have hfz35_8 := bf BK165 8; have hfz35_9 := bf BK165 9; have hfz35_10 := bf BK165 10) | ((with_reducible refine gate_callee (f := 113) rfl ?_); refine goesL_ (some 10) rfl rfl Tryd.func113 (by kernel_rfl) rfl #[.int .i64 a0_0, .int .i64 a0_1] rfl (by (try simp only [List.map_toArray, List.map_cons, List.map_nil]); first | done | rfl | (simp only [List.length_drop, List.length_take]; rfl)) ?_; (with_reducible refine (lectionaryref4_name.calls a0_0 a0_1 true _ A2.out).mono ?_); rintro e w' ⟨rfl, ⟨nd, rfl⟩⟩; refine ⟨_, rfl, ?_⟩) | ((with_reducible refine gate_callee (f := 113) rfl ?_); refine goesL_ (some 19) rfl rfl Tryd.func113 (by kernel_rfl) rfl #[.int .i64 a0_8, .int .i64 a0_9] rfl (by (try simp only [List.map_toArray, List.map_cons, List.map_nil]); first | done | rfl | (simp only [List.length_drop, List.length_take]; rfl)) ?_; (with_reducible refine (lectionaryref4_name.calls a0_8 a0_9 true _ A5.out).mono ?_); rintro e w' ⟨rfl, ⟨nd, rfl⟩⟩; refine ⟨_, rfl, ?_⟩) | (go_at_call 51; (with_reducible refine (lectionaryref0_Num.calls a0_10 268435456 true _ A29.out).mono ?_); rintro e w' ⟨rfl, ⟨nd, rfl⟩⟩) | (go_at_call 77; (with_reducible refine (lectionaryref4_Begin.calls a0_3 a0_4 a0_5 true _ A31.out).mono ?_); rintro e w36 ⟨rfl, hb⟩; have n0_ := Aside0.mk (blk_below (g := gb165) (o := .cells #[.int .i64 a0_0, .int .i64 a0_1, .int .i64 a0_2, .int .i64 a0_3, .int .i64 a0_4, .int .i64 a0_5, .string a0_6, .slice A0_7 l0_7.length c0_7, .int .i64 a0_8, .int .i64 a0_9, .int .i64 a0_10] 31 (0, 0)) (by (with_reducible repeat (first | refine blk_drewN ?_ _ | refine blk_drew ?_ | refine blk_alloc ?_ _)); exact BK165.out) hb); have n1_ := Aside0.mk (below_step (by repeat (first | (with_reducible first | exact HB.out | apply below_alloc | apply pw_below_drewN | apply below_drew1 | refine below_set ?_ GE165.out) | exact HB.out)) hb); clear BK165; clear HB; have BK165 := n0_; have HB := n1_; clear n0_ n1_; (try clear hb); (try clear hb2); (try clear hk); (try clear hi); have hcz37_0 : w36.cell? ⟨gb165, 0, none⟩ = some (.int .i64 a0_0) := bc BK165 0; have hcz37_1 : w36.cell? ⟨gb165, 1, none⟩ = some (.int .i64 a0_1) := bc BK165 1; have hcz37_2 : w36.cell? ⟨gb165, 2, none⟩ = some (.int .i64 a0_2) := bc BK165 2; have hcz37_3 : w36.cell? ⟨gb165, 3, none⟩ = some (.int .i64 a0_3) := bc BK165 3; have hcz37_4 : w36.cell? ⟨gb165, 4, none⟩ = some (.int .i64 a0_4) := bc BK165 4; have hcz37_5 : w36.cell? ⟨gb165, 5, none⟩ = some (.int .i64 a0_5) := bc BK165 5; have hcz37_6 : w36.cell? ⟨gb165, 6, none⟩ = some (.string a0_6) := bc BK165 6; have hcz37_7 : w36.cell? ⟨gb165, 7, none⟩ = some (.slice A0_7 l0_7.length c0_7) := bc BK165 7; have hcz37_8 : w36.cell? ⟨gb165, 8, none⟩ = some (.int .i64 a0_8) := bc BK165 8; have hcz37_9 : w36.cell? ⟨gb165, 9, none⟩ = some (.int .i64 a0_9) := bc BK165 9; have hcz37_10 : w36.cell? ⟨gb165, 10, none⟩ = some (.int .i64 a0_10) := bc BK165 10; have hfz37_0 := bf BK165 0; have hfz37_1 := bf BK165 1; have hfz37_2 := bf BK165 2; have hfz37_3 := bf BK165 3; have hfz37_4 := bf BK165 4; have hfz37_5 := bf BK165 5; have hfz37_6 := bf BK165 6; have hfz37_7 := bf BK165 7; have hfz37_8 := bf BK165 8; have hfz37_9 := bf BK165 9; have hfz37_10 := bf BK165 10))
              go_ret
              exact ⟨by first | rfl | (simp [errW_none, errW_some] <;> rfl) | (simp [*, errW_none, errW_some] <;> rfl), by repeat (first | (with_reducible first | exact HB.out | apply below_alloc | apply pw_below_drewN | apply below_drew1 | refine below_set ?_ GE165.out) | exact HB.out)⟩
            rw [if_neg c33] at H
            have c33b0 : (a0_6.toList == ([] : List UInt8)) = false := beq_eq_false_iff_ne.mpr c33
            have c33b1 : (a0_6.toList != ([] : List UInt8)) = true := bne_iff_ne.mpr c33
            obtain rfl := Option.some.inj H
            go_enter Tryd.func57, Tryd.ntmps57
            go_wp2_with (first | ((with_reducible refine gate_dst (N := 1) rfl ?_); (try (refine gate_guard (by rfl) ?_; dsimp only)); refine box_event ?hg (N := 1) ?hd (cs := #[.int .i64 a0_0, .int .i64 a0_1, .int .i64 a0_2, .int .i64 a0_3, .int .i64 a0_4, .int .i64 a0_5, .string a0_6, .slice A0_7 l0_7.length c0_7, .int .i64 a0_8, .int .i64 a0_9, .int .i64 a0_10]) (t := 31) ?hr ?_; (case hd => rfl); (case hg => rfl); (case hr => first | (go_simp; done) | (go_simp; rfl)); intro gb165 hg w38 hbox hb; have n0_ := Aside0.mk (below_step (by repeat (first | (with_reducible first | exact HB.out | apply below_alloc | apply pw_below_drewN | apply below_drew1) | exact HB.out)) hb); have n1_ := Aside0.mk (hbox); have n2_ := Aside0.mk ((by rw [hg]; exact (below_size (by repeat (first | (with_reducible first | exact HB.out | apply below_alloc | apply pw_below_drewN | apply below_drew1) | exact HB.out))) : w.heap.size ≤ gb165)); have n3_ := Aside0.mk ((by rw [hg]; exact (below_size (by repeat (first | (with_reducible first | exact HB.out | apply below_alloc | apply pw_below_drewN | apply below_drew1) | exact HB.out))) : w.heap.size ≤ gb165)); clear HB; have HB := n0_; have BK165 := n1_; have GW165 := n2_; have GE165 := n3_; clear n0_ n1_ n2_ n3_; clear hb hbox hg; have hcz39_0 : w38.cell? ⟨gb165, 0, none⟩ = some (.int .i64 a0_0) := bc BK165 0; have hcz39_1 : w38.cell? ⟨gb165, 1, none⟩ = some (.int .i64 a0_1) := bc BK165 1; have hcz39_2 : w38.cell? ⟨gb165, 2, none⟩ = some (.int .i64 a0_2) := bc BK165 2; have hcz39_3 : w38.cell? ⟨gb165, 3, none⟩ = some (.int .i64 a0_3) := bc BK165 3; have hcz39_4 : w38.cell? ⟨gb165, 4, none⟩ = some (.int .i64 a0_4) := bc BK165 4; have hcz39_5 : w38.cell? ⟨gb165, 5, none⟩ = some (.int .i64 a0_5) := bc BK165 5; have hcz39_6 : w38.cell? ⟨gb165, 6, none⟩ = some (.string a0_6) := bc BK165 6; have hcz39_7 : w38.cell? ⟨gb165, 7, none⟩ = some (.slice A0_7 l0_7.length c0_7) := bc BK165 7; have hcz39_8 : w38.cell? ⟨gb165, 8, none⟩ = some (.int .i64 a0_8) := bc BK165 8; have hcz39_9 : w38.cell? ⟨gb165, 9, none⟩ = some (.int .i64 a0_9) := bc BK165 9; have hcz39_10 : w38.cell? ⟨gb165, 10, none⟩ = some (.int .i64 a0_10) := bc BK165 10; have hfz39_0 := bf BK165 0; have hfz39_1 := bf BK165 1; have hfz39_2 := bf BK165 2; have hfz39_3 := bf BK165 3; have hfz39_4 := bf BK165 4; have hfz39_5 := bf BK165 5; have hfz39_6 := bf BK165 6; have hfz39_7 := bf BK165 7; have hfz39_8 := bf BK165 8; have hfz39_9 := bf BK165 9; have hfz39_10 := bf BK165 10) | ((with_reducible refine gate_callee (f := 113) rfl ?_); refine goesL_ (some 10) rfl rfl Tryd.func113 (by kernel_rfl) rfl #[.int .i64 a0_0, .int .i64 a0_1] rfl (by (try simp only [List.map_toArray, List.map_cons, List.map_nil]); first | done | rfl | (simp only [List.length_drop, List.length_take]; rfl)) ?_; (with_reducible refine (lectionaryref4_name.calls a0_0 a0_1 true _ A2.out).mono ?_); rintro e w' ⟨rfl, ⟨nd, rfl⟩⟩; refine ⟨_, rfl, ?_⟩) | ((with_reducible refine gate_callee (f := 113) rfl ?_); refine goesL_ (some 19) rfl rfl Tryd.func113 (by kernel_rfl) rfl #[.int .i64 a0_8, .int .i64 a0_9] rfl (by (try simp only [List.map_toArray, List.map_cons, List.map_nil]); first | done | rfl | (simp only [List.length_drop, List.length_take]; rfl)) ?_; (with_reducible refine (lectionaryref4_name.calls a0_8 a0_9 true _ A5.out).mono ?_); rintro e w' ⟨rfl, ⟨nd, rfl⟩⟩; refine ⟨_, rfl, ?_⟩) | (go_at_call 51; (with_reducible refine (lectionaryref0_Num.calls a0_10 268435456 true _ A29.out).mono ?_); rintro e w' ⟨rfl, ⟨nd, rfl⟩⟩) | (go_at_call 77; (with_reducible refine (lectionaryref4_Begin.calls a0_3 a0_4 a0_5 true _ A31.out).mono ?_); rintro e w40 ⟨rfl, hb⟩; have n0_ := Aside0.mk (blk_below (g := gb165) (o := .cells #[.int .i64 a0_0, .int .i64 a0_1, .int .i64 a0_2, .int .i64 a0_3, .int .i64 a0_4, .int .i64 a0_5, .string a0_6, .slice A0_7 l0_7.length c0_7, .int .i64 a0_8, .int .i64 a0_9, .int .i64 a0_10] 31 (0, 0)) (by (with_reducible repeat (first | refine blk_drewN ?_ _ | refine blk_drew ?_ | refine blk_alloc ?_ _)); exact BK165.out) hb); have n1_ := Aside0.mk (below_step (by repeat (first | (with_reducible first | exact HB.out | apply below_alloc | apply pw_below_drewN | apply below_drew1 | refine below_set ?_ GE165.out) | exact HB.out)) hb); clear BK165; clear HB; have BK165 := n0_; have HB := n1_; clear n0_ n1_; (try clear hb); (try clear hb2); (try clear hk); (try clear hi); have hcz41_0 : w40.cell? ⟨gb165, 0, none⟩ = some (.int .i64 a0_0) := bc BK165 0; have hcz41_1 : w40.cell? ⟨gb165, 1, none⟩ = some (.int .i64 a0_1) := bc BK165 1; have hcz41_2 : w40.cell? ⟨gb165, 2, none⟩ = some (.int .i64 a0_2) := bc BK165 2; have hcz41_3 : w40.cell? ⟨gb165, 3, none⟩ = some (.int .i64 a0_3) := bc BK165 3; have hcz41_4 : w40.cell? ⟨gb165, 4, none⟩ = some (.int .i64 a0_4) := bc BK165 4; have hcz41_5 : w40.cell? ⟨gb165, 5, none⟩ = some (.int .i64 a0_5) := bc BK165 5; have hcz41_6 : w40.cell? ⟨gb165, 6, none⟩ = some (.string a0_6) := bc BK165 6; have hcz41_7 : w40.cell? ⟨gb165, 7, none⟩ = some (.slice A0_7 l0_7.length c0_7) := bc BK165 7; have hcz41_8 : w40.cell? ⟨gb165, 8, none⟩ = some (.int .i64 a0_8) := bc BK165 8; have hcz41_9 : w40.cell? ⟨gb165, 9, none⟩ = some (.int .i64 a0_9) := bc BK165 9; have hcz41_10 : w40.cell? ⟨gb165, 10, none⟩ = some (.int .i64 a0_10) := bc BK165 10; have hfz41_0 := bf BK165 0; have hfz41_1 := bf BK165 1; have hfz41_2 := bf BK165 2; have hfz41_3 := bf BK165 3; have hfz41_4 := bf BK165 4; have hfz41_5 := bf BK165 5; have hfz41_6 := bf BK165 6; have hfz41_7 := bf BK165 7; have hfz41_8 := bf BK165 8; have hfz41_9 := bf BK165 9; have hfz41_10 := bf BK165 10))
            go_ret
            exact ⟨by first | rfl | (simp [errW_none, errW_some] <;> rfl) | (simp [*, errW_none, errW_some] <;> rfl), by repeat (first | (with_reducible first | exact HB.out | apply below_alloc | apply pw_below_drewN | apply below_drew1 | refine below_set ?_ GE165.out) | exact HB.out)⟩
          replace c32 := Bool.eq_false_iff.mpr c32
          subst c32
          have H1 : (some false) = some r := by rw [if_neg (show ¬ (false = true) by decide)] at H; exact H
          clear H
          have H := H1
          clear H1
          obtain rfl := Option.some.inj H
          go_enter Tryd.func57, Tryd.ntmps57
          go_wp2_with (first | ((with_reducible refine gate_dst (N := 1) rfl ?_); (try (refine gate_guard (by rfl) ?_; dsimp only)); refine box_event ?hg (N := 1) ?hd (cs := #[.int .i64 a0_0, .int .i64 a0_1, .int .i64 a0_2, .int .i64 a0_3, .int .i64 a0_4, .int .i64 a0_5, .string a0_6, .slice A0_7 l0_7.length c0_7, .int .i64 a0_8, .int .i64 a0_9, .int .i64 a0_10]) (t := 31) ?hr ?_; (case hd => rfl); (case hg => rfl); (case hr => first | (go_simp; done) | (go_simp; rfl)); intro gb165 hg w42 hbox hb; have n0_ := Aside0.mk (below_step (by repeat (first | (with_reducible first | exact HB.out | apply below_alloc | apply pw_below_drewN | apply below_drew1) | exact HB.out)) hb); have n1_ := Aside0.mk (hbox); have n2_ := Aside0.mk ((by rw [hg]; exact (below_size (by repeat (first | (with_reducible first | exact HB.out | apply below_alloc | apply pw_below_drewN | apply below_drew1) | exact HB.out))) : w.heap.size ≤ gb165)); have n3_ := Aside0.mk ((by rw [hg]; exact (below_size (by repeat (first | (with_reducible first | exact HB.out | apply below_alloc | apply pw_below_drewN | apply below_drew1) | exact HB.out))) : w.heap.size ≤ gb165)); clear HB; have HB := n0_; have BK165 := n1_; have GW165 := n2_; have GE165 := n3_; clear n0_ n1_ n2_ n3_; clear hb hbox hg; have hcz43_0 : w42.cell? ⟨gb165, 0, none⟩ = some (.int .i64 a0_0) := bc BK165 0; have hcz43_1 : w42.cell? ⟨gb165, 1, none⟩ = some (.int .i64 a0_1) := bc BK165 1; have hcz43_2 : w42.cell? ⟨gb165, 2, none⟩ = some (.int .i64 a0_2) := bc BK165 2; have hcz43_3 : w42.cell? ⟨gb165, 3, none⟩ = some (.int .i64 a0_3) := bc BK165 3; have hcz43_4 : w42.cell? ⟨gb165, 4, none⟩ = some (.int .i64 a0_4) := bc BK165 4; have hcz43_5 : w42.cell? ⟨gb165, 5, none⟩ = some (.int .i64 a0_5) := bc BK165 5; have hcz43_6 : w42.cell? ⟨gb165, 6, none⟩ = some (.string a0_6) := bc BK165 6; have hcz43_7 : w42.cell? ⟨gb165, 7, none⟩ = some (.slice A0_7 l0_7.length c0_7) := bc BK165 7; have hcz43_8 : w42.cell? ⟨gb165, 8, none⟩ = some (.int .i64 a0_8) := bc BK165 8; have hcz43_9 : w42.cell? ⟨gb165, 9, none⟩ = some (.int .i64 a0_9) := bc BK165 9; have hcz43_10 : w42.cell? ⟨gb165, 10, none⟩ = some (.int .i64 a0_10) := bc BK165 10; have hfz43_0 := bf BK165 0; have hfz43_1 := bf BK165 1; have hfz43_2 := bf BK165 2; have hfz43_3 := bf BK165 3; have hfz43_4 := bf BK165 4; have hfz43_5 := bf BK165 5; have hfz43_6 := bf BK165 6; have hfz43_7 := bf BK165 7; have hfz43_8 := bf BK165 8; have hfz43_9 := bf BK165 9; have hfz43_10 := bf BK165 10) | ((with_reducible refine gate_callee (f := 113) rfl ?_); refine goesL_ (some 10) rfl rfl Tryd.func113 (by kernel_rfl) rfl #[.int .i64 a0_0, .int .i64 a0_1] rfl (by (try simp only [List.map_toArray, List.map_cons, List.map_nil]); first | done | rfl | (simp only [List.length_drop, List.length_take]; rfl)) ?_; (with_reducible refine (lectionaryref4_name.calls a0_0 a0_1 true _ A2.out).mono ?_); rintro e w' ⟨rfl, ⟨nd, rfl⟩⟩; refine ⟨_, rfl, ?_⟩) | ((with_reducible refine gate_callee (f := 113) rfl ?_); refine goesL_ (some 19) rfl rfl Tryd.func113 (by kernel_rfl) rfl #[.int .i64 a0_8, .int .i64 a0_9] rfl (by (try simp only [List.map_toArray, List.map_cons, List.map_nil]); first | done | rfl | (simp only [List.length_drop, List.length_take]; rfl)) ?_; (with_reducible refine (lectionaryref4_name.calls a0_8 a0_9 true _ A5.out).mono ?_); rintro e w' ⟨rfl, ⟨nd, rfl⟩⟩; refine ⟨_, rfl, ?_⟩) | (go_at_call 51; (with_reducible refine (lectionaryref0_Num.calls a0_10 268435456 true _ A29.out).mono ?_); rintro e w' ⟨rfl, ⟨nd, rfl⟩⟩) | (go_at_call 77; (with_reducible refine (lectionaryref4_Begin.calls a0_3 a0_4 a0_5 false _ A31.out).mono ?_); rintro e w44 ⟨rfl, hb⟩; have n0_ := Aside0.mk (blk_below (g := gb165) (o := .cells #[.int .i64 a0_0, .int .i64 a0_1, .int .i64 a0_2, .int .i64 a0_3, .int .i64 a0_4, .int .i64 a0_5, .string a0_6, .slice A0_7 l0_7.length c0_7, .int .i64 a0_8, .int .i64 a0_9, .int .i64 a0_10] 31 (0, 0)) (by (with_reducible repeat (first | refine blk_drewN ?_ _ | refine blk_drew ?_ | refine blk_alloc ?_ _)); exact BK165.out) hb); have n1_ := Aside0.mk (below_step (by repeat (first | (with_reducible first | exact HB.out | apply below_alloc | apply pw_below_drewN | apply below_drew1 | refine below_set ?_ GE165.out) | exact HB.out)) hb); clear BK165; clear HB; have BK165 := n0_; have HB := n1_; clear n0_ n1_; (try clear hb); (try clear hb2); (try clear hk); (try clear hi)))
          go_ret
          exact ⟨by first | rfl | (simp [errW_none, errW_some] <;> rfl) | (simp [*, errW_none, errW_some] <;> rfl), by repeat (first | (with_reducible first | exact HB.out | apply below_alloc | apply pw_below_drewN | apply below_drew1 | refine below_set ?_ GE165.out) | exact HB.out)⟩
        replace c30 := Bool.eq_false_iff.mpr c30
        subst c30
        have H1 : (some false) = some r := by rw [if_neg (show ¬ (false = true) by decide)] at H; exact H
        clear H
        have H := H1
        clear H1
        obtain rfl := Option.some.inj H
        go_enter Tryd.func57, Tryd.ntmps57
        go_wp2_with (first | ((with_reducible refine gate_dst (N := 1) rfl ?_); (try (refine gate_guard (by rfl) ?_; dsimp only)); refine box_event ?hg (N := 1) ?hd (cs := #[.int .i64 a0_0, .int .i64 a0_1, .int .i64 a0_2, .int .i64 a0_3, .int .i64 a0_4, .int .i64 a0_5, .string a0_6, .slice A0_7 l0_7.length c0_7, .int .i64 a0_8, .int .i64 a0_9, .int .i64 a0_10]) (t := 31) ?hr ?_; (case hd => rfl); (case hg => rfl); (case hr => first | (go_simp; done) | (go_simp; rfl)); intro gb165 hg w45 hbox hb; have n0_ := Aside0.mk (below_step (by repeat (first | (with_reducible first | exact HB.out | apply below_alloc | apply pw_below_drewN | apply below_drew1) | exact HB.out)) hb); have n1_ := Aside0.mk (hbox); have n2_ := Aside0.mk ((by rw [hg]; exact (below_size (by repeat (first | (with_reducible first | exact HB.out | apply below_alloc | apply pw_below_drewN | apply below_drew1) | exact HB.out))) : w.heap.size ≤ gb165)); have n3_ := Aside0.mk ((by rw [hg]; exact (below_size (by repeat (first | (with_reducible first | exact HB.out | apply below_alloc | apply pw_below_drewN | apply below_drew1) | exact HB.out))) : w.heap.size ≤ gb165)); clear HB; have HB := n0_; have BK165 := n1_; have GW165 := n2_; have GE165 := n3_; clear n0_ n1_ n2_ n3_; clear hb hbox hg; have hcz46_0 : w45.cell? ⟨gb165, 0, none⟩ = some (.int .i64 a0_0) := bc BK165 0; have hcz46_1 : w45.cell? ⟨gb165, 1, none⟩ = some (.int .i64 a0_1) := bc BK165 1; have hcz46_2 : w45.cell? ⟨gb165, 2, none⟩ = some (.int .i64 a0_2) := bc BK165 2; have hcz46_3 : w45.cell? ⟨gb165, 3, none⟩ = some (.int .i64 a0_3) := bc BK165 3; have hcz46_4 : w45.cell? ⟨gb165, 4, none⟩ = some (.int .i64 a0_4) := bc BK165 4; have hcz46_5 : w45.cell? ⟨gb165, 5, none⟩ = some (.int .i64 a0_5) := bc BK165 5; have hcz46_6 : w45.cell? ⟨gb165, 6, none⟩ = some (.string a0_6) := bc BK165 6; have hcz46_7 : w45.cell? ⟨gb165, 7, none⟩ = some (.slice A0_7 l0_7.length c0_7) := bc BK165 7; have hcz46_8 : w45.cell? ⟨gb165, 8, none⟩ = some (.int .i64 a0_8) := bc BK165 8; have hcz46_9 : w45.cell? ⟨gb165, 9, none⟩ = some (.int .i64 a0_9) := bc BK165 9; have hcz46_10 : w45.cell? ⟨gb165, 10, none⟩ = some (.int .i64 a0_10) := bc BK165 10; have hfz46_0 := bf BK165 0; have hfz46_1 := bf BK165 1; have hfz46_2 := bf BK165 2; have hfz46_3 := bf BK165 3; have hfz46_4 := bf BK165 4; have hfz46_5 := bf BK165 5; have hfz46_6 := bf BK165 6; have hfz46_7 := bf BK165 7; have hfz46_8 := bf BK165 8; have hfz46_9 := bf BK165 9; have hfz46_10 := bf BK165 10) | ((with_reducible refine gate_callee (f := 113) rfl ?_); refine goesL_ (some 10) rfl rfl Tryd.func113 (by kernel_rfl) rfl #[.int .i64 a0_0, .int .i64 a0_1] rfl (by (try simp only [List.map_toArray, List.map_cons, List.map_nil]); first | done | rfl | (simp only [List.length_drop, List.length_take]; rfl)) ?_; (with_reducible refine (lectionaryref4_name.calls a0_0 a0_1 true _ A2.out).mono ?_); rintro e w' ⟨rfl, ⟨nd, rfl⟩⟩; refine ⟨_, rfl, ?_⟩) | ((with_reducible refine gate_callee (f := 113) rfl ?_); refine goesL_ (some 19) rfl rfl Tryd.func113 (by kernel_rfl) rfl #[.int .i64 a0_8, .int .i64 a0_9] rfl (by (try simp only [List.map_toArray, List.map_cons, List.map_nil]); first | done | rfl | (simp only [List.length_drop, List.length_take]; rfl)) ?_; (with_reducible refine (lectionaryref4_name.calls a0_8 a0_9 true _ A5.out).mono ?_); rintro e w' ⟨rfl, ⟨nd, rfl⟩⟩; refine ⟨_, rfl, ?_⟩) | (go_at_call 51; (with_reducible refine (lectionaryref0_Num.calls a0_10 268435456 false _ A29.out).mono ?_); rintro e w' ⟨rfl, ⟨nd, rfl⟩⟩))
        go_ret
        exact ⟨by first | rfl | (simp [errW_none, errW_some] <;> rfl) | (simp [*, errW_none, errW_some] <;> rfl), by repeat (first | (with_reducible first | exact HB.out | apply below_alloc | apply pw_below_drewN | apply below_drew1 | refine below_set ?_ GE165.out) | exact HB.out)⟩
      replace c6 := Bool.eq_false_iff.mpr c6
      subst c6
      have H1 : (some false) = some r := by rw [if_neg (show ¬ (false = true) by decide)] at H; exact H
      clear H
      have H := H1
      clear H1
      obtain rfl := Option.some.inj H
      go_enter Tryd.func57, Tryd.ntmps57
      go_wp2_with (first | ((with_reducible refine gate_dst (N := 1) rfl ?_); (try (refine gate_guard (by rfl) ?_; dsimp only)); refine box_event ?hg (N := 1) ?hd (cs := #[.int .i64 a0_0, .int .i64 a0_1, .int .i64 a0_2, .int .i64 a0_3, .int .i64 a0_4, .int .i64 a0_5, .string a0_6, .slice A0_7 l0_7.length c0_7, .int .i64 a0_8, .int .i64 a0_9, .int .i64 a0_10]) (t := 31) ?hr ?_; (case hd => rfl); (case hg => rfl); (case hr => first | (go_simp; done) | (go_simp; rfl)); intro gb165 hg w47 hbox hb; have n0_ := Aside0.mk (below_step (by repeat (first | (with_reducible first | exact HB.out | apply below_alloc | apply pw_below_drewN | apply below_drew1) | exact HB.out)) hb); have n1_ := Aside0.mk (hbox); have n2_ := Aside0.mk ((by rw [hg]; exact (below_size (by repeat (first | (with_reducible first | exact HB.out | apply below_alloc | apply pw_below_drewN | apply below_drew1) | exact HB.out))) : w.heap.size ≤ gb165)); have n3_ := Aside0.mk ((by rw [hg]; exact (below_size (by repeat (first | (with_reducible first | exact HB.out | apply below_alloc | apply pw_below_drewN | apply below_drew1) | exact HB.out))) : w.heap.size ≤ gb165)); clear HB; have HB := n0_; have BK165 := n1_; have GW165 := n2_; have GE165 := n3_; clear n0_ n1_ n2_ n3_; clear hb hbox hg; have hcz48_0 : w47.cell? ⟨gb165, 0, none⟩ = some (.int .i64 a0_0) := bc BK165 0; have hcz48_1 : w47.cell? ⟨gb165, 1, none⟩ = some (.int .i64 a0_1) := bc BK165 1; have hcz48_2 : w47.cell? ⟨gb165, 2, none⟩ = some (.int .i64 a0_2) := bc BK165 2; have hcz48_3 : w47.cell? ⟨gb165, 3, none⟩ = some (.int .i64 a0_3) := bc BK165 3; have hcz48_4 : w47.cell? ⟨gb165, 4, none⟩ = some (.int .i64 a0_4) := bc BK165 4; have hcz48_5 : w47.cell? ⟨gb165, 5, none⟩ = some (.int .i64 a0_5) := bc BK165 5; have hcz48_6 : w47.cell? ⟨gb165, 6, none⟩ = some (.string a0_6) := bc BK165 6; have hcz48_7 : w47.cell? ⟨gb165, 7, none⟩ = some (.slice A0_7 l0_7.length c0_7) := bc BK165 7; have hcz48_8 : w47.cell? ⟨gb165, 8, none⟩ = some (.int .i64 a0_8) := bc BK165 8; have hcz48_9 : w47.cell? ⟨gb165, 9, none⟩ = some (.int .i64 a0_9) := bc BK165 9; have hcz48_10 : w47.cell? ⟨gb165, 10, none⟩ = some (.int .i64 a0_10) := bc BK165 10; have hfz48_0 := bf BK165 0; have hfz48_1 := bf BK165 1; have hfz48_2 := bf BK165 2; have hfz48_3 := bf BK165 3; have hfz48_4 := bf BK165 4; have hfz48_5 := bf BK165 5; have hfz48_6 := bf BK165 6; have hfz48_7 := bf BK165 7; have hfz48_8 := bf BK165 8; have hfz48_9 := bf BK165 9; have hfz48_10 := bf BK165 10) | ((with_reducible refine gate_callee (f := 113) rfl ?_); refine goesL_ (some 10) rfl rfl Tryd.func113 (by kernel_rfl) rfl #[.int .i64 a0_0, .int .i64 a0_1] rfl (by (try simp only [List.map_toArray, List.map_cons, List.map_nil]); first | done | rfl | (simp only [List.length_drop, List.length_take]; rfl)) ?_; (with_reducible refine (lectionaryref4_name.calls a0_0 a0_1 true _ A2.out).mono ?_); rintro e w' ⟨rfl, ⟨nd, rfl⟩⟩; refine ⟨_, rfl, ?_⟩) | ((with_reducible refine gate_callee (f := 113) rfl ?_); refine goesL_ (some 19) rfl rfl Tryd.func113 (by kernel_rfl) rfl #[.int .i64 a0_8, .int .i64 a0_9] rfl (by (try simp only [List.map_toArray, List.map_cons, List.map_nil]); first | done | rfl | (simp only [List.length_drop, List.length_take]; rfl)) ?_; (with_reducible refine (lectionaryref4_name.calls a0_8 a0_9 false _ A5.out).mono ?_); rintro e w' ⟨rfl, ⟨nd, rfl⟩⟩; refine ⟨_, rfl, ?_⟩))
      go_ret
      exact ⟨by first | rfl | (simp [errW_none, errW_some] <;> rfl) | (simp [*, errW_none, errW_some] <;> rfl), by repeat (first | (with_reducible first | exact HB.out | apply below_alloc | apply pw_below_drewN | apply below_drew1 | refine below_set ?_ GE165.out) | exact HB.out)⟩
    rw [if_neg c4] at H
    have c4b0 : (a0_2 == 2) = false := beq_eq_false_iff_ne.mpr c4
    have c4b1 : (a0_2 != 2) = true := bne_iff_ne.mpr c4
    have HC49 := Aside0.mk H
    clear H
    go_enter Tryd.func57, Tryd.ntmps57
    go_upto_region 5 with (first | ((with_reducible refine gate_dst (N := 1) rfl ?_); (try (refine gate_guard (by rfl) ?_; dsimp only)); refine box_event ?hg (N := 1) ?hd (cs := #[.int .i64 a0_0, .int .i64 a0_1, .int .i64 a0_2, .int .i64 a0_3, .int .i64 a0_4, .int .i64 a0_5, .string a0_6, .slice A0_7 l0_7.length c0_7, .int .i64 a0_8, .int .i64 a0_9, .int .i64 a0_10]) (t := 31) ?hr ?_; (case hd => rfl); (case hg => rfl); (case hr => first | (go_simp; done) | (go_simp; rfl)); intro gb165 hg w50 hbox hb; have n0_ := Aside0.mk (below_step (by repeat (first | (with_reducible first | exact HB.out | apply below_alloc | apply pw_below_drewN | apply below_drew1) | exact HB.out)) hb); have n1_ := Aside0.mk (hbox); have n2_ := Aside0.mk ((by rw [hg]; exact (below_size (by repeat (first | (with_reducible first | exact HB.out | apply below_alloc | apply pw_below_drewN | apply below_drew1) | exact HB.out))) : w.heap.size ≤ gb165)); have n3_ := Aside0.mk ((by rw [hg]; exact (below_size (by repeat (first | (with_reducible first | exact HB.out | apply below_alloc | apply pw_below_drewN | apply below_drew1) | exact HB.out))) : w.heap.size ≤ gb165)); clear HB; have HB := n0_; have BK165 := n1_; have GW165 := n2_; have GE165 := n3_; clear n0_ n1_ n2_ n3_; clear hb hbox hg; have hcz51_0 : w50.cell? ⟨gb165, 0, none⟩ = some (.int .i64 a0_0) := bc BK165 0; have hcz51_1 : w50.cell? ⟨gb165, 1, none⟩ = some (.int .i64 a0_1) := bc BK165 1; have hcz51_2 : w50.cell? ⟨gb165, 2, none⟩ = some (.int .i64 a0_2) := bc BK165 2; have hcz51_3 : w50.cell? ⟨gb165, 3, none⟩ = some (.int .i64 a0_3) := bc BK165 3; have hcz51_4 : w50.cell? ⟨gb165, 4, none⟩ = some (.int .i64 a0_4) := bc BK165 4; have hcz51_5 : w50.cell? ⟨gb165, 5, none⟩ = some (.int .i64 a0_5) := bc BK165 5; have hcz51_6 : w50.cell? ⟨gb165, 6, none⟩ = some (.string a0_6) := bc BK165 6; have hcz51_7 : w50.cell? ⟨gb165, 7, none⟩ = some (.slice A0_7 l0_7.length c0_7) := bc BK165 7; have hcz51_8 : w50.cell? ⟨gb165, 8, none⟩ = some (.int .i64 a0_8) := bc BK165 8; have hcz51_9 : w50.cell? ⟨gb165, 9, none⟩ = some (.int .i64 a0_9) := bc BK165 9; have hcz51_10 : w50.cell? ⟨gb165, 10, none⟩ = some (.int .i64 a0_10) := bc BK165 10; have hfz51_0 := bf BK165 0; have hfz51_1 := bf BK165 1; have hfz51_2 := bf BK165 2; have hfz51_3 := bf BK165 3; have hfz51_4 := bf BK165 4; have hfz51_5 := bf BK165 5; have hfz51_6 := bf BK165 6; have hfz51_7 := bf BK165 7; have hfz51_8 := bf BK165 8; have hfz51_9 := bf BK165 9; have hfz51_10 := bf BK165 10) | ((with_reducible refine gate_callee (f := 113) rfl ?_); refine goesL_ (some 10) rfl rfl Tryd.func113 (by kernel_rfl) rfl #[.int .i64 a0_0, .int .i64 a0_1] rfl (by (try simp only [List.map_toArray, List.map_cons, List.map_nil]); first | done | rfl | (simp only [List.length_drop, List.length_take]; rfl)) ?_; (with_reducible refine (lectionaryref4_name.calls a0_0 a0_1 true _ A2.out).mono ?_); rintro e w' ⟨rfl, ⟨nd, rfl⟩⟩; refine ⟨_, rfl, ?_⟩))
    (try simp only [Act.put, List.setIfInBounds_toArray, List.set_cons_zero, List.set_cons_succ])
    go_cut [89] (fun v89 wc => ∃ (kq : Nat) (x89_48 : Bool), v89 = .bool x89_48 ∧ Aside0 (lectionaryref4_Op.j0 kq x89_48 a0_0 a0_1 a0_2 a0_3 a0_4 a0_5 a0_6 l0_7 a0_8 a0_9 a0_10 = some r) ∧ Aside0 (kq ≤ k) ∧ Aside0 (wc.heap[gb165]? = some (.cells #[.int .i64 a0_0, .int .i64 a0_1, .int .i64 a0_2, .int .i64 a0_3, .int .i64 a0_4, .int .i64 a0_5, .string a0_6, (.slice A0_7 l0_7.length c0_7), .int .i64 a0_8, .int .i64 a0_9, .int .i64 a0_10] 31 (0, 0))) ∧ Aside0 (Below w.heap.size w wc))
    case first =>
      have H := HC49.out
      clear HC49
      by_cases c52 : a0_2 = 1
      · as_aux_lemma =>
        rw [if_pos c52] at H
        have c52b0 : (a0_2 == 1) = true := beq_iff_eq.mpr c52
        have c52b1 : (a0_2 != 1) = false := bne_eq_false_iff_eq.mpr c52
        clear c52
        (first | rw [c52b0] | (simp only [i64_w, i32_w]; rw [c52b0]) | skip)
        by_cases c53 : a0_8 = 0
        · as_aux_lemma =>
          rw [if_pos c53] at H
          have c53b0 : (a0_8 == 0) = true := beq_iff_eq.mpr c53
          have c53b1 : (a0_8 != 0) = false := bne_eq_false_iff_eq.mpr c53
          clear c53
          by_cases c54 : a0_9 = 0
          · as_aux_lemma =>
            rw [if_pos c54] at H
            have c54b0 : (a0_9 == 0) = true := beq_iff_eq.mpr c54
            have c54b1 : (a0_9 != 0) = false := bne_eq_false_iff_eq.mpr c54
            clear c54
            by_cases c55 : a0_10 = 0
            · as_aux_lemma =>
              rw [if_pos c55] at H
              have c55b0 : (a0_10 == 0) = true := beq_iff_eq.mpr c55
              have c55b1 : (a0_10 != 0) = false := bne_eq_false_iff_eq.mpr c55
              clear c55
              by_cases c56 : (l0_7.length : Int) > 200
              · as_aux_lemma =>
                rw [if_pos c56] at H
                have c56b0 : decide (200 < (l0_7.length : Int)) = true := decide_eq_true c56
                have c56b1 : decide (200 < l0_7.length) = true := decide_eq_true (by omega)
                clear c56
                have H' := Aside0.mk H
                clear H
                have hcz57_0 : w50.cell? ⟨gb165, 0, none⟩ = some (.int .i64 a0_0) := bc BK165 0
                have hcz57_1 : w50.cell? ⟨gb165, 1, none⟩ = some (.int .i64 a0_1) := bc BK165 1
                have hcz57_2 : w50.cell? ⟨gb165, 2, none⟩ = some (.int .i64 a0_2) := bc BK165 2
                have hcz57_3 : w50.cell? ⟨gb165, 3, none⟩ = some (.int .i64 a0_3) := bc BK165 3
                have hcz57_4 : w50.cell? ⟨gb165, 4, none⟩ = some (.int .i64 a0_4) := bc BK165 4
                have hcz57_5 : w50.cell? ⟨gb165, 5, none⟩ = some (.int .i64 a0_5) := bc BK165 5
                have hcz57_6 : w50.cell? ⟨gb165, 6, none⟩ = some (.string a0_6) := bc BK165 6
                have hcz57_7 : w50.cell? ⟨gb165, 7, none⟩ = some (.slice A0_7 l0_7.length c0_7) := bc BK165 7
                have hcz57_8 : w50.cell? ⟨gb165, 8, none⟩ = some (.int .i64 a0_8) := bc BK165 8
                have hcz57_9 : w50.cell? ⟨gb165, 9, none⟩ = some (.int .i64 a0_9) := bc BK165 9
                have hcz57_10 : w50.cell? ⟨gb165, 10, none⟩ = some (.int .i64 a0_10) := bc BK165 10
                have hfz57_0 := bf BK165 0
                have hfz57_1 := bf BK165 1
                have hfz57_2 := bf BK165 2
                have hfz57_3 := bf BK165 3
                have hfz57_4 := bf BK165 4
                have hfz57_5 := bf BK165 5
                have hfz57_6 := bf BK165 6
                have hfz57_7 := bf BK165 7
                have hfz57_8 := bf BK165 8
                have hfz57_9 := bf BK165 9
                have hfz57_10 := bf BK165 10
                go_wp2
                go_meet
                case rel => exact ⟨_, (true), (by first | rfl | (simp; done) | (simp [*]; done)), H', ⟨by first | omega | exact Nat.le_refl _⟩, ⟨by (with_reducible repeat (first | refine blk_drewN ?_ _ | refine blk_drew ?_ | refine blk_alloc ?_ _)); exact BK165.out⟩, ⟨by repeat (first | (with_reducible first | exact HB.out | apply below_alloc | apply pw_below_drewN | apply below_drew1 | refine below_set ?_ GE165.out) | exact HB.out)⟩⟩
              rw [if_neg c56] at H
              have c56b0 : decide (200 < (l0_7.length : Int)) = false := decide_eq_false c56
              have c56b1 : decide (200 < l0_7.length) = false := decide_eq_false (by omega)
              clear c56
              by_cases c58 : a0_6.toList = ([] : List UInt8)
              · as_aux_lemma =>
                rw [if_pos c58] at H
                have c58b0 : (a0_6.toList == ([] : List UInt8)) = true := beq_iff_eq.mpr c58
                have c58b1 : (a0_6.toList != ([] : List UInt8)) = false := bne_eq_false_iff_eq.mpr c58
                clear c58
                have H' := Aside0.mk H
                clear H
                have hcz59_0 : w50.cell? ⟨gb165, 0, none⟩ = some (.int .i64 a0_0) := bc BK165 0
                have hcz59_1 : w50.cell? ⟨gb165, 1, none⟩ = some (.int .i64 a0_1) := bc BK165 1
                have hcz59_2 : w50.cell? ⟨gb165, 2, none⟩ = some (.int .i64 a0_2) := bc BK165 2
                have hcz59_3 : w50.cell? ⟨gb165, 3, none⟩ = some (.int .i64 a0_3) := bc BK165 3
                have hcz59_4 : w50.cell? ⟨gb165, 4, none⟩ = some (.int .i64 a0_4) := bc BK165 4
                have hcz59_5 : w50.cell? ⟨gb165, 5, none⟩ = some (.int .i64 a0_5) := bc BK165 5
                have hcz59_6 : w50.cell? ⟨gb165, 6, none⟩ = some (.string a0_6) := bc BK165 6
                have hcz59_7 : w50.cell? ⟨gb165, 7, none⟩ = some (.slice A0_7 l0_7.length c0_7) := bc BK165 7
                have hcz59_8 : w50.cell? ⟨gb165, 8, none⟩ = some (.int .i64 a0_8) := bc BK165 8
                have hcz59_9 : w50.cell? ⟨gb165, 9, none⟩ = some (.int .i64 a0_9) := bc BK165 9
                have hcz59_10 : w50.cell? ⟨gb165, 10, none⟩ = some (.int .i64 a0_10) := bc BK165 10
                have hfz59_0 := bf BK165 0
                have hfz59_1 := bf BK165 1
                have hfz59_2 := bf BK165 2
                have hfz59_3 := bf BK165 3
                have hfz59_4 := bf BK165 4
                have hfz59_5 := bf BK165 5
                have hfz59_6 := bf BK165 6
                have hfz59_7 := bf BK165 7
                have hfz59_8 := bf BK165 8
                have hfz59_9 := bf BK165 9
                have hfz59_10 := bf BK165 10
                go_wp2
                go_meet
                case rel => exact ⟨_, (((l0_7.length : Int) == 0)), (by first | rfl | (simp; done) | (simp [*]; done)), H', ⟨by first | omega | exact Nat.le_refl _⟩, ⟨by (with_reducible repeat (first | refine blk_drewN ?_ _ | refine blk_drew ?_ | refine blk_alloc ?_ _)); exact BK165.out⟩, ⟨by repeat (first | (with_reducible first | exact HB.out | apply below_alloc | apply pw_below_drewN | apply below_drew1 | refine below_set ?_ GE165.out) | exact HB.out)⟩⟩
              rw [if_neg c58] at H
              have c58b0 : (a0_6.toList == ([] : List UInt8)) = false := beq_eq_false_iff_ne.mpr c58
              have c58b1 : (a0_6.toList != ([] : List UInt8)) = true := bne_iff_ne.mpr c58
              have H' := Aside0.mk H
              clear H
              have hcz60_0 : w50.cell? ⟨gb165, 0, none⟩ = some (.int .i64 a0_0) := bc BK165 0
              have hcz60_1 : w50.cell? ⟨gb165, 1, none⟩ = some (.int .i64 a0_1) := bc BK165 1
              have hcz60_2 : w50.cell? ⟨gb165, 2, none⟩ = some (.int .i64 a0_2) := bc BK165 2
              have hcz60_3 : w50.cell? ⟨gb165, 3, none⟩ = some (.int .i64 a0_3) := bc BK165 3
              have hcz60_4 : w50.cell? ⟨gb165, 4, none⟩ = some (.int .i64 a0_4) := bc BK165 4
              have hcz60_5 : w50.cell? ⟨gb165, 5, none⟩ = some (.int .i64 a0_5) := bc BK165 5
              have hcz60_6 : w50.cell? ⟨gb165, 6, none⟩ = some (.string a0_6) := bc BK165 6
              have hcz60_7 : w50.cell? ⟨gb165, 7, none⟩ = some (.slice A0_7 l0_7.length c0_7) := bc BK165 7
              have hcz60_8 : w50.cell? ⟨gb165, 8, none⟩ = some (.int .i64 a0_8) := bc BK165 8
              have hcz60_9 : w50.cell? ⟨gb165, 9, none⟩ = some (.int .i64 a0_9) := bc BK165 9
              have hcz60_10 : w50.cell? ⟨gb165, 10, none⟩ = some (.int .i64 a0_10) := bc BK165 10
              have hfz60_0 := bf BK165 0
              have hfz60_1 := bf BK165 1
              have hfz60_2 := bf BK165 2
              have hfz60_3 := bf BK165 3
              have hfz60_4 := bf BK165 4
              have hfz60_5 := bf BK165 5
              have hfz60_6 := bf BK165 6
              have hfz60_7 := bf BK165 7
              have hfz60_8 := bf BK165 8
              have hfz60_9 := bf BK165 9
              have hfz60_10 := bf BK165 10
              go_wp2
              go_meet
              case rel => exact ⟨_, (false), (by first | rfl | (simp; done) | (simp [*]; done)), H', ⟨by first | omega | exact Nat.le_refl _⟩, ⟨by (with_reducible repeat (first | refine blk_drewN ?_ _ | refine blk_drew ?_ | refine blk_alloc ?_ _)); exact BK165.out⟩, ⟨by repeat (first | (with_reducible first | exact HB.out | apply below_alloc | apply pw_below_drewN | apply below_drew1 | refine below_set ?_ GE165.out) | exact HB.out)⟩⟩
            rw [if_neg c55] at H
            have c55b0 : (a0_10 == 0) = false := beq_eq_false_iff_ne.mpr c55
            have c55b1 : (a0_10 != 0) = true := bne_iff_ne.mpr c55
            have H' := Aside0.mk H
            clear H
            have hcz61_0 : w50.cell? ⟨gb165, 0, none⟩ = some (.int .i64 a0_0) := bc BK165 0
            have hcz61_1 : w50.cell? ⟨gb165, 1, none⟩ = some (.int .i64 a0_1) := bc BK165 1
            have hcz61_2 : w50.cell? ⟨gb165, 2, none⟩ = some (.int .i64 a0_2) := bc BK165 2
            have hcz61_3 : w50.cell? ⟨gb165, 3, none⟩ = some (.int .i64 a0_3) := bc BK165 3
            have hcz61_4 : w50.cell? ⟨gb165, 4, none⟩ = some (.int .i64 a0_4) := bc BK165 4
            have hcz61_5 : w50.cell? ⟨gb165, 5, none⟩ = some (.int .i64 a0_5) := bc BK165 5
            have hcz61_6 : w50.cell? ⟨gb165, 6, none⟩ = some (.string a0_6) := bc BK165 6
            have hcz61_7 : w50.cell? ⟨gb165, 7, none⟩ = some (.slice A0_7 l0_7.length c0_7) := bc BK165 7
            have hcz61_8 : w50.cell? ⟨gb165, 8, none⟩ = some (.int .i64 a0_8) := bc BK165 8
            have hcz61_9 : w50.cell? ⟨gb165, 9, none⟩ = some (.int .i64 a0_9) := bc BK165 9
            have hcz61_10 : w50.cell? ⟨gb165, 10, none⟩ = some (.int .i64 a0_10) := bc BK165 10
            have hfz61_0 := bf BK165 0
            have hfz61_1 := bf BK165 1
            have hfz61_2 := bf BK165 2
            have hfz61_3 := bf BK165 3
            have hfz61_4 := bf BK165 4
            have hfz61_5 := bf BK165 5
            have hfz61_6 := bf BK165 6
            have hfz61_7 := bf BK165 7
            have hfz61_8 := bf BK165 8
            have hfz61_9 := bf BK165 9
            have hfz61_10 := bf BK165 10
            go_wp2
            go_meet
            case rel => exact ⟨_, (true), (by first | rfl | (simp; done) | (simp [*]; done)), H', ⟨by first | omega | exact Nat.le_refl _⟩, ⟨by (with_reducible repeat (first | refine blk_drewN ?_ _ | refine blk_drew ?_ | refine blk_alloc ?_ _)); exact BK165.out⟩, ⟨by repeat (first | (with_reducible first | exact HB.out | apply below_alloc | apply pw_below_drewN | apply below_drew1 | refine below_set ?_ GE165.out) | exact HB.out)⟩⟩
          rw [if_neg c54] at H
          have c54b0 : (a0_9 == 0) = false := beq_eq_false_iff_ne.mpr c54
          have c54b1 : (a0_9 != 0) = true := bne_iff_ne.mpr c54
          have H' := Aside0.mk H
          clear H
          have hcz62_0 : w50.cell? ⟨gb165, 0, none⟩ = some (.int .i64 a0_0) := bc BK165 0
          have hcz62_1 : w50.cell? ⟨gb165, 1, none⟩ = some (.int .i64 a0_1) := bc BK165 1
          have hcz62_2 : w50.cell? ⟨gb165, 2, none⟩ = some (.int .i64 a0_2) := bc BK165 2
          have hcz62_3 : w50.cell? ⟨gb165, 3, none⟩ = some (.int .i64 a0_3) := bc BK165 3
          have hcz62_4 : w50.cell? ⟨gb165, 4, none⟩ = some (.int .i64 a0_4) := bc BK165 4
          have hcz62_5 : w50.cell? ⟨gb165, 5, none⟩ = some (.int .i64 a0_5) := bc BK165 5
          have hcz62_6 : w50.cell? ⟨gb165, 6, none⟩ = some (.string a0_6) := bc BK165 6
          have hcz62_7 : w50.cell? ⟨gb165, 7, none⟩ = some (.slice A0_7 l0_7.length c0_7) := bc BK165 7
          have hcz62_8 : w50.cell? ⟨gb165, 8, none⟩ = some (.int .i64 a0_8) := bc BK165 8
          have hcz62_9 : w50.cell? ⟨gb165, 9, none⟩ = some (.int .i64 a0_9) := bc BK165 9
          have hcz62_10 : w50.cell? ⟨gb165, 10, none⟩ = some (.int .i64 a0_10) := bc BK165 10
          have hfz62_0 := bf BK165 0
          have hfz62_1 := bf BK165 1
          have hfz62_2 := bf BK165 2
          have hfz62_3 := bf BK165 3
          have hfz62_4 := bf BK165 4
          have hfz62_5 := bf BK165 5
          have hfz62_6 := bf BK165 6
          have hfz62_7 := bf BK165 7
          have hfz62_8 := bf BK165 8
          have hfz62_9 := bf BK165 9
          have hfz62_10 := bf BK165 10
          go_wp2
          go_meet
          case rel => exact ⟨_, (true), (by first | rfl | (simp; done) | (simp [*]; done)), H', ⟨by first | omega | exact Nat.le_refl _⟩, ⟨by (with_reducible repeat (first | refine blk_drewN ?_ _ | refine blk_drew ?_ | refine blk_alloc ?_ _)); exact BK165.out⟩, ⟨by repeat (first | (with_reducible first | exact HB.out | apply below_alloc | apply pw_below_drewN | apply below_drew1 | refine below_set ?_ GE165.out) | exact HB.out)⟩⟩
        rw [if_neg c53] at H
        have c53b0 : (a0_8 == 0) = false := beq_eq_false_iff_ne.mpr c53
        have c53b1 : (a0_8 != 0) = true := bne_iff_ne.mpr c53
        have H' := Aside0.mk H
        clear H
        have hcz63_0 : w50.cell? ⟨gb165, 0, none⟩ = some (.int .i64 a0_0) := bc BK165 0
        have hcz63_1 : w50.cell? ⟨gb165, 1, none⟩ = some (.int .i64 a0_1) := bc BK165 1
        have hcz63_2 : w50.cell? ⟨gb165, 2, none⟩ = some (.int .i64 a0_2) := bc BK165 2
        have hcz63_3 : w50.cell? ⟨gb165, 3, none⟩ = some (.int .i64 a0_3) := bc BK165 3
        have hcz63_4 : w50.cell? ⟨gb165, 4, none⟩ = some (.int .i64 a0_4) := bc BK165 4
        have hcz63_5 : w50.cell? ⟨gb165, 5, none⟩ = some (.int .i64 a0_5) := bc BK165 5
        have hcz63_6 : w50.cell? ⟨gb165, 6, none⟩ = some (.string a0_6) := bc BK165 6
        have hcz63_7 : w50.cell? ⟨gb165, 7, none⟩ = some (.slice A0_7 l0_7.length c0_7) := bc BK165 7
        have hcz63_8 : w50.cell? ⟨gb165, 8, none⟩ = some (.int .i64 a0_8) := bc BK165 8
        have hcz63_9 : w50.cell? ⟨gb165, 9, none⟩ = some (.int .i64 a0_9) := bc BK165 9
        have hcz63_10 : w50.cell? ⟨gb165, 10, none⟩ = some (.int .i64 a0_10) := bc BK165 10
        have hfz63_0 := bf BK165 0
        have hfz63_1 := bf BK165 1
        have hfz63_2 := bf BK165 2
        have hfz63_3 := bf BK165 3
        have hfz63_4 := bf BK165 4
        have hfz63_5 := bf BK165 5
        have hfz63_6 := bf BK165 6
        have hfz63_7 := bf BK165 7
        have hfz63_8 := bf BK165 8
        have hfz63_9 := bf BK165 9
        have hfz63_10 := bf BK165 10
        go_wp2
        go_meet
        case rel => exact ⟨_, (true), (by first | rfl | (simp; done) | (simp [*]; done)), H', ⟨by first | omega | exact Nat.le_refl _⟩, ⟨by (with_reducible repeat (first | refine blk_drewN ?_ _ | refine blk_drew ?_ | refine blk_alloc ?_ _)); exact BK165.out⟩, ⟨by repeat (first | (with_reducible first | exact HB.out | apply below_alloc | apply pw_below_drewN | apply below_drew1 | refine below_set ?_ GE165.out) | exact HB.out)⟩⟩
      rw [if_neg c52] at H
      have c52b0 : (a0_2 == 1) = false := beq_eq_false_iff_ne.mpr c52
      have c52b1 : (a0_2 != 1) = true := bne_iff_ne.mpr c52
      (first | rw [c52b0] | (simp only [i64_w, i32_w]; rw [c52b0]) | skip)
      have H' := Aside0.mk H
      clear H
      have hcz64_0 : w50.cell? ⟨gb165, 0, none⟩ = some (.int .i64 a0_0) := bc BK165 0
      have hcz64_1 : w50.cell? ⟨gb165, 1, none⟩ = some (.int .i64 a0_1) := bc BK165 1
      have hcz64_2 : w50.cell? ⟨gb165, 2, none⟩ = some (.int .i64 a0_2) := bc BK165 2
      have hcz64_3 : w50.cell? ⟨gb165, 3, none⟩ = some (.int .i64 a0_3) := bc BK165 3
      have hcz64_4 : w50.cell? ⟨gb165, 4, none⟩ = some (.int .i64 a0_4) := bc BK165 4
      have hcz64_5 : w50.cell? ⟨gb165, 5, none⟩ = some (.int .i64 a0_5) := bc BK165 5
      have hcz64_6 : w50.cell? ⟨gb165, 6, none⟩ = some (.string a0_6) := bc BK165 6
      have hcz64_7 : w50.cell? ⟨gb165, 7, none⟩ = some (.slice A0_7 l0_7.length c0_7) := bc BK165 7
      have hcz64_8 : w50.cell? ⟨gb165, 8, none⟩ = some (.int .i64 a0_8) := bc BK165 8
      have hcz64_9 : w50.cell? ⟨gb165, 9, none⟩ = some (.int .i64 a0_9) := bc BK165 9
      have hcz64_10 : w50.cell? ⟨gb165, 10, none⟩ = some (.int .i64 a0_10) := bc BK165 10
      have hfz64_0 := bf BK165 0
      have hfz64_1 := bf BK165 1
      have hfz64_2 := bf BK165 2
      have hfz64_3 := bf BK165 3
      have hfz64_4 := bf BK165 4
      have hfz64_5 := bf BK165 5
      have hfz64_6 := bf BK165 6
      have hfz64_7 := bf BK165 7
      have hfz64_8 := bf BK165 8
      have hfz64_9 := bf BK165 9
      have hfz64_10 := bf BK165 10
      go_wp2
      go_meet
      case rel => exact ⟨_, (true), (by first | rfl | (simp; done) | (simp [*]; done)), H', ⟨by first | omega | exact Nat.le_refl _⟩, ⟨by (with_reducible repeat (first | refine blk_drewN ?_ _ | refine blk_drew ?_ | refine blk_alloc ?_ _)); exact BK165.out⟩, ⟨by repeat (first | (with_reducible first | exact HB.out | apply below_alloc | apply pw_below_drewN | apply below_drew1 | refine below_set ?_ GE165.out) | exact HB.out)⟩⟩
    case rest =>
      clear HC49
      try clear c3; try clear c4; try clear c4b0; try clear c4b1; try clear hcz51_0; try clear hcz51_1; try clear hcz51_10; try clear hcz51_2; try clear hcz51_3; try clear hcz51_4; try clear hcz51_5; try clear hcz51_6; try clear hcz51_7; try clear hcz51_8; try clear hcz51_9; try clear hfz51_0; try clear hfz51_1; try clear hfz51_10; try clear hfz51_2; try clear hfz51_3; try clear hfz51_4; try clear hfz51_5; try clear hfz51_6; try clear hfz51_7; try clear hfz51_8; try clear hfz51_9
      obtain ⟨kq, x89_48, rfl, HA, HJ48, BK165, HB⟩ := hcut
      cases kq with
      | zero => exact absurd HA.out (by simp [lectionaryref4_Op.j0])
      | succ kj48 =>
        have H := HA.out
        clear HA
        simp only [lectionaryref4_Op.j0] at H
        by_cases c65 : x89_48 = true
        · subst c65
          have H1 : (some false) = some r := by rw [if_pos rfl] at H; exact H
          clear H
          have H := H1
          clear H1
          obtain rfl := Option.some.inj H
          go_wp2
          go_ret
          exact ⟨by first | rfl | (simp [errW_none, errW_some] <;> rfl) | (simp [*, errW_none, errW_some] <;> rfl), by repeat (first | (with_reducible first | exact HB.out | apply below_alloc | apply pw_below_drewN | apply below_drew1 | refine below_set ?_ GE165.out) | exact HB.out)⟩
        replace c65 := Bool.eq_false_iff.mpr c65
        subst c65
        have H1 : ((lectionaryref1_Runes.f kj48 a0_6).bind fun bt172 => (if bt172.2 = true then (if (bt172.1.length : Int) > 12 then (lectionaryref4_Op.j1 kj48 true a0_0 a0_1 a0_2 a0_3 a0_4 a0_5 a0_6 l0_7 a0_8 a0_9 a0_10) else ((lectionaryref4_Elem.f a0_3 a0_4 a0_5).bind fun t176 => (if t176 = true then (if (bt172.1.length : Int) = 0 then ((lectionaryref4_Begin.f a0_3 a0_4 a0_5).bind fun t177 => (if t177 = true then ((lectionaryref4_own.f a0_0 a0_1 a0_2 a0_3 a0_4 a0_5 a0_6 l0_7 a0_8 a0_9 a0_10 a0_3 a0_4 a0_5).bind fun t178 => (lectionaryref4_Op.j1 kj48 t178 a0_0 a0_1 a0_2 a0_3 a0_4 a0_5 a0_6 l0_7 a0_8 a0_9 a0_10)) else (lectionaryref4_Op.j1 kj48 true a0_0 a0_1 a0_2 a0_3 a0_4 a0_5 a0_6 l0_7 a0_8 a0_9 a0_10))) else ((lectionaryref4_own.f a0_0 a0_1 a0_2 a0_3 a0_4 a0_5 a0_6 l0_7 a0_8 a0_9 a0_10 a0_3 a0_4 a0_5).bind fun t179 => (lectionaryref4_Op.j1 kj48 t179 a0_0 a0_1 a0_2 a0_3 a0_4 a0_5 a0_6 l0_7 a0_8 a0_9 a0_10))) else (lectionaryref4_Op.j1 kj48 true a0_0 a0_1 a0_2 a0_3 a0_4 a0_5 a0_6 l0_7 a0_8 a0_9 a0_10)))) else (lectionaryref4_Op.j1 kj48 true a0_0 a0_1 a0_2 a0_3 a0_4 a0_5 a0_6 l0_7 a0_8 a0_9 a0_10))) = some r := by rw [if_neg (show ¬ (false = true) by decide)] at H; exact H
        clear H
        have H := H1
        clear H1
        replace H := Option.bind_eq_some_iff.mp H
        obtain ⟨⟨t172, t173⟩, A660, H⟩ := H
        replace H : (if t173 = true then (if (t172.length : Int) > 12 then (lectionaryref4_Op.j1 kj48 true a0_0 a0_1 a0_2 a0_3 a0_4 a0_5 a0_6 l0_7 a0_8 a0_9 a0_10) else ((lectionaryref4_Elem.f a0_3 a0_4 a0_5).bind fun t176 => (if t176 = true then (if (t172.length : Int) = 0 then ((lectionaryref4_Begin.f a0_3 a0_4 a0_5).bind fun t177 => (if t177 = true then ((lectionaryref4_own.f a0_0 a0_1 a0_2 a0_3 a0_4 a0_5 a0_6 l0_7 a0_8 a0_9 a0_10 a0_3 a0_4 a0_5).bind fun t178 => (lectionaryref4_Op.j1 kj48 t178 a0_0 a0_1 a0_2 a0_3 a0_4 a0_5 a0_6 l0_7 a0_8 a0_9 a0_10)) else (lectionaryref4_Op.j1 kj48 true a0_0 a0_1 a0_2 a0_3 a0_4 a0_5 a0_6 l0_7 a0_8 a0_9 a0_10))) else ((lectionaryref4_own.f a0_0 a0_1 a0_2 a0_3 a0_4 a0_5 a0_6 l0_7 a0_8 a0_9 a0_10 a0_3 a0_4 a0_5).bind fun t179 => (lectionaryref4_Op.j1 kj48 t179 a0_0 a0_1 a0_2 a0_3 a0_4 a0_5 a0_6 l0_7 a0_8 a0_9 a0_10))) else (lectionaryref4_Op.j1 kj48 true a0_0 a0_1 a0_2 a0_3 a0_4 a0_5 a0_6 l0_7 a0_8 a0_9 a0_10)))) else (lectionaryref4_Op.j1 kj48 true a0_0 a0_1 a0_2 a0_3 a0_4 a0_5 a0_6 l0_7 a0_8 a0_9 a0_10)) = some r := H
        have A66 := Aside0.mk A660
        clear A660
        have HC67 := Aside0.mk H
        clear H
        have hcz68_0 : wc.cell? ⟨gb165, 0, none⟩ = some (.int .i64 a0_0) := bc BK165 0
        have hcz68_1 : wc.cell? ⟨gb165, 1, none⟩ = some (.int .i64 a0_1) := bc BK165 1
        have hcz68_2 : wc.cell? ⟨gb165, 2, none⟩ = some (.int .i64 a0_2) := bc BK165 2
        have hcz68_3 : wc.cell? ⟨gb165, 3, none⟩ = some (.int .i64 a0_3) := bc BK165 3
        have hcz68_4 : wc.cell? ⟨gb165, 4, none⟩ = some (.int .i64 a0_4) := bc BK165 4
        have hcz68_5 : wc.cell? ⟨gb165, 5, none⟩ = some (.int .i64 a0_5) := bc BK165 5
        have hcz68_6 : wc.cell? ⟨gb165, 6, none⟩ = some (.string a0_6) := bc BK165 6
        have hcz68_7 : wc.cell? ⟨gb165, 7, none⟩ = some (.slice A0_7 l0_7.length c0_7) := bc BK165 7
        have hcz68_8 : wc.cell? ⟨gb165, 8, none⟩ = some (.int .i64 a0_8) := bc BK165 8
        have hcz68_9 : wc.cell? ⟨gb165, 9, none⟩ = some (.int .i64 a0_9) := bc BK165 9
        have hcz68_10 : wc.cell? ⟨gb165, 10, none⟩ = some (.int .i64 a0_10) := bc BK165 10
        have hfz68_0 := bf BK165 0
        have hfz68_1 := bf BK165 1
        have hfz68_2 := bf BK165 2
        have hfz68_3 := bf BK165 3
        have hfz68_4 := bf BK165 4
        have hfz68_5 := bf BK165 5
        have hfz68_6 := bf BK165 6
        have hfz68_7 := bf BK165 7
        have hfz68_8 := bf BK165 8
        have hfz68_9 := bf BK165 9
        have hfz68_10 := bf BK165 10
        go_upto_region 8 with (first | ((with_reducible refine gate_callee (f := 50) rfl ?_); refine goesL_ (some 93) rfl rfl Tryd.func50 (by kernel_rfl) rfl #[.string a0_6] rfl (by (try simp only [List.map_toArray, List.map_cons, List.map_nil]); first | done | rfl | (simp only [List.length_drop, List.length_take]; rfl)) ?_; (with_reducible refine (lectionaryref1_Runes.calls kj48 a0_6 t172 t173 _ ?side1 A66.out).mono ?_); (case side1 => exact (hT.below (by repeat (first | (with_reducible first | exact HB.out | apply below_alloc | apply pw_below_drewN | apply below_drew1 | refine below_set ?_ GE165.out) | exact HB.out)))); rintro e w69 ⟨v174, rfl, ho0, hb⟩; refine ⟨_, rfl, ?_⟩; have n0_ := Aside0.mk (Kd.R_lower ho0 (below_size (by repeat (first | (with_reducible first | exact HB.out | apply below_alloc | apply pw_below_drewN | apply below_drew1 | refine below_set ?_ GE165.out) | exact HB.out)))); have n1_ := Aside0.mk (blk_below (g := gb165) (o := .cells #[.int .i64 a0_0, .int .i64 a0_1, .int .i64 a0_2, .int .i64 a0_3, .int .i64 a0_4, .int .i64 a0_5, .string a0_6, .slice A0_7 l0_7.length c0_7, .int .i64 a0_8, .int .i64 a0_9, .int .i64 a0_10] 31 (0, 0)) (by (with_reducible repeat (first | refine blk_drewN ?_ _ | refine blk_drew ?_ | refine blk_alloc ?_ _)); exact BK165.out) hb); have n2_ := Aside0.mk (below_step (by repeat (first | (with_reducible first | exact HB.out | apply below_alloc | apply pw_below_drewN | apply below_drew1 | refine below_set ?_ GE165.out) | exact HB.out)) hb); clear BK165; clear HB; have HO175 := n0_; have BK165 := n1_; have HB := n2_; clear n0_ n1_ n2_; (try clear hb); (try clear hb2); (try clear hk); (try clear hi); (try clear ho0)))
        (try simp only [Act.put, List.setIfInBounds_toArray, List.set_cons_zero, List.set_cons_succ])
        go_cut [125] (fun v125 wc => ∃ (kq : Nat) (x125_66 : Bool), v125 = .bool x125_66 ∧ Aside0 (lectionaryref4_Op.j1 kq x125_66 a0_0 a0_1 a0_2 a0_3 a0_4 a0_5 a0_6 l0_7 a0_8 a0_9 a0_10 = some r) ∧ Aside0 (kq ≤ kj48) ∧ Aside0 (wc.heap[gb165]? = some (.cells #[.int .i64 a0_0, .int .i64 a0_1, .int .i64 a0_2, .int .i64 a0_3, .int .i64 a0_4, .int .i64 a0_5, .string a0_6, (.slice A0_7 l0_7.length c0_7), .int .i64 a0_8, .int .i64 a0_9, .int .i64 a0_10] 31 (0, 0))) ∧ Aside0 (Below w.heap.size w wc))
        case first =>
          have H := HC67.out
          clear HC67
          by_cases c70 : t173 = true
          · as_aux_lemma =>
            subst c70
            have H1 : (if (t172.length : Int) > 12 then (lectionaryref4_Op.j1 kj48 true a0_0 a0_1 a0_2 a0_3 a0_4 a0_5 a0_6 l0_7 a0_8 a0_9 a0_10) else ((lectionaryref4_Elem.f a0_3 a0_4 a0_5).bind fun t176 => (if t176 = true then (if (t172.length : Int) = 0 then ((lectionaryref4_Begin.f a0_3 a0_4 a0_5).bind fun t177 => (if t177 = true then ((lectionaryref4_own.f a0_0 a0_1 a0_2 a0_3 a0_4 a0_5 a0_6 l0_7 a0_8 a0_9 a0_10 a0_3 a0_4 a0_5).bind fun t178 => (lectionaryref4_Op.j1 kj48 t178 a0_0 a0_1 a0_2 a0_3 a0_4 a0_5 a0_6 l0_7 a0_8 a0_9 a0_10)) else (lectionaryref4_Op.j1 kj48 true a0_0 a0_1 a0_2 a0_3 a0_4 a0_5 a0_6 l0_7 a0_8 a0_9 a0_10))) else ((lectionaryref4_own.f a0_0 a0_1 a0_2 a0_3 a0_4 a0_5 a0_6 l0_7 a0_8 a0_9 a0_10 a0_3 a0_4 a0_5).bind fun t179 => (lectionaryref4_Op.j1 kj48 t179 a0_0 a0_1 a0_2 a0_3 a0_4 a0_5 a0_6 l0_7 a0_8 a0_9 a0_10))) else (lectionaryref4_Op.j1 kj48 true a0_0 a0_1 a0_2 a0_3 a0_4 a0_5 a0_6 l0_7 a0_8 a0_9 a0_10)))) = some r := by rw [if_pos rfl] at H; exact H
            clear H
            have H := H1
            clear H1
            by_cases c71 : (t172.length : Int) > 12
            · as_aux_lemma =>
              rw [if_pos c71] at H
              have c71b0 : decide (12 < (t172.length : Int)) = true := decide_eq_true c71
              have c71b1 : decide (12 < t172.length) = true := decide_eq_true (by omega)
              clear c71
              (first | rw [c71b0] | (simp only [i64_w, i32_w]; rw [c71b0]) | skip)
              have H' := Aside0.mk H
              clear H
              obtain ⟨Ao72, co72, eo72⟩ := Kd.R_slice HO175.out
              subst eo72
              go_wp2
              go_meet
              case rel => exact ⟨_, (true), (by first | rfl | (simp; done) | (simp [*]; done)), H', ⟨by have := HJ48.out; first | omega | exact Nat.le_refl _⟩, ⟨by (with_reducible repeat (first | refine blk_drewN ?_ _ | refine blk_drew ?_ | refine blk_alloc ?_ _)); exact BK165.out⟩, ⟨by repeat (first | (with_reducible first | exact HB.out | apply below_alloc | apply pw_below_drewN | apply below_drew1 | refine below_set ?_ GE165.out) | exact HB.out)⟩⟩
            rw [if_neg c71] at H
            have c71b0 : decide (12 < (t172.length : Int)) = false := decide_eq_false c71
            have c71b1 : decide (12 < t172.length) = false := decide_eq_false (by omega)
            clear c71
            (first | rw [c71b0] | (simp only [i64_w, i32_w]; rw [c71b0]) | skip)
            replace H := Option.bind_eq_some_iff.mp H
            obtain ⟨t176, A730, H⟩ := H
            replace H : (if t176 = true then (if (t172.length : Int) = 0 then ((lectionaryref4_Begin.f a0_3 a0_4 a0_5).bind fun t177 => (if t177 = true then ((lectionaryref4_own.f a0_0 a0_1 a0_2 a0_3 a0_4 a0_5 a0_6 l0_7 a0_8 a0_9 a0_10 a0_3 a0_4 a0_5).bind fun t178 => (lectionaryref4_Op.j1 kj48 t178 a0_0 a0_1 a0_2 a0_3 a0_4 a0_5 a0_6 l0_7 a0_8 a0_9 a0_10)) else (lectionaryref4_Op.j1 kj48 true a0_0 a0_1 a0_2 a0_3 a0_4 a0_5 a0_6 l0_7 a0_8 a0_9 a0_10))) else ((lectionaryref4_own.f a0_0 a0_1 a0_2 a0_3 a0_4 a0_5 a0_6 l0_7 a0_8 a0_9 a0_10 a0_3 a0_4 a0_5).bind fun t179 => (lectionaryref4_Op.j1 kj48 t179 a0_0 a0_1 a0_2 a0_3 a0_4 a0_5 a0_6 l0_7 a0_8 a0_9 a0_10))) else (lectionaryref4_Op.j1 kj48 true a0_0 a0_1 a0_2 a0_3 a0_4 a0_5 a0_6 l0_7 a0_8 a0_9 a0_10)) = some r := H
            have A73 := Aside0.mk A730
            clear A730
            by_cases c74 : t176 = true
            · as_aux_lemma =>
              subst c74
              have H1 : (if (t172.length : Int) = 0 then ((lectionaryref4_Begin.f a0_3 a0_4 a0_5).bind fun t177 => (if t177 = true then ((lectionaryref4_own.f a0_0 a0_1 a0_2 a0_3 a0_4 a0_5 a0_6 l0_7 a0_8 a0_9 a0_10 a0_3 a0_4 a0_5).bind fun t178 => (lectionaryref4_Op.j1 kj48 t178 a0_0 a0_1 a0_2 a0_3 a0_4 a0_5 a0_6 l0_7 a0_8 a0_9 a0_10)) else (lectionaryref4_Op.j1 kj48 true a0_0 a0_1 a0_2 a0_3 a0_4 a0_5 a0_6 l0_7 a0_8 a0_9 a0_10))) else ((lectionaryref4_own.f a0_0 a0_1 a0_2 a0_3 a0_4 a0_5 a0_6 l0_7 a0_8 a0_9 a0_10 a0_3 a0_4 a0_5).bind fun t179 => (lectionaryref4_Op.j1 kj48 t179 a0_0 a0_1 a0_2 a0_3 a0_4 a0_5 a0_6 l0_7 a0_8 a0_9 a0_10))) = some r := by rw [if_pos rfl] at H; exact H
              clear H
              have H := H1
              clear H1
              by_cases c75 : (t172.length : Int) = 0
              · as_aux_lemma =>
                rw [if_pos c75] at H
                have c75b0 : ((t172.length : Int) == 0) = true := beq_iff_eq.mpr c75
                have c75b1 : ((t172.length : Int) != 0) = false := bne_eq_false_iff_eq.mpr c75
                clear c75
                replace H := Option.bind_eq_some_iff.mp H
                obtain ⟨t177, A760, H⟩ := H
                replace H : (if t177 = true then ((lectionaryref4_own.f a0_0 a0_1 a0_2 a0_3 a0_4 a0_5 a0_6 l0_7 a0_8 a0_9 a0_10 a0_3 a0_4 a0_5).bind fun t178 => (lectionaryref4_Op.j1 kj48 t178 a0_0 a0_1 a0_2 a0_3 a0_4 a0_5 a0_6 l0_7 a0_8 a0_9 a0_10)) else (lectionaryref4_Op.j1 kj48 true a0_0 a0_1 a0_2 a0_3 a0_4 a0_5 a0_6 l0_7 a0_8 a0_9 a0_10)) = some r := H
                have A76 := Aside0.mk A760
                clear A760
                by_cases c77 : t177 = true
                · as_aux_lemma =>
                  subst c77
                  have H1 : ((lectionaryref4_own.f a0_0 a0_1 a0_2 a0_3 a0_4 a0_5 a0_6 l0_7 a0_8 a0_9 a0_10 a0_3 a0_4 a0_5).bind fun t178 => (lectionaryref4_Op.j1 kj48 t178 a0_0 a0_1 a0_2 a0_3 a0_4 a0_5 a0_6 l0_7 a0_8 a0_9 a0_10)) = some r := by rw [if_pos rfl] at H; exact H
                  clear H
                  have H := H1
                  clear H1
                  replace H := Option.bind_eq_some_iff.mp H
                  obtain ⟨t178, A780, H⟩ := H
                  replace H : (lectionaryref4_Op.j1 kj48 t178 a0_0 a0_1 a0_2 a0_3 a0_4 a0_5 a0_6 l0_7 a0_8 a0_9 a0_10) = some r := H
                  have A78 := Aside0.mk A780
                  clear A780
                  have H' := Aside0.mk H
                  clear H
                  obtain ⟨Ao79, co79, eo79⟩ := Kd.R_slice HO175.out
                  subst eo79
                  have hcz80_0 : w69.cell? ⟨gb165, 0, none⟩ = some (.int .i64 a0_0) := bc BK165 0
                  have hcz80_1 : w69.cell? ⟨gb165, 1, none⟩ = some (.int .i64 a0_1) := bc BK165 1
                  have hcz80_2 : w69.cell? ⟨gb165, 2, none⟩ = some (.int .i64 a0_2) := bc BK165 2
                  have hcz80_3 : w69.cell? ⟨gb165, 3, none⟩ = some (.int .i64 a0_3) := bc BK165 3
                  have hcz80_4 : w69.cell? ⟨gb165, 4, none⟩ = some (.int .i64 a0_4) := bc BK165 4
                  have hcz80_5 : w69.cell? ⟨gb165, 5, none⟩ = some (.int .i64 a0_5) := bc BK165 5
                  have hcz80_6 : w69.cell? ⟨gb165, 6, none⟩ = some (.string a0_6) := bc BK165 6
                  have hcz80_7 : w69.cell? ⟨gb165, 7, none⟩ = some (.slice A0_7 l0_7.length c0_7) := bc BK165 7
                  have hcz80_8 : w69.cell? ⟨gb165, 8, none⟩ = some (.int .i64 a0_8) := bc BK165 8
                  have hcz80_9 : w69.cell? ⟨gb165, 9, none⟩ = some (.int .i64 a0_9) := bc BK165 9
                  have hcz80_10 : w69.cell? ⟨gb165, 10, none⟩ = some (.int .i64 a0_10) := bc BK165 10
                  have hfz80_0 := bf BK165 0
                  have hfz80_1 := bf BK165 1
                  have hfz80_2 := bf BK165 2
                  have hfz80_3 := bf BK165 3
                  have hfz80_4 := bf BK165 4
                  have hfz80_5 := bf BK165 5
                  have hfz80_6 := bf BK165 6
                  have hfz80_7 := bf BK165 7
                  have hfz80_8 := bf BK165 8
                  have hfz80_9 := bf BK165 9
                  have hfz80_10 := bf BK165 10
                  go_wp2_with (first | (go_at_call 68; (with_reducible refine (lectionaryref4_Elem.calls a0_3 a0_4 a0_5 true _ A73.out).mono ?_); rintro e w81 ⟨rfl, hb⟩; have n0_ := Aside0.mk (Kd.R_below (by (with_reducible repeat (first | apply Kd.R_alloc | apply Kd.R_drewN | apply Kd.R_drew)); exact HO175.out) hb); have n1_ := Aside0.mk (blk_below (g := gb165) (o := .cells #[.int .i64 a0_0, .int .i64 a0_1, .int .i64 a0_2, .int .i64 a0_3, .int .i64 a0_4, .int .i64 a0_5, .string a0_6, .slice A0_7 l0_7.length c0_7, .int .i64 a0_8, .int .i64 a0_9, .int .i64 a0_10] 31 (0, 0)) (by (with_reducible repeat (first | refine blk_drewN ?_ _ | refine blk_drew ?_ | refine blk_alloc ?_ _)); exact BK165.out) hb); have n2_ := Aside0.mk (below_step (by repeat (first | (with_reducible first | exact HB.out | apply below_alloc | apply pw_below_drewN | apply below_drew1 | refine below_set ?_ GE165.out) | exact HB.out)) hb); clear HO175; clear BK165; clear HB; have HO175 := n0_; have BK165 := n1_; have HB := n2_; clear n0_ n1_ n2_; (try clear hb); (try clear hb2); (try clear hk); (try clear hi); have hcz82_0 : w81.cell? ⟨gb165, 0, none⟩ = some (.int .i64 a0_0) := bc BK165 0; have hcz82_1 : w81.cell? ⟨gb165, 1, none⟩ = some (.int .i64 a0_1) := bc BK165 1; have hcz82_2 : w81.cell? ⟨gb165, 2, none⟩ = some (.int .i64 a0_2) := bc BK165 2; have hcz82_3 : w81.cell? ⟨gb165, 3, none⟩ = some (.int .i64 a0_3) := bc BK165 3; have hcz82_4 : w81.cell? ⟨gb165, 4, none⟩ = some (.int .i64 a0_4) := bc BK165 4; have hcz82_5 : w81.cell? ⟨gb165, 5, none⟩ = some (.int .i64 a0_5) := bc BK165 5; have hcz82_6 : w81.cell? ⟨gb165, 6, none⟩ = some (.string a0_6) := bc BK165 6; have hcz82_7 : w81.cell? ⟨gb165, 7, none⟩ = some (.slice A0_7 l0_7.length c0_7) := bc BK165 7; have hcz82_8 : w81.cell? ⟨gb165, 8, none⟩ = some (.int .i64 a0_8) := bc BK165 8; have hcz82_9 : w81.cell? ⟨gb165, 9, none⟩ = some (.int .i64 a0_9) := bc BK165 9; have hcz82_10 : w81.cell? ⟨gb165, 10, none⟩ = some (.int .i64 a0_10) := bc BK165 10; have hfz82_0 := bf BK165 0; have hfz82_1 := bf BK165 1; have hfz82_2 := bf BK165 2; have hfz82_3 := bf BK165 3; have hfz82_4 := bf BK165 4; have hfz82_5 := bf BK165 5; have hfz82_6 := bf BK165 6; have hfz82_7 := bf BK165 7; have hfz82_8 := bf BK165 8; have hfz82_9 := bf BK165 9; have hfz82_10 := bf BK165 10) | (go_at_call 77; (with_reducible refine (lectionaryref4_Begin.calls a0_3 a0_4 a0_5 true _ A76.out).mono ?_); rintro e w83 ⟨rfl, hb⟩; have n0_ := Aside0.mk (Kd.R_below (by (with_reducible repeat (first | apply Kd.R_alloc | apply Kd.R_drewN | apply Kd.R_drew)); exact HO175.out) hb); have n1_ := Aside0.mk (blk_below (g := gb165) (o := .cells #[.int .i64 a0_0, .int .i64 a0_1, .int .i64 a0_2, .int .i64 a0_3, .int .i64 a0_4, .int .i64 a0_5, .string a0_6, .slice A0_7 l0_7.length c0_7, .int .i64 a0_8, .int .i64 a0_9, .int .i64 a0_10] 31 (0, 0)) (by (with_reducible repeat (first | refine blk_drewN ?_ _ | refine blk_drew ?_ | refine blk_alloc ?_ _)); exact BK165.out) hb); have n2_ := Aside0.mk (below_step (by repeat (first | (with_reducible first | exact HB.out | apply below_alloc | apply pw_below_drewN | apply below_drew1 | refine below_set ?_ GE165.out) | exact HB.out)) hb); clear HO175; clear BK165; clear HB; have HO175 := n0_; have BK165 := n1_; have HB := n2_; clear n0_ n1_ n2_; (try clear hb); (try clear hb2); (try clear hk); (try clear hi); have hcz84_0 : w83.cell? ⟨gb165, 0, none⟩ = some (.int .i64 a0_0) := bc BK165 0; have hcz84_1 : w83.cell? ⟨gb165, 1, none⟩ = some (.int .i64 a0_1) := bc BK165 1; have hcz84_2 : w83.cell? ⟨gb165, 2, none⟩ = some (.int .i64 a0_2) := bc BK165 2; have hcz84_3 : w83.cell? ⟨gb165, 3, none⟩ = some (.int .i64 a0_3) := bc BK165 3; have hcz84_4 : w83.cell? ⟨gb165, 4, none⟩ = some (.int .i64 a0_4) := bc BK165 4; have hcz84_5 : w83.cell? ⟨gb165, 5, none⟩ = some (.int .i64 a0_5) := bc BK165 5; have hcz84_6 : w83.cell? ⟨gb165, 6, none⟩ = some (.string a0_6) := bc BK165 6; have hcz84_7 : w83.cell? ⟨gb165, 7, none⟩ = some (.slice A0_7 l0_7.length c0_7) := bc BK165 7; have hcz84_8 : w83.cell? ⟨gb165, 8, none⟩ = some (.int .i64 a0_8) := bc BK165 8; have hcz84_9 : w83.cell? ⟨gb165, 9, none⟩ = some (.int .i64 a0_9) := bc BK165 9; have hcz84_10 : w83.cell? ⟨gb165, 10, none⟩ = some (.int .i64 a0_10) := bc BK165 10; have hfz84_0 := bf BK165 0; have hfz84_1 := bf BK165 1; have hfz84_2 := bf BK165 2; have hfz84_3 := bf BK165 3; have hfz84_4 := bf BK165 4; have hfz84_5 := bf BK165 5; have hfz84_6 := bf BK165 6; have hfz84_7 := bf BK165 7; have hfz84_8 := bf BK165 8; have hfz84_9 := bf BK165 9; have hfz84_10 := bf BK165 10) | (go_at_call 114; (with_reducible refine (lectionaryref4_own.calls a0_0 a0_1 a0_2 a0_3 a0_4 a0_5 a0_6 _ _ l0_7 a0_8 a0_9 a0_10 a0_3 a0_4 a0_5 t178 _ ?side1 ?side2 A78.out).mono ?_); (case side1 => repeat (first | exact (Kd.C_below HR0_7.out HB.out) | (with_reducible refine Kd.C_alloc ?_ _) | (with_reducible refine Kd.C_drewN ?_ _) | (with_reducible refine Kd.C_drew ?_))); (case side2 => exact HC0_7.out); rintro e w85 ⟨rfl, hb⟩; have n0_ := Aside0.mk (Kd.R_below (by (with_reducible repeat (first | apply Kd.R_alloc | apply Kd.R_drewN | apply Kd.R_drew)); exact HO175.out) hb); have n1_ := Aside0.mk (blk_below (g := gb165) (o := .cells #[.int .i64 a0_0, .int .i64 a0_1, .int .i64 a0_2, .int .i64 a0_3, .int .i64 a0_4, .int .i64 a0_5, .string a0_6, .slice A0_7 l0_7.length c0_7, .int .i64 a0_8, .int .i64 a0_9, .int .i64 a0_10] 31 (0, 0)) (by (with_reducible repeat (first | refine blk_drewN ?_ _ | refine blk_drew ?_ | refine blk_alloc ?_ _)); exact BK165.out) hb); have n2_ := Aside0.mk (below_step (by repeat (first | (with_reducible first | exact HB.out | apply below_alloc | apply pw_below_drewN | apply below_drew1 | refine below_set ?_ GE165.out) | exact HB.out)) hb); clear HO175; clear BK165; clear HB; have HO175 := n0_; have BK165 := n1_; have HB := n2_; clear n0_ n1_ n2_; (try clear hb); (try clear hb2); (try clear hk); (try clear hi)))
                  go_meet
                  case rel => exact ⟨_, (t178), (by first | rfl | (simp; done) | (simp [*]; done)), H', ⟨by have := HJ48.out; first | omega | exact Nat.le_refl _⟩, ⟨by (with_reducible repeat (first | refine blk_drewN ?_ _ | refine blk_drew ?_ | refine blk_alloc ?_ _)); exact BK165.out⟩, ⟨by repeat (first | (with_reducible first | exact HB.out | apply below_alloc | apply pw_below_drewN | apply below_drew1 | refine below_set ?_ GE165.out) | exact HB.out)⟩⟩
                replace c77 := Bool.eq_false_iff.mpr c77
                subst c77
                have H1 : (lectionaryref4_Op.j1 kj48 true a0_0 a0_1 a0_2 a0_3 a0_4 a0_5 a0_6 l0_7 a0_8 a0_9 a0_10) = some r := by rw [if_neg (show ¬ (false = true) by decide)] at H; exact H
                clear H
                have H := H1
                clear H1
                have H' := Aside0.mk H
                clear H
                obtain ⟨Ao86, co86, eo86⟩ := Kd.R_slice HO175.out
                subst eo86
                have hcz87_0 : w69.cell? ⟨gb165, 0, none⟩ = some (.int .i64 a0_0) := bc BK165 0
                have hcz87_1 : w69.cell? ⟨gb165, 1, none⟩ = some (.int .i64 a0_1) := bc BK165 1
                have hcz87_2 : w69.cell? ⟨gb165, 2, none⟩ = some (.int .i64 a0_2) := bc BK165 2
                have hcz87_3 : w69.cell? ⟨gb165, 3, none⟩ = some (.int .i64 a0_3) := bc BK165 3
                have hcz87_4 : w69.cell? ⟨gb165, 4, none⟩ = some (.int .i64 a0_4) := bc BK165 4
                have hcz87_5 : w69.cell? ⟨gb165, 5, none⟩ = some (.int .i64 a0_5) := bc BK165 5
                have hcz87_6 : w69.cell? ⟨gb165, 6, none⟩ = some (.string a0_6) := bc BK165 6
                have hcz87_7 : w69.cell? ⟨gb165, 7, none⟩ = some (.slice A0_7 l0_7.length c0_7) := bc BK165 7
                have hcz87_8 : w69.cell? ⟨gb165, 8, none⟩ = some (.int .i64 a0_8) := bc BK165 8
                have hcz87_9 : w69.cell? ⟨gb165, 9, none⟩ = some (.int .i64 a0_9) := bc BK165 9
                have hcz87_10 : w69.cell? ⟨gb165, 10, none⟩ = some (.int .i64 a0_10) := bc BK165 10
                have hfz87_0 := bf BK165 0
                have hfz87_1 := bf BK165 1
                have hfz87_2 := bf BK165 2
                have hfz87_3 := bf BK165 3
                have hfz87_4 := bf BK165 4
                have hfz87_5 := bf BK165 5
                have hfz87_6 := bf BK165 6
                have hfz87_7 := bf BK165 7
                have hfz87_8 := bf BK165 8
                have hfz87_9 := bf BK165 9
                have hfz87_10 := bf BK165 10
                go_wp2_with (first | (go_at_call 68; (with_reducible refine (lectionaryref4_Elem.calls a0_3 a0_4 a0_5 true _ A73.out).mono ?_); rintro e w88 ⟨rfl, hb⟩; have n0_ := Aside0.mk (Kd.R_below (by (with_reducible repeat (first | apply Kd.R_alloc | apply Kd.R_drewN | apply Kd.R_drew)); exact HO175.out) hb); have n1_ := Aside0.mk (blk_below (g := gb165) (o := .cells #[.int .i64 a0_0, .int .i64 a0_1, .int .i64 a0_2, .int .i64 a0_3, .int .i64 a0_4, .int .i64 a0_5, .string a0_6, .slice A0_7 l0_7.length c0_7, .int .i64 a0_8, .int .i64 a0_9, .int .i64 a0_10] 31 (0, 0)) (by (with_reducible repeat (first | refine blk_drewN ?_ _ | refine blk_drew ?_ | refine blk_alloc ?_ _)); exact BK165.out) hb); have n2_ := Aside0.mk (below_step (by repeat (first | (with_reducible first | exact HB.out | apply below_alloc | apply pw_below_drewN | apply below_drew1 | refine below_set ?_ GE165.out) | exact HB.out)) hb); clear HO175; clear BK165; clear HB; have HO175 := n0_; have BK165 := n1_; have HB := n2_; clear n0_ n1_ n2_; (try clear hb); (try clear hb2); (try clear hk); (try clear hi); have hcz89_0 : w88.cell? ⟨gb165, 0, none⟩ = some (.int .i64 a0_0) := bc BK165 0; have hcz89_1 : w88.cell? ⟨gb165, 1, none⟩ = some (.int .i64 a0_1) := bc BK165 1; have hcz89_2 : w88.cell? ⟨gb165, 2, none⟩ = some (.int .i64 a0_2) := bc BK165 2; have hcz89_3 : w88.cell? ⟨gb165, 3, none⟩ = some (.int .i64 a0_3) := bc BK165 3; have hcz89_4 : w88.cell? ⟨gb165, 4, none⟩ = some (.int .i64 a0_4) := bc BK165 4; have hcz89_5 : w88.cell? ⟨gb165, 5, none⟩ = some (.int .i64 a0_5) := bc BK165 5; have hcz89_6 : w88.cell? ⟨gb165, 6, none⟩ = some (.string a0_6) := bc BK165 6; have hcz89_7 : w88.cell? ⟨gb165, 7, none⟩ = some (.slice A0_7 l0_7.length c0_7) := bc BK165 7; have hcz89_8 : w88.cell? ⟨gb165, 8, none⟩ = some (.int .i64 a0_8) := bc BK165 8; have hcz89_9 : w88.cell? ⟨gb165, 9, none⟩ = some (.int .i64 a0_9) := bc BK165 9; have hcz89_10 : w88.cell? ⟨gb165, 10, none⟩ = some (.int .i64 a0_10) := bc BK165 10; have hfz89_0 := bf BK165 0; have hfz89_1 := bf BK165 1; have hfz89_2 := bf BK165 2; have hfz89_3 := bf BK165 3; have hfz89_4 := bf BK165 4; have hfz89_5 := bf BK165 5; have hfz89_6 := bf BK165 6; have hfz89_7 := bf BK165 7; have hfz89_8 := bf BK165 8; have hfz89_9 := bf BK165 9; have hfz89_10 := bf BK165 10) | (go_at_call 77; (with_reducible refine (lectionaryref4_Begin.calls a0_3 a0_4 a0_5 false _ A76.out).mono ?_); rintro e w90 ⟨rfl, hb⟩; have n0_ := Aside0.mk (Kd.R_below (by (with_reducible repeat (first | apply Kd.R_alloc | apply Kd.R_drewN | apply Kd.R_drew)); exact HO175.out) hb); have n1_ := Aside0.mk (blk_below (g := gb165) (o := .cells #[.int .i64 a0_0, .int .i64 a0_1, .int .i64 a0_2, .int .i64 a0_3, .int .i64 a0_4, .int .i64 a0_5, .string a0_6, .slice A0_7 l0_7.length c0_7, .int .i64 a0_8, .int .i64 a0_9, .int .i64 a0_10] 31 (0, 0)) (by (with_reducible repeat (first | refine blk_drewN ?_ _ | refine blk_drew ?_ | refine blk_alloc ?_ _)); exact BK165.out) hb); have n2_ := Aside0.mk (below_step (by repeat (first | (with_reducible first | exact HB.out | apply below_alloc | apply pw_below_drewN | apply below_drew1 | refine below_set ?_ GE165.out) | exact HB.out)) hb); clear HO175; clear BK165; clear HB; have HO175 := n0_; have BK165 := n1_; have HB := n2_; clear n0_ n1_ n2_; (try clear hb); (try clear hb2); (try clear hk); (try clear hi)))
                go_meet
                case rel => exact ⟨_, (true), (by first | rfl | (simp; done) | (simp [*]; done)), H', ⟨by have := HJ48.out; first | omega | exact Nat.le_refl _⟩, ⟨by (with_reducible repeat (first | refine blk_drewN ?_ _ | refine blk_drew ?_ | refine blk_alloc ?_ _)); exact BK165.out⟩, ⟨by repeat (first | (with_reducible first | exact HB.out | apply below_alloc | apply pw_below_drewN | apply below_drew1 | refine below_set ?_ GE165.out) | exact HB.out)⟩⟩
              rw [if_neg c75] at H
              have c75b0 : ((t172.length : Int) == 0) = false := beq_eq_false_iff_ne.mpr c75
              have c75b1 : ((t172.length : Int) != 0) = true := bne_iff_ne.mpr c75
              have c75b2 : ¬ (t172 = []) := fun h_ => c75 (by rw [h_]; rfl)
              replace H := Option.bind_eq_some_iff.mp H
              obtain ⟨t179, A910, H⟩ := H
              replace H : (lectionaryref4_Op.j1 kj48 t179 a0_0 a0_1 a0_2 a0_3 a0_4 a0_5 a0_6 l0_7 a0_8 a0_9 a0_10) = some r := H
              have A91 := Aside0.mk A910
              clear A910
              have H' := Aside0.mk H
              clear H
              obtain ⟨Ao92, co92, eo92⟩ := Kd.R_slice HO175.out
              subst eo92
              have hcz93_0 : w69.cell? ⟨gb165, 0, none⟩ = some (.int .i64 a0_0) := bc BK165 0
              have hcz93_1 : w69.cell? ⟨gb165, 1, none⟩ = some (.int .i64 a0_1) := bc BK165 1
              have hcz93_2 : w69.cell? ⟨gb165, 2, none⟩ = some (.int .i64 a0_2) := bc BK165 2
              have hcz93_3 : w69.cell? ⟨gb165, 3, none⟩ = some (.int .i64 a0_3) := bc BK165 3
              have hcz93_4 : w69.cell? ⟨gb165, 4, none⟩ = some (.int .i64 a0_4) := bc BK165 4
              have hcz93_5 : w69.cell? ⟨gb165, 5, none⟩ = some (.int .i64 a0_5) := bc BK165 5
              have hcz93_6 : w69.cell? ⟨gb165, 6, none⟩ = some (.string a0_6) := bc BK165 6
              have hcz93_7 : w69.cell? ⟨gb165, 7, none⟩ = some (.slice A0_7 l0_7.length c0_7) := bc BK165 7
              have hcz93_8 : w69.cell? ⟨gb165, 8, none⟩ = some (.int .i64 a0_8) := bc BK165 8
              have hcz93_9 : w69.cell? ⟨gb165, 9, none⟩ = some (.int .i64 a0_9) := bc BK165 9
              have hcz93_10 : w69.cell? ⟨gb165, 10, none⟩ = some (.int .i64 a0_10) := bc BK165 10
              have hfz93_0 := bf BK165 0
              have hfz93_1 := bf BK165 1
              have hfz93_2 := bf BK165 2
              have hfz93_3 := bf BK165 3
              have hfz93_4 := bf BK165 4
              have hfz93_5 := bf BK165 5
              have hfz93_6 := bf BK165 6
              have hfz93_7 := bf BK165 7
              have hfz93_8 := bf BK165 8
              have hfz93_9 := bf BK165 9
              have hfz93_10 := bf BK165 10
              go_wp2_with (first | (go_at_call 68; (with_reducible refine (lectionaryref4_Elem.calls a0_3 a0_4 a0_5 true _ A73.out).mono ?_); rintro e w94 ⟨rfl, hb⟩; have n0_ := Aside0.mk (Kd.R_below (by (with_reducible repeat (first | apply Kd.R_alloc | apply Kd.R_drewN | apply Kd.R_drew)); exact HO175.out) hb); have n1_ := Aside0.mk (blk_below (g := gb165) (o := .cells #[.int .i64 a0_0, .int .i64 a0_1, .int .i64 a0_2, .int .i64 a0_3, .int .i64 a0_4, .int .i64 a0_5, .string a0_6, .slice A0_7 l0_7.length c0_7, .int .i64 a0_8, .int .i64 a0_9, .int .i64 a0_10] 31 (0, 0)) (by (with_reducible repeat (first | refine blk_drewN ?_ _ | refine blk_drew ?_ | refine blk_alloc ?_ _)); exact BK165.out) hb); have n2_ := Aside0.mk (below_step (by repeat (first | (with_reducible first | exact HB.out | apply below_alloc | apply pw_below_drewN | apply below_drew1 | refine below_set ?_ GE165.out) | exact HB.out)) hb); clear HO175; clear BK165; clear HB; have HO175 := n0_; have BK165 := n1_; have HB := n2_; clear n0_ n1_ n2_; (try clear hb); (try clear hb2); (try clear hk); (try clear hi); have hcz95_0 : w94.cell? ⟨gb165, 0, none⟩ = some (.int .i64 a0_0) := bc BK165 0; have hcz95_1 : w94.cell? ⟨gb165, 1, none⟩ = some (.int .i64 a0_1) := bc BK165 1; have hcz95_2 : w94.cell? ⟨gb165, 2, none⟩ = some (.int .i64 a0_2) := bc BK165 2; have hcz95_3 : w94.cell? ⟨gb165, 3, none⟩ = some (.int .i64 a0_3) := bc BK165 3; have hcz95_4 : w94.cell? ⟨gb165, 4, none⟩ = some (.int .i64 a0_4) := bc BK165 4; have hcz95_5 : w94.cell? ⟨gb165, 5, none⟩ = some (.int .i64 a0_5) := bc BK165 5; have hcz95_6 : w94.cell? ⟨gb165, 6, none⟩ = some (.string a0_6) := bc BK165 6; have hcz95_7 : w94.cell? ⟨gb165, 7, none⟩ = some (.slice A0_7 l0_7.length c0_7) := bc BK165 7; have hcz95_8 : w94.cell? ⟨gb165, 8, none⟩ = some (.int .i64 a0_8) := bc BK165 8; have hcz95_9 : w94.cell? ⟨gb165, 9, none⟩ = some (.int .i64 a0_9) := bc BK165 9; have hcz95_10 : w94.cell? ⟨gb165, 10, none⟩ = some (.int .i64 a0_10) := bc BK165 10; have hfz95_0 := bf BK165 0; have hfz95_1 := bf BK165 1; have hfz95_2 := bf BK165 2; have hfz95_3 := bf BK165 3; have hfz95_4 := bf BK165 4; have hfz95_5 := bf BK165 5; have hfz95_6 := bf BK165 6; have hfz95_7 := bf BK165 7; have hfz95_8 := bf BK165 8; have hfz95_9 := bf BK165 9; have hfz95_10 := bf BK165 10) | (go_at_call 114; (with_reducible refine (lectionaryref4_own.calls a0_0 a0_1 a0_2 a0_3 a0_4 a0_5 a0_6 _ _ l0_7 a0_8 a0_9 a0_10 a0_3 a0_4 a0_5 t179 _ ?side1 ?side2 A91.out).mono ?_); (case side1 => repeat (first | exact (Kd.C_below HR0_7.out HB.out) | (with_reducible refine Kd.C_alloc ?_ _) | (with_reducible refine Kd.C_drewN ?_ _) | (with_reducible refine Kd.C_drew ?_))); (case side2 => exact HC0_7.out); rintro e w96 ⟨rfl, hb⟩; have n0_ := Aside0.mk (Kd.R_below (by (with_reducible repeat (first | apply Kd.R_alloc | apply Kd.R_drewN | apply Kd.R_drew)); exact HO175.out) hb); have n1_ := Aside0.mk (blk_below (g := gb165) (o := .cells #[.int .i64 a0_0, .int .i64 a0_1, .int .i64 a0_2, .int .i64 a0_3, .int .i64 a0_4, .int .i64 a0_5, .string a0_6, .slice A0_7 l0_7.length c0_7, .int .i64 a0_8, .int .i64 a0_9, .int .i64 a0_10] 31 (0, 0)) (by (with_reducible repeat (first | refine blk_drewN ?_ _ | refine blk_drew ?_ | refine blk_alloc ?_ _)); exact BK165.out) hb); have n2_ := Aside0.mk (below_step (by repeat (first | (with_reducible first | exact HB.out | apply below_alloc | apply pw_below_drewN | apply below_drew1 | refine below_set ?_ GE165.out) | exact HB.out)) hb); clear HO175; clear BK165; clear HB; have HO175 := n0_; have BK165 := n1_; have HB := n2_; clear n0_ n1_ n2_; (try clear hb); (try clear hb2); (try clear hk); (try clear hi)))
              go_meet
              case rel => exact ⟨_, (t179), (by first | rfl | (simp; done) | (simp [*]; done)), H', ⟨by have := HJ48.out; first | omega | exact Nat.le_refl _⟩, ⟨by (with_reducible repeat (first | refine blk_drewN ?_ _ | refine blk_drew ?_ | refine blk_alloc ?_ _)); exact BK165.out⟩, ⟨by repeat (first | (with_reducible first | exact HB.out | apply below_alloc | apply pw_below_drewN | apply below_drew1 | refine below_set ?_ GE165.out) | exact HB.out)⟩⟩
            replace c74 := Bool.eq_false_iff.mpr c74
            subst c74
            have H1 : (lectionaryref4_Op.j1 kj48 true a0_0 a0_1 a0_2 a0_3 a0_4 a0_5 a0_6 l0_7 a0_8 a0_9 a0_10) = some r := by rw [if_neg (show ¬ (false = true) by decide)] at H; exact H
            clear H
            have H := H1
            clear H1
            have H' := Aside0.mk H
            clear H
            obtain ⟨Ao97, co97, eo97⟩ := Kd.R_slice HO175.out
            subst eo97
            have hcz98_0 : w69.cell? ⟨gb165, 0, none⟩ = some (.int .i64 a0_0) := bc BK165 0
            have hcz98_1 : w69.cell? ⟨gb165, 1, none⟩ = some (.int .i64 a0_1) := bc BK165 1
            have hcz98_2 : w69.cell? ⟨gb165, 2, none⟩ = some (.int .i64 a0_2) := bc BK165 2
            have hcz98_3 : w69.cell? ⟨gb165, 3, none⟩ = some (.int .i64 a0_3) := bc BK165 3
            have hcz98_4 : w69.cell? ⟨gb165, 4, none⟩ = some (.int .i64 a0_4) := bc BK165 4
            have hcz98_5 : w69.cell? ⟨gb165, 5, none⟩ = some (.int .i64 a0_5) := bc BK165 5
            have hcz98_6 : w69.cell? ⟨gb165, 6, none⟩ = some (.string a0_6) := bc BK165 6
            have hcz98_7 : w69.cell? ⟨gb165, 7, none⟩ = some (.slice A0_7 l0_7.length c0_7) := bc BK165 7
            have hcz98_8 : w69.cell? ⟨gb165, 8, none⟩ = some (.int .i64 a0_8) := bc BK165 8
            have hcz98_9 : w69.cell? ⟨gb165, 9, none⟩ = some (.int .i64 a0_9) := bc BK165 9
            have hcz98_10 : w69.cell? ⟨gb165, 10, none⟩ = some (.int .i64 a0_10) := bc BK165 10
            have hfz98_0 := bf BK165 0
            have hfz98_1 := bf BK165 1
            have hfz98_2 := bf BK165 2
            have hfz98_3 := bf BK165 3
            have hfz98_4 := bf BK165 4
            have hfz98_5 := bf BK165 5
            have hfz98_6 := bf BK165 6
            have hfz98_7 := bf BK165 7
            have hfz98_8 := bf BK165 8
            have hfz98_9 := bf BK165 9
            have hfz98_10 := bf BK165 10
            go_wp2_with (first | (go_at_call 68; (with_reducible refine (lectionaryref4_Elem.calls a0_3 a0_4 a0_5 false _ A73.out).mono ?_); rintro e w99 ⟨rfl, hb⟩; have n0_ := Aside0.mk (Kd.R_below (by (with_reducible repeat (first | apply Kd.R_alloc | apply Kd.R_drewN | apply Kd.R_drew)); exact HO175.out) hb); have n1_ := Aside0.mk (blk_below (g := gb165) (o := .cells #[.int .i64 a0_0, .int .i64 a0_1, .int .i64 a0_2, .int .i64 a0_3, .int .i64 a0_4, .int .i64 a0_5, .string a0_6, .slice A0_7 l0_7.length c0_7, .int .i64 a0_8, .int .i64 a0_9, .int .i64 a0_10] 31 (0, 0)) (by (with_reducible repeat (first | refine blk_drewN ?_ _ | refine blk_drew ?_ | refine blk_alloc ?_ _)); exact BK165.out) hb); have n2_ := Aside0.mk (below_step (by repeat (first | (with_reducible first | exact HB.out | apply below_alloc | apply pw_below_drewN | apply below_drew1 | refine below_set ?_ GE165.out) | exact HB.out)) hb); clear HO175; clear BK165; clear HB; have HO175 := n0_; have BK165 := n1_; have HB := n2_; clear n0_ n1_ n2_; (try clear hb); (try clear hb2); (try clear hk); (try clear hi)))
            go_meet
            case rel => exact ⟨_, (true), (by first | rfl | (simp; done) | (simp [*]; done)), H', ⟨by have := HJ48.out; first | omega | exact Nat.le_refl _⟩, ⟨by (with_reducible repeat (first | refine blk_drewN ?_ _ | refine blk_drew ?_ | refine blk_alloc ?_ _)); exact BK165.out⟩, ⟨by repeat (first | (with_reducible first | exact HB.out | apply below_alloc | apply pw_below_drewN | apply below_drew1 | refine below_set ?_ GE165.out) | exact HB.out)⟩⟩
          replace c70 := Bool.eq_false_iff.mpr c70
          subst c70
          have H1 : (lectionaryref4_Op.j1 kj48 true a0_0 a0_1 a0_2 a0_3 a0_4 a0_5 a0_6 l0_7 a0_8 a0_9 a0_10) = some r := by rw [if_neg (show ¬ (false = true) by decide)] at H; exact H
          clear H
          have H := H1
          clear H1
          have H' := Aside0.mk H
          clear H
          go_wp2
          go_meet
          case rel => exact ⟨_, (true), (by first | rfl | (simp; done) | (simp [*]; done)), H', ⟨by have := HJ48.out; first | omega | exact Nat.le_refl _⟩, ⟨by (with_reducible repeat (first | refine blk_drewN ?_ _ | refine blk_drew ?_ | refine blk_alloc ?_ _)); exact BK165.out⟩, ⟨by repeat (first | (with_reducible first | exact HB.out | apply below_alloc | apply pw_below_drewN | apply below_drew1 | refine below_set ?_ GE165.out) | exact HB.out)⟩⟩
        case rest =>
          clear HC67
          try clear c65; try clear hcz68_0; try clear hcz68_1; try clear hcz68_10; try clear hcz68_2; try clear hcz68_3; try clear hcz68_4; try clear hcz68_5; try clear hcz68_6; try clear hcz68_7; try clear hcz68_8; try clear hcz68_9; try clear hfz68_0; try clear hfz68_1; try clear hfz68_10; try clear hfz68_2; try clear hfz68_3; try clear hfz68_4; try clear hfz68_5; try clear hfz68_6; try clear hfz68_7; try clear hfz68_8; try clear hfz68_9
          obtain ⟨kq, x125_66, rfl, HA, HJ66, BK165, HB⟩ := hcut
          cases kq with
          | zero => exact absurd HA.out (by simp [lectionaryref4_Op.j1])
          | succ kj66 =>
            have H := HA.out
            clear HA
            simp only [lectionaryref4_Op.j1] at H
            by_cases c100 : x125_66 = true
            · subst c100
              have H1 : (some false) = some r := by rw [if_pos rfl] at H; exact H
              clear H
              have H := H1
              clear H1
              obtain rfl := Option.some.inj H
              go_wp2
              go_ret
              exact ⟨by first | rfl | (simp [errW_none, errW_some] <;> rfl) | (simp [*, errW_none, errW_some] <;> rfl), by repeat (first | (with_reducible first | exact HB.out | apply below_alloc | apply pw_below_drewN | apply below_drew1 | refine below_set ?_ GE165.out) | exact HB.out)⟩
            replace c100 := Bool.eq_false_iff.mpr c100
            subst c100
            have H1 : (lectionaryref4_Op.l0 kj66 0 a0_0 a0_1 a0_2 a0_3 a0_4 a0_5 a0_6 l0_7 a0_8 a0_9 a0_10) = some r := by rw [if_neg (show ¬ (false = true) by decide)] at H; exact H
            clear H
            have H := H1
            clear H1
            have H' := Aside0.mk H
            clear H
            go_wp2
            go_loopg [5] kj66 (fun kq v5 w' => ∃ (x5_3 : Int), v5 = .int .i64 x5_3 ∧ Aside0 (lectionaryref4_Op.l0 kq x5_3 a0_0 a0_1 a0_2 a0_3 a0_4 a0_5 a0_6 l0_7 a0_8 a0_9 a0_10 = some r) ∧ Aside0 (kq ≤ kj66) ∧ Aside0 (w'.heap[gb165]? = some (.cells #[.int .i64 a0_0, .int .i64 a0_1, .int .i64 a0_2, .int .i64 a0_3, .int .i64 a0_4, .int .i64 a0_5, .string a0_6, (.slice A0_7 l0_7.length c0_7), .int .i64 a0_8, .int .i64 a0_9, .int .i64 a0_10] 31 (0, 0))) ∧ Aside0 (Below w.heap.size w w'))
            case atStart => exact ⟨(0), (by first | rfl | (simp; done) | (simp [*]; done)), H', ⟨Nat.le_refl _⟩, ⟨by (with_reducible repeat (first | refine blk_drewN ?_ _ | refine blk_drew ?_ | refine blk_alloc ?_ _)); exact BK165.out⟩, ⟨by repeat (first | (with_reducible first | exact HB.out | apply below_alloc | apply pw_below_drewN | apply below_drew1 | refine below_set ?_ GE165.out) | exact HB.out)⟩⟩
            case round =>
              clear H'
              try clear c100
              obtain ⟨x5_3, rfl, HA, HK3, BK165, HB⟩ := hrel
              cases gk with
              | zero => exact absurd HA.out (by simp [lectionaryref4_Op.l0])
              | succ k3 =>
                have H := HA.out
                clear HA
                simp only [lectionaryref4_Op.l0] at H
                by_cases c101 : x5_3 < (l0_7.length : Int)
                · as_aux_lemma =>
                  rw [if_pos c101] at H
                  have c101b0 : decide (x5_3 < (l0_7.length : Int)) = true := decide_eq_true c101
                  clear c101
                  by_cases c102 : 0 ≤ x5_3
                  · as_aux_lemma =>
                    rw [if_pos c102] at H
                    have c102b0 : decide (0 ≤ x5_3) = true := decide_eq_true c102
                    clear c102
                    replace H := Option.bind_eq_some_iff.mp H
                    obtain ⟨t181, A1030, H⟩ := H
                    replace H : (if t181 = true then (some false) else ((lectionaryref4_Elem.f ((rd_Elem l0_7 x5_3).f0) ((rd_Elem l0_7 x5_3).f1) ((rd_Elem l0_7 x5_3).f2)).bind fun t183 => (if t183 = true then ((lectionaryref4_own.f a0_0 a0_1 a0_2 a0_3 a0_4 a0_5 a0_6 l0_7 a0_8 a0_9 a0_10 ((rd_Elem l0_7 x5_3).f0) ((rd_Elem l0_7 x5_3).f1) ((rd_Elem l0_7 x5_3).f2)).bind fun t185 => (if t185 = true then (some false) else (if x5_3 > 0 then (if 0 ≤ (wrap64 (x5_3 - 1)) then (if (wrap64 (x5_3 - 1)) < (l0_7.length : Int) then ((lectionaryref4_Less.f ((rd_Elem l0_7 (wrap64 (x5_3 - 1))).f0) ((rd_Elem l0_7 (wrap64 (x5_3 - 1))).f1) ((rd_Elem l0_7 (wrap64 (x5_3 - 1))).f2) ((rd_Elem l0_7 x5_3).f0) ((rd_Elem l0_7 x5_3).f1) ((rd_Elem l0_7 x5_3).f2)).bind fun t188 => (if t188 = true then (lectionaryref4_Op.l0 k3 (wrap64 (x5_3 + 1)) a0_0 a0_1 a0_2 a0_3 a0_4 a0_5 a0_6 l0_7 a0_8 a0_9 a0_10) else (some false))) else (none)) else (none)) else (lectionaryref4_Op.l0 k3 (wrap64 (x5_3 + 1)) a0_0 a0_1 a0_2 a0_3 a0_4 a0_5 a0_6 l0_7 a0_8 a0_9 a0_10)))) else (some false)))) = some r := H
                    have A103 := Aside0.mk A1030
                    clear A1030
                    by_cases c104 : t181 = true
                    · as_aux_lemma =>
                      subst c104
                      have H1 : (some false) = some r := by rw [if_pos rfl] at H; exact H
                      clear H
                      have H := H1
                      clear H1
                      obtain rfl := Option.some.inj H
                      have hcz105_0 : wr.cell? ⟨gb165, 0, none⟩ = some (.int .i64 a0_0) := bc BK165 0
                      have hcz105_1 : wr.cell? ⟨gb165, 1, none⟩ = some (.int .i64 a0_1) := bc BK165 1
                      have hcz105_2 : wr.cell? ⟨gb165, 2, none⟩ = some (.int .i64 a0_2) := bc BK165 2
                      have hcz105_3 : wr.cell? ⟨gb165, 3, none⟩ = some (.int .i64 a0_3) := bc BK165 3
                      have hcz105_4 : wr.cell? ⟨gb165, 4, none⟩ = some (.int .i64 a0_4) := bc BK165 4
                      have hcz105_5 : wr.cell? ⟨gb165, 5, none⟩ = some (.int .i64 a0_5) := bc BK165 5
                      have hcz105_6 : wr.cell? ⟨gb165, 6, none⟩ = some (.string a0_6) := bc BK165 6
                      have hcz105_7 : wr.cell? ⟨gb165, 7, none⟩ = some (.slice A0_7 l0_7.length c0_7) := bc BK165 7
                      have hcz105_8 : wr.cell? ⟨gb165, 8, none⟩ = some (.int .i64 a0_8) := bc BK165 8
                      have hcz105_9 : wr.cell? ⟨gb165, 9, none⟩ = some (.int .i64 a0_9) := bc BK165 9
                      have hcz105_10 : wr.cell? ⟨gb165, 10, none⟩ = some (.int .i64 a0_10) := bc BK165 10
                      have hfz105_0 := bf BK165 0
                      have hfz105_1 := bf BK165 1
                      have hfz105_2 := bf BK165 2
                      have hfz105_3 := bf BK165 3
                      have hfz105_4 := bf BK165 4
                      have hfz105_5 := bf BK165 5
                      have hfz105_6 := bf BK165 6
                      have hfz105_7 := bf BK165 7
                      have hfz105_8 := bf BK165 8
                      have hfz105_9 := bf BK165 9
                      have hfz105_10 := bf BK165 10
                      try go_wp2
                      have n0_ := Aside0.mk (blk_drew BK165.out)
                      have n1_ := Aside0.mk (below_drew1 HB.out)
                      clear BK165
                      clear HB
                      have BK165 := n0_
                      have HB := n1_
                      clear n0_ n1_
                      have p180 : 0 ≤ (x5_3 : Int) := of_decide_eq_true (by first | (with_reducible assumption) | assumption)
                      have q180 : x5_3 < (l0_7.length : Int) := of_decide_eq_true (by first | (with_reducible assumption) | assumption)
                      obtain ⟨ad180, e180, hx180_0, hx180_1, hx180_2⟩ := at_Elem HR0_7.out x5_3 p180 q180
                      have hw180_2 := hx180_2
                      have hw180_1 := hx180_1
                      have hw180_0 := hx180_0
                      cases e180
                      replace hx180_0 := cl HB hx180_0
                      replace hx180_1 := cl HB hx180_1
                      replace hx180_2 := cl HB hx180_2
                      replace p180 := eq_true p180
                      replace q180 := eq_true q180
                      refine stP (fun w' => w'.cell? ⟨gb165, 0, none⟩ = some (.int .i64 a0_0) ∧ w'.cell? ⟨gb165, 1, none⟩ = some (.int .i64 a0_1) ∧ w'.cell? ⟨gb165, 2, none⟩ = some (.int .i64 a0_2) ∧ w'.cell? ⟨gb165, 3, none⟩ = some (.int .i64 a0_3) ∧ w'.cell? ⟨gb165, 4, none⟩ = some (.int .i64 a0_4) ∧ w'.cell? ⟨gb165, 5, none⟩ = some (.int .i64 a0_5) ∧ w'.cell? ⟨gb165, 6, none⟩ = some (.string a0_6) ∧ w'.cell? ⟨gb165, 7, none⟩ = some (.slice (some ad180) l0_7.length c0_7) ∧ w'.cell? ⟨gb165, 8, none⟩ = some (.int .i64 a0_8) ∧ w'.cell? ⟨gb165, 9, none⟩ = some (.int .i64 a0_9) ∧ w'.cell? ⟨gb165, 10, none⟩ = some (.int .i64 a0_10) ∧ w'.cell? (ad180.add ((x5_3).toNat * 3)) = some (.int .i64 ((rd_Elem l0_7 x5_3).f0)) ∧ w'.cell? ⟨(ad180.add ((x5_3).toNat * 3)).block, (ad180.add ((x5_3).toNat * 3)).off + 1, none⟩ = some (.int .i64 ((rd_Elem l0_7 x5_3).f1)) ∧ w'.cell? ⟨(ad180.add ((x5_3).toNat * 3)).block, (ad180.add ((x5_3).toNat * 3)).off + 2, none⟩ = some (.int .i64 ((rd_Elem l0_7 x5_3).f2))) 43 ⟨bc BK165 0, bc BK165 1, bc BK165 2, bc BK165 3, bc BK165 4, bc BK165 5, bc BK165 6, bc BK165 7, bc BK165 8, bc BK165 9, bc BK165 10, (cl HB hw180_0), (cl HB hw180_1), (cl HB hw180_2)⟩ (h := fun hHeld => ?_); refine with_tabW lectionaryref4_Op.tab13 lectionaryref4_Op.bits13 (fun HT_ HW_ => ?_)
                      generalize wr.drew = w106 at BK165 HB hx180_0 hx180_1 hx180_2 hHeld ⊢
                      refine pu HT_ 0 133 1 (h := ?_)
                      refine pu HT_ 2 135 5 (h := ?_)
                      refine tk HT_ HW_ hHeld 1 134 7 (h := ?_)
                      refine pu HT_ 3 136 15 (h := ?_)
                      refine tk HT_ HW_ hHeld 4 137 31 (h := ?_)
                      refine on HT_ 5 (some 138) 63 (h := fun K hK => ?_)
                      refine goes_ Tryd.func77 (by kernel_rfl) rfl #[.agg #[.int .i64 ((rd_Elem l0_7 x5_3).f0), .int .i64 ((rd_Elem l0_7 x5_3).f1), .int .i64 ((rd_Elem l0_7 x5_3).f2)]] (by rfl) rfl rfl (by (try simp only [List.map_toArray, List.map_cons, List.map_nil]); first | done | rfl | (simp only [List.length_drop, List.length_take]; rfl)) ?_
                      with_reducible refine (lectionaryref4_Begin.calls ((rd_Elem l0_7 x5_3).f0) ((rd_Elem l0_7 x5_3).f1) ((rd_Elem l0_7 x5_3).f2) true _ A103.out).mono ?_
                      rintro e w107 ⟨rfl, hb⟩
                      refine ⟨_, rfl, ?_⟩
                      have n0_ := Aside0.mk (blk_below (g := gb165) (o := .cells #[.int .i64 a0_0, .int .i64 a0_1, .int .i64 a0_2, .int .i64 a0_3, .int .i64 a0_4, .int .i64 a0_5, .string a0_6, .slice (some ad180) l0_7.length c0_7, .int .i64 a0_8, .int .i64 a0_9, .int .i64 a0_10] 31 (0, 0)) (by (with_reducible repeat (first | refine blk_drewN ?_ _ | refine blk_drew ?_ | refine blk_alloc ?_ _)); exact BK165.out) hb)
                      have n1_ := Aside0.mk (below_step (by repeat (first | (with_reducible first | exact HB.out | apply below_alloc | apply pw_below_drewN | apply below_drew1 | refine below_set ?_ GE165.out) | exact HB.out)) hb)
                      clear BK165
                      clear HB
                      have BK165 := n0_
                      have HB := n1_
                      clear n0_ n1_
                      (try clear hb)
                      (try clear hb2)
                      (try clear hk)
                      (try clear hi)
                      refine hK.out _ _ ⟨bc BK165 0, bc BK165 1, bc BK165 2, bc BK165 3, bc BK165 4, bc BK165 5, bc BK165 6, bc BK165 7, bc BK165 8, bc BK165 9, bc BK165 10, (cl HB hw180_0), (cl HB hw180_1), (cl HB hw180_2)⟩ (fun hHeld => ?_)
                      clear hK K
                      refine nm (h := ?_)
                      refine pu HT_ 6 139 127 (h := ?_)
                      refine off HT_ 7 140 255 (h := ?_)
                      refine off HT_ 8 141 511 (h := ?_)
                      refine off HT_ 9 142 1023 (h := ?_)
                      refine off HT_ 10 143 2047 (h := ?_)
                      refine off HT_ 11 144 4095 (h := ?_)
                      refine off HT_ 12 145 8191 (h := ?_)
                      refine off HT_ 13 146 16383 (h := ?_)
                      refine pu HT_ 14 147 32767 (h := ?_)
                      refine pu HT_ 15 148 65535 (h := ?_)
                      refine off HT_ 16 149 131071 (h := ?_)
                      refine off HT_ 17 150 262143 (h := ?_)
                      refine off HT_ 18 151 524287 (h := ?_)
                      refine off HT_ 19 152 1048575 (h := ?_)
                      refine off HT_ 20 153 2097151 (h := ?_)
                      refine off HT_ 21 154 4194303 (h := ?_)
                      refine off HT_ 22 155 8388607 (h := ?_)
                      refine pu HT_ 23 156 16777215 (h := ?_)
                      refine pu HT_ 24 157 33554431 (h := ?_)
                      refine off HT_ 25 158 67108863 (h := ?_)
                      refine off HT_ 26 159 134217727 (h := ?_)
                      refine off HT_ 27 160 268435455 (h := ?_)
                      refine off HT_ 28 161 536870911 (h := ?_)
                      refine off HT_ 29 162 1073741823 (h := ?_)
                      refine off HT_ 30 163 2147483647 (h := ?_)
                      refine off HT_ 31 164 4294967295 (h := ?_)
                      refine off HT_ 32 165 8589934591 (h := ?_)
                      refine off HT_ 33 166 17179869183 (h := ?_)
                      refine off HT_ 34 167 34359738367 (h := ?_)
                      refine off HT_ 35 168 68719476735 (h := ?_)
                      refine off HT_ 36 169 137438953471 (h := ?_)
                      refine off HT_ 37 170 274877906943 (h := ?_)
                      refine off HT_ 38 171 549755813887 (h := ?_)
                      refine off HT_ 39 172 1099511627775 (h := ?_)
                      refine off HT_ 40 173 2199023255551 (h := ?_)
                      refine off HT_ 41 174 4398046511103 (h := ?_)
                      refine pu HT_ 42 175 8796093022207 (h := ?_)
                      refine dn HT_ (h := ?_)
                      try go_wp2
                      go_ret
                      exact ⟨by first | rfl | (simp [errW_none, errW_some] <;> rfl) | (simp [*, errW_none, errW_some] <;> rfl), by repeat (first | (with_reducible first | exact HB.out | apply below_alloc | apply pw_below_drewN | apply below_drew1 | refine below_set ?_ GE165.out) | exact HB.out)⟩
                    replace c104 := Bool.eq_false_iff.mpr c104
                    subst c104
                    have H1 : ((lectionaryref4_Elem.f ((rd_Elem l0_7 x5_3).f0) ((rd_Elem l0_7 x5_3).f1) ((rd_Elem l0_7 x5_3).f2)).bind fun t183 => (if t183 = true then ((lectionaryref4_own.f a0_0 a0_1 a0_2 a0_3 a0_4 a0_5 a0_6 l0_7 a0_8 a0_9 a0_10 ((rd_Elem l0_7 x5_3).f0) ((rd_Elem l0_7 x5_3).f1) ((rd_Elem l0_7 x5_3).f2)).bind fun t185 => (if t185 = true then (some false) else (if x5_3 > 0 then (if 0 ≤ (wrap64 (x5_3 - 1)) then (if (wrap64 (x5_3 - 1)) < (l0_7.length : Int) then ((lectionaryref4_Less.f ((rd_Elem l0_7 (wrap64 (x5_3 - 1))).f0) ((rd_Elem l0_7 (wrap64 (x5_3 - 1))).f1) ((rd_Elem l0_7 (wrap64 (x5_3 - 1))).f2) ((rd_Elem l0_7 x5_3).f0) ((rd_Elem l0_7 x5_3).f1) ((rd_Elem l0_7 x5_3).f2)).bind fun t188 => (if t188 = true then (lectionaryref4_Op.l0 k3 (wrap64 (x5_3 + 1)) a0_0 a0_1 a0_2 a0_3 a0_4 a0_5 a0_6 l0_7 a0_8 a0_9 a0_10) else (some false))) else (none)) else (none)) else (lectionaryref4_Op.l0 k3 (wrap64 (x5_3 + 1)) a0_0 a0_1 a0_2 a0_3 a0_4 a0_5 a0_6 l0_7 a0_8 a0_9 a0_10)))) else (some false))) = some r := by rw [if_neg (show ¬ (false = true) by decide)] at H; exact H
                    clear H
                    have H := H1
                    clear H1
                    replace H := Option.bind_eq_some_iff.mp H
                    obtain ⟨t183, A1080, H⟩ := H
                    replace H : (if t183 = true then ((lectionaryref4_own.f a0_0 a0_1 a0_2 a0_3 a0_4 a0_5 a0_6 l0_7 a0_8 a0_9 a0_10 ((rd_Elem l0_7 x5_3).f0) ((rd_Elem l0_7 x5_3).f1) ((rd_Elem l0_7 x5_3).f2)).bind fun t185 => (if t185 = true then (some false) else (if x5_3 > 0 then (if 0 ≤ (wrap64 (x5_3 - 1)) then (if (wrap64 (x5_3 - 1)) < (l0_7.length : Int) then ((lectionaryref4_Less.f ((rd_Elem l0_7 (wrap64 (x5_3 - 1))).f0) ((rd_Elem l0_7 (wrap64 (x5_3 - 1))).f1) ((rd_Elem l0_7 (wrap64 (x5_3 - 1))).f2) ((rd_Elem l0_7 x5_3).f0) ((rd_Elem l0_7 x5_3).f1) ((rd_Elem l0_7 x5_3).f2)).bind fun t188 => (if t188 = true then (lectionaryref4_Op.l0 k3 (wrap64 (x5_3 + 1)) a0_0 a0_1 a0_2 a0_3 a0_4 a0_5 a0_6 l0_7 a0_8 a0_9 a0_10) else (some false))) else (none)) else (none)) else (lectionaryref4_Op.l0 k3 (wrap64 (x5_3 + 1)) a0_0 a0_1 a0_2 a0_3 a0_4 a0_5 a0_6 l0_7 a0_8 a0_9 a0_10)))) else (some false)) = some r := H
                    have A108 := Aside0.mk A1080
                    clear A1080
                    by_cases c109 : t183 = true
                    · as_aux_lemma =>
                      subst c109
                      have H1 : ((lectionaryref4_own.f a0_0 a0_1 a0_2 a0_3 a0_4 a0_5 a0_6 l0_7 a0_8 a0_9 a0_10 ((rd_Elem l0_7 x5_3).f0) ((rd_Elem l0_7 x5_3).f1) ((rd_Elem l0_7 x5_3).f2)).bind fun t185 => (if t185 = true then (some false) else (if x5_3 > 0 then (if 0 ≤ (wrap64 (x5_3 - 1)) then (if (wrap64 (x5_3 - 1)) < (l0_7.length : Int) then ((lectionaryref4_Less.f ((rd_Elem l0_7 (wrap64 (x5_3 - 1))).f0) ((rd_Elem l0_7 (wrap64 (x5_3 - 1))).f1) ((rd_Elem l0_7 (wrap64 (x5_3 - 1))).f2) ((rd_Elem l0_7 x5_3).f0) ((rd_Elem l0_7 x5_3).f1) ((rd_Elem l0_7 x5_3).f2)).bind fun t188 => (if t188 = true then (lectionaryref4_Op.l0 k3 (wrap64 (x5_3 + 1)) a0_0 a0_1 a0_2 a0_3 a0_4 a0_5 a0_6 l0_7 a0_8 a0_9 a0_10) else (some false))) else (none)) else (none)) else (lectionaryref4_Op.l0 k3 (wrap64 (x5_3 + 1)) a0_0 a0_1 a0_2 a0_3 a0_4 a0_5 a0_6 l0_7 a0_8 a0_9 a0_10)))) = some r := by rw [if_pos rfl] at H; exact H
                      clear H
                      have H := H1
                      clear H1
                      replace H := Option.bind_eq_some_iff.mp H
                      obtain ⟨t185, A1100, H⟩ := H
                      replace H : (if t185 = true then (some false) else (if x5_3 > 0 then (if 0 ≤ (wrap64 (x5_3 - 1)) then (if (wrap64 (x5_3 - 1)) < (l0_7.length : Int) then ((lectionaryref4_Less.f ((rd_Elem l0_7 (wrap64 (x5_3 - 1))).f0) ((rd_Elem l0_7 (wrap64 (x5_3 - 1))).f1) ((rd_Elem l0_7 (wrap64 (x5_3 - 1))).f2) ((rd_Elem l0_7 x5_3).f0) ((rd_Elem l0_7 x5_3).f1) ((rd_Elem l0_7 x5_3).f2)).bind fun t188 => (if t188 = true then (lectionaryref4_Op.l0 k3 (wrap64 (x5_3 + 1)) a0_0 a0_1 a0_2 a0_3 a0_4 a0_5 a0_6 l0_7 a0_8 a0_9 a0_10) else (some false))) else (none)) else (none)) else (lectionaryref4_Op.l0 k3 (wrap64 (x5_3 + 1)) a0_0 a0_1 a0_2 a0_3 a0_4 a0_5 a0_6 l0_7 a0_8 a0_9 a0_10))) = some r := H
                      have A110 := Aside0.mk A1100
                      clear A1100
                      by_cases c111 : t185 = true
                      · as_aux_lemma =>
                        subst c111
                        have H1 : (some false) = some r := by rw [if_pos rfl] at H; exact H
                        clear H
                        have H := H1
                        clear H1
                        obtain rfl := Option.some.inj H
                        have hcz112_0 : wr.cell? ⟨gb165, 0, none⟩ = some (.int .i64 a0_0) := bc BK165 0
                        have hcz112_1 : wr.cell? ⟨gb165, 1, none⟩ = some (.int .i64 a0_1) := bc BK165 1
                        have hcz112_2 : wr.cell? ⟨gb165, 2, none⟩ = some (.int .i64 a0_2) := bc BK165 2
                        have hcz112_3 : wr.cell? ⟨gb165, 3, none⟩ = some (.int .i64 a0_3) := bc BK165 3
                        have hcz112_4 : wr.cell? ⟨gb165, 4, none⟩ = some (.int .i64 a0_4) := bc BK165 4
                        have hcz112_5 : wr.cell? ⟨gb165, 5, none⟩ = some (.int .i64 a0_5) := bc BK165 5
                        have hcz112_6 : wr.cell? ⟨gb165, 6, none⟩ = some (.string a0_6) := bc BK165 6
                        have hcz112_7 : wr.cell? ⟨gb165, 7, none⟩ = some (.slice A0_7 l0_7.length c0_7) := bc BK165 7
                        have hcz112_8 : wr.cell? ⟨gb165, 8, none⟩ = some (.int .i64 a0_8) := bc BK165 8
                        have hcz112_9 : wr.cell? ⟨gb165, 9, none⟩ = some (.int .i64 a0_9) := bc BK165 9
                        have hcz112_10 : wr.cell? ⟨gb165, 10, none⟩ = some (.int .i64 a0_10) := bc BK165 10
                        have hfz112_0 := bf BK165 0
                        have hfz112_1 := bf BK165 1
                        have hfz112_2 := bf BK165 2
                        have hfz112_3 := bf BK165 3
                        have hfz112_4 := bf BK165 4
                        have hfz112_5 := bf BK165 5
                        have hfz112_6 := bf BK165 6
                        have hfz112_7 := bf BK165 7
                        have hfz112_8 := bf BK165 8
                        have hfz112_9 := bf BK165 9
                        have hfz112_10 := bf BK165 10
                        try go_wp2
                        have n0_ := Aside0.mk (blk_drew BK165.out)
                        have n1_ := Aside0.mk (below_drew1 HB.out)
                        clear BK165
                        clear HB
                        have BK165 := n0_
                        have HB := n1_
                        clear n0_ n1_
                        have p180 : 0 ≤ (x5_3 : Int) := of_decide_eq_true (by first | (with_reducible assumption) | assumption)
                        have q180 : x5_3 < (l0_7.length : Int) := of_decide_eq_true (by first | (with_reducible assumption) | assumption)
                        obtain ⟨ad180, e180, hx180_0, hx180_1, hx180_2⟩ := at_Elem HR0_7.out x5_3 p180 q180
                        have hw180_2 := hx180_2
                        have hw180_1 := hx180_1
                        have hw180_0 := hx180_0
                        cases e180
                        replace hx180_0 := cl HB hx180_0
                        replace hx180_1 := cl HB hx180_1
                        replace hx180_2 := cl HB hx180_2
                        replace p180 := eq_true p180
                        replace q180 := eq_true q180
                        have p182 : 0 ≤ (x5_3 : Int) := of_decide_eq_true (by first | (with_reducible assumption) | assumption)
                        have q182 : x5_3 < (l0_7.length : Int) := of_decide_eq_true (by first | (with_reducible assumption) | assumption)
                        obtain ⟨ad182, e182, hx182_0, hx182_1, hx182_2⟩ := at_Elem HR0_7.out x5_3 p182 q182
                        have hw182_2 := hx182_2
                        have hw182_1 := hx182_1
                        have hw182_0 := hx182_0
                        obtain rfl : ad180 = ad182 := (by injection e182)
                        replace hx182_0 := cl HB hx182_0
                        replace hx182_1 := cl HB hx182_1
                        replace hx182_2 := cl HB hx182_2
                        replace p182 := eq_true p182
                        replace q182 := eq_true q182
                        have p184 : 0 ≤ (x5_3 : Int) := of_decide_eq_true (by first | (with_reducible assumption) | assumption)
                        have q184 : x5_3 < (l0_7.length : Int) := of_decide_eq_true (by first | (with_reducible assumption) | assumption)
                        obtain ⟨ad184, e184, hx184_0, hx184_1, hx184_2⟩ := at_Elem HR0_7.out x5_3 p184 q184
                        have hw184_2 := hx184_2
                        have hw184_1 := hx184_1
                        have hw184_0 := hx184_0
                        obtain rfl : ad180 = ad184 := (by injection e184)
                        replace hx184_0 := cl HB hx184_0
                        replace hx184_1 := cl HB hx184_1
                        replace hx184_2 := cl HB hx184_2
                        replace p184 := eq_true p184
                        replace q184 := eq_true q184
                        refine stP (fun w' => w'.cell? ⟨gb165, 0, none⟩ = some (.int .i64 a0_0) ∧ w'.cell? ⟨gb165, 1, none⟩ = some (.int .i64 a0_1) ∧ w'.cell? ⟨gb165, 2, none⟩ = some (.int .i64 a0_2) ∧ w'.cell? ⟨gb165, 3, none⟩ = some (.int .i64 a0_3) ∧ w'.cell? ⟨gb165, 4, none⟩ = some (.int .i64 a0_4) ∧ w'.cell? ⟨gb165, 5, none⟩ = some (.int .i64 a0_5) ∧ w'.cell? ⟨gb165, 6, none⟩ = some (.string a0_6) ∧ w'.cell? ⟨gb165, 7, none⟩ = some (.slice (some ad180) l0_7.length c0_7) ∧ w'.cell? ⟨gb165, 8, none⟩ = some (.int .i64 a0_8) ∧ w'.cell? ⟨gb165, 9, none⟩ = some (.int .i64 a0_9) ∧ w'.cell? ⟨gb165, 10, none⟩ = some (.int .i64 a0_10) ∧ w'.cell? (ad180.add ((x5_3).toNat * 3)) = some (.int .i64 ((rd_Elem l0_7 x5_3).f0)) ∧ w'.cell? ⟨(ad180.add ((x5_3).toNat * 3)).block, (ad180.add ((x5_3).toNat * 3)).off + 1, none⟩ = some (.int .i64 ((rd_Elem l0_7 x5_3).f1)) ∧ w'.cell? ⟨(ad180.add ((x5_3).toNat * 3)).block, (ad180.add ((x5_3).toNat * 3)).off + 2, none⟩ = some (.int .i64 ((rd_Elem l0_7 x5_3).f2)) ∧ w'.cell? (ad180.add ((x5_3).toNat * 3)) = some (.int .i64 ((rd_Elem l0_7 x5_3).f0)) ∧ w'.cell? ⟨(ad180.add ((x5_3).toNat * 3)).block, (ad180.add ((x5_3).toNat * 3)).off + 1, none⟩ = some (.int .i64 ((rd_Elem l0_7 x5_3).f1)) ∧ w'.cell? ⟨(ad180.add ((x5_3).toNat * 3)).block, (ad180.add ((x5_3).toNat * 3)).off + 2, none⟩ = some (.int .i64 ((rd_Elem l0_7 x5_3).f2)) ∧ w'.cell? (ad180.add ((x5_3).toNat * 3)) = some (.int .i64 ((rd_Elem l0_7 x5_3).f0)) ∧ w'.cell? ⟨(ad180.add ((x5_3).toNat * 3)).block, (ad180.add ((x5_3).toNat * 3)).off + 1, none⟩ = some (.int .i64 ((rd_Elem l0_7 x5_3).f1)) ∧ w'.cell? ⟨(ad180.add ((x5_3).toNat * 3)).block, (ad180.add ((x5_3).toNat * 3)).off + 2, none⟩ = some (.int .i64 ((rd_Elem l0_7 x5_3).f2))) 43 ⟨bc BK165 0, bc BK165 1, bc BK165 2, bc BK165 3, bc BK165 4, bc BK165 5, bc BK165 6, bc BK165 7, bc BK165 8, bc BK165 9, bc BK165 10, (cl HB hw180_0), (cl HB hw180_1), (cl HB hw180_2), (cl HB hw182_0), (cl HB hw182_1), (cl HB hw182_2), (cl HB hw184_0), (cl HB hw184_1), (cl HB hw184_2)⟩ (h := fun hHeld => ?_); refine with_tabW lectionaryref4_Op.tab13 lectionaryref4_Op.bits13 (fun HT_ HW_ => ?_)
                        generalize wr.drew = w113 at BK165 HB hx180_0 hx180_1 hx180_2 hx182_0 hx182_1 hx182_2 hx184_0 hx184_1 hx184_2 hHeld ⊢
                        refine pu HT_ 0 133 1 (h := ?_)
                        refine pu HT_ 2 135 5 (h := ?_)
                        refine tk HT_ HW_ hHeld 1 134 7 (h := ?_)
                        refine pu HT_ 3 136 15 (h := ?_)
                        refine tk HT_ HW_ hHeld 4 137 31 (h := ?_)
                        refine on HT_ 5 (some 138) 63 (h := fun K hK => ?_)
                        refine goes_ Tryd.func77 (by kernel_rfl) rfl #[.agg #[.int .i64 ((rd_Elem l0_7 x5_3).f0), .int .i64 ((rd_Elem l0_7 x5_3).f1), .int .i64 ((rd_Elem l0_7 x5_3).f2)]] (by rfl) rfl rfl (by (try simp only [List.map_toArray, List.map_cons, List.map_nil]); first | done | rfl | (simp only [List.length_drop, List.length_take]; rfl)) ?_
                        with_reducible refine (lectionaryref4_Begin.calls ((rd_Elem l0_7 x5_3).f0) ((rd_Elem l0_7 x5_3).f1) ((rd_Elem l0_7 x5_3).f2) false _ A103.out).mono ?_
                        rintro e w114 ⟨rfl, hb⟩
                        refine ⟨_, rfl, ?_⟩
                        have n0_ := Aside0.mk (blk_below (g := gb165) (o := .cells #[.int .i64 a0_0, .int .i64 a0_1, .int .i64 a0_2, .int .i64 a0_3, .int .i64 a0_4, .int .i64 a0_5, .string a0_6, .slice (some ad180) l0_7.length c0_7, .int .i64 a0_8, .int .i64 a0_9, .int .i64 a0_10] 31 (0, 0)) (by (with_reducible repeat (first | refine blk_drewN ?_ _ | refine blk_drew ?_ | refine blk_alloc ?_ _)); exact BK165.out) hb)
                        have n1_ := Aside0.mk (below_step (by repeat (first | (with_reducible first | exact HB.out | apply below_alloc | apply pw_below_drewN | apply below_drew1 | refine below_set ?_ GE165.out) | exact HB.out)) hb)
                        clear BK165
                        clear HB
                        have BK165 := n0_
                        have HB := n1_
                        clear n0_ n1_
                        (try clear hb)
                        (try clear hb2)
                        (try clear hk)
                        (try clear hi)
                        refine hK.out _ _ ⟨bc BK165 0, bc BK165 1, bc BK165 2, bc BK165 3, bc BK165 4, bc BK165 5, bc BK165 6, bc BK165 7, bc BK165 8, bc BK165 9, bc BK165 10, (cl HB hw180_0), (cl HB hw180_1), (cl HB hw180_2), (cl HB hw182_0), (cl HB hw182_1), (cl HB hw182_2), (cl HB hw184_0), (cl HB hw184_1), (cl HB hw184_2)⟩ (fun hHeld => ?_)
                        clear hK K
                        refine nm (h := ?_)
                        refine pu HT_ 6 139 127 (h := ?_)
                        refine pu HT_ 7 140 255 (h := ?_)
                        refine pu HT_ 9 142 767 (h := ?_)
                        refine tk HT_ HW_ hHeld 8 141 1023 (h := ?_)
                        refine pu HT_ 10 143 2047 (h := ?_)
                        refine tk HT_ HW_ hHeld 11 144 4095 (h := ?_)
                        refine on HT_ 12 (some 145) 8191 (h := fun K hK => ?_)
                        refine goes_ Tryd.func68 (by kernel_rfl) rfl #[.agg #[.int .i64 ((rd_Elem l0_7 x5_3).f0), .int .i64 ((rd_Elem l0_7 x5_3).f1), .int .i64 ((rd_Elem l0_7 x5_3).f2)]] (by rfl) rfl rfl (by (try simp only [List.map_toArray, List.map_cons, List.map_nil]); first | done | rfl | (simp only [List.length_drop, List.length_take]; rfl)) ?_
                        with_reducible refine (lectionaryref4_Elem.calls ((rd_Elem l0_7 x5_3).f0) ((rd_Elem l0_7 x5_3).f1) ((rd_Elem l0_7 x5_3).f2) true _ A108.out).mono ?_
                        rintro e w115 ⟨rfl, hb⟩
                        refine ⟨_, rfl, ?_⟩
                        have n0_ := Aside0.mk (blk_below (g := gb165) (o := .cells #[.int .i64 a0_0, .int .i64 a0_1, .int .i64 a0_2, .int .i64 a0_3, .int .i64 a0_4, .int .i64 a0_5, .string a0_6, .slice (some ad180) l0_7.length c0_7, .int .i64 a0_8, .int .i64 a0_9, .int .i64 a0_10] 31 (0, 0)) (by (with_reducible repeat (first | refine blk_drewN ?_ _ | refine blk_drew ?_ | refine blk_alloc ?_ _)); exact BK165.out) hb)
                        have n1_ := Aside0.mk (below_step (by repeat (first | (with_reducible first | exact HB.out | apply below_alloc | apply pw_below_drewN | apply below_drew1 | refine below_set ?_ GE165.out) | exact HB.out)) hb)
                        clear BK165
                        clear HB
                        have BK165 := n0_
                        have HB := n1_
                        clear n0_ n1_
                        (try clear hb)
                        (try clear hb2)
                        (try clear hk)
                        (try clear hi)
                        refine hK.out _ _ ⟨bc BK165 0, bc BK165 1, bc BK165 2, bc BK165 3, bc BK165 4, bc BK165 5, bc BK165 6, bc BK165 7, bc BK165 8, bc BK165 9, bc BK165 10, (cl HB hw180_0), (cl HB hw180_1), (cl HB hw180_2), (cl HB hw182_0), (cl HB hw182_1), (cl HB hw182_2), (cl HB hw184_0), (cl HB hw184_1), (cl HB hw184_2)⟩ (fun hHeld => ?_)
                        clear hK K
                        refine nm (h := ?_)
                        refine pu HT_ 13 146 16383 (h := ?_)
                        refine pu HT_ 14 147 32767 (h := ?_)
                        refine pu HT_ 15 148 65535 (h := ?_)
                        refine pu HT_ 17 150 196607 (h := ?_)
                        refine pu HT_ 19 152 720895 (h := ?_)
                        refine tk HT_ HW_ hHeld 16 149 786431 (h := ?_)
                        refine tk HT_ HW_ hHeld 18 151 1048575 (h := ?_)
                        refine pu HT_ 20 153 2097151 (h := ?_)
                        refine tk HT_ HW_ hHeld 21 154 4194303 (h := ?_)
                        refine on HT_ 22 (some 155) 8388607 (h := fun K hK => ?_)
                        refine goes_ Tryd.func114 (by kernel_rfl) rfl #[.agg #[.int .i64 a0_0, .int .i64 a0_1, .int .i64 a0_2, .int .i64 a0_3, .int .i64 a0_4, .int .i64 a0_5, .string a0_6, .slice (some ad180) l0_7.length c0_7, .int .i64 a0_8, .int .i64 a0_9, .int .i64 a0_10], .agg #[.int .i64 ((rd_Elem l0_7 x5_3).f0), .int .i64 ((rd_Elem l0_7 x5_3).f1), .int .i64 ((rd_Elem l0_7 x5_3).f2)]] (by rfl) rfl rfl (by (try simp only [List.map_toArray, List.map_cons, List.map_nil]); first | done | rfl | (simp only [List.length_drop, List.length_take]; rfl)) ?_
                        with_reducible refine (lectionaryref4_own.calls a0_0 a0_1 a0_2 a0_3 a0_4 a0_5 a0_6 _ _ l0_7 a0_8 a0_9 a0_10 ((rd_Elem l0_7 x5_3).f0) ((rd_Elem l0_7 x5_3).f1) ((rd_Elem l0_7 x5_3).f2) true _ ?side1 ?side2 A110.out).mono ?_
                        (case side1 => repeat (first | exact (Kd.C_below HR0_7.out HB.out) | (with_reducible refine Kd.C_alloc ?_ _) | (with_reducible refine Kd.C_drewN ?_ _) | (with_reducible refine Kd.C_drew ?_)))
                        (case side2 => exact HC0_7.out)
                        rintro e w116 ⟨rfl, hb⟩
                        refine ⟨_, rfl, ?_⟩
                        have n0_ := Aside0.mk (blk_below (g := gb165) (o := .cells #[.int .i64 a0_0, .int .i64 a0_1, .int .i64 a0_2, .int .i64 a0_3, .int .i64 a0_4, .int .i64 a0_5, .string a0_6, .slice (some ad180) l0_7.length c0_7, .int .i64 a0_8, .int .i64 a0_9, .int .i64 a0_10] 31 (0, 0)) (by (with_reducible repeat (first | refine blk_drewN ?_ _ | refine blk_drew ?_ | refine blk_alloc ?_ _)); exact BK165.out) hb)
                        have n1_ := Aside0.mk (below_step (by repeat (first | (with_reducible first | exact HB.out | apply below_alloc | apply pw_below_drewN | apply below_drew1 | refine below_set ?_ GE165.out) | exact HB.out)) hb)
                        clear BK165
                        clear HB
                        have BK165 := n0_
                        have HB := n1_
                        clear n0_ n1_
                        (try clear hb)
                        (try clear hb2)
                        (try clear hk)
                        (try clear hi)
                        refine hK.out _ _ ⟨bc BK165 0, bc BK165 1, bc BK165 2, bc BK165 3, bc BK165 4, bc BK165 5, bc BK165 6, bc BK165 7, bc BK165 8, bc BK165 9, bc BK165 10, (cl HB hw180_0), (cl HB hw180_1), (cl HB hw180_2), (cl HB hw182_0), (cl HB hw182_1), (cl HB hw182_2), (cl HB hw184_0), (cl HB hw184_1), (cl HB hw184_2)⟩ (fun hHeld => ?_)
                        clear hK K
                        refine nm (h := ?_)
                        refine pu HT_ 23 156 16777215 (h := ?_)
                        refine pu HT_ 24 157 33554431 (h := ?_)
                        refine off HT_ 25 158 67108863 (h := ?_)
                        refine off HT_ 26 159 134217727 (h := ?_)
                        refine off HT_ 27 160 268435455 (h := ?_)
                        refine off HT_ 28 161 536870911 (h := ?_)
                        refine off HT_ 29 162 1073741823 (h := ?_)
                        refine off HT_ 30 163 2147483647 (h := ?_)
                        refine off HT_ 31 164 4294967295 (h := ?_)
                        refine off HT_ 32 165 8589934591 (h := ?_)
                        refine off HT_ 33 166 17179869183 (h := ?_)
                        refine off HT_ 34 167 34359738367 (h := ?_)
                        refine off HT_ 35 168 68719476735 (h := ?_)
                        refine off HT_ 36 169 137438953471 (h := ?_)
                        refine off HT_ 37 170 274877906943 (h := ?_)
                        refine off HT_ 38 171 549755813887 (h := ?_)
                        refine off HT_ 39 172 1099511627775 (h := ?_)
                        refine off HT_ 40 173 2199023255551 (h := ?_)
                        refine off HT_ 41 174 4398046511103 (h := ?_)
                        refine pu HT_ 42 175 8796093022207 (h := ?_)
                        refine dn HT_ (h := ?_)
                        try go_wp2
                        go_ret
                        exact ⟨by first | rfl | (simp [errW_none, errW_some] <;> rfl) | (simp [*, errW_none, errW_some] <;> rfl), by repeat (first | (with_reducible first | exact HB.out | apply below_alloc | apply pw_below_drewN | apply below_drew1 | refine below_set ?_ GE165.out) | exact HB.out)⟩
                      replace c111 := Bool.eq_false_iff.mpr c111
                      subst c111
                      have H1 : (if x5_3 > 0 then (if 0 ≤ (wrap64 (x5_3 - 1)) then (if (wrap64 (x5_3 - 1)) < (l0_7.length : Int) then ((lectionaryref4_Less.f ((rd_Elem l0_7 (wrap64 (x5_3 - 1))).f0) ((rd_Elem l0_7 (wrap64 (x5_3 - 1))).f1) ((rd_Elem l0_7 (wrap64 (x5_3 - 1))).f2) ((rd_Elem l0_7 x5_3).f0) ((rd_Elem l0_7 x5_3).f1) ((rd_Elem l0_7 x5_3).f2)).bind fun t188 => (if t188 = true then (lectionaryref4_Op.l0 k3 (wrap64 (x5_3 + 1)) a0_0 a0_1 a0_2 a0_3 a0_4 a0_5 a0_6 l0_7 a0_8 a0_9 a0_10) else (some false))) else (none)) else (none)) else (lectionaryref4_Op.l0 k3 (wrap64 (x5_3 + 1)) a0_0 a0_1 a0_2 a0_3 a0_4 a0_5 a0_6 l0_7 a0_8 a0_9 a0_10)) = some r := by rw [if_neg (show ¬ (false = true) by decide)] at H; exact H
                      clear H
                      have H := H1
                      clear H1
                      by_cases c117 : x5_3 > 0
                      · as_aux_lemma =>
                        rw [if_pos c117] at H
                        have c117b0 : decide (0 < x5_3) = true := decide_eq_true c117
                        clear c117
                        obtain ⟨ji118, hji118⟩ : ∃ j_ : Int, (wrap64 (x5_3 - 1)) = j_ := ⟨_, rfl⟩
                        replace H : (if 0 ≤ (ji118) then (if (ji118) < (l0_7.length : Int) then ((lectionaryref4_Less.f ((rd_Elem l0_7 (ji118)).f0) ((rd_Elem l0_7 (ji118)).f1) ((rd_Elem l0_7 (ji118)).f2) ((rd_Elem l0_7 x5_3).f0) ((rd_Elem l0_7 x5_3).f1) ((rd_Elem l0_7 x5_3).f2)).bind fun t188 => (if t188 = true then (lectionaryref4_Op.l0 k3 (wrap64 (x5_3 + 1)) a0_0 a0_1 a0_2 a0_3 a0_4 a0_5 a0_6 l0_7 a0_8 a0_9 a0_10) else (some false))) else (none)) else (none)) = some r := by first | (rw [hji118] at H; exact H) | (simp only [hji118] at H ⊢; exact H)
                        (try rw [hji118] at A103)
                        (try rw [hji118] at A108)
                        (try rw [hji118] at A110)
                        have hji118w : (IntKind.i64.wrap (x5_3 - 1)) = ji118 := (i64_w _).trans hji118
                        by_cases c119 : 0 ≤ (ji118)
                        · as_aux_lemma =>
                          rw [if_pos c119] at H
                          have c119b0 : decide (0 ≤ (ji118)) = true := decide_eq_true c119
                          clear c119
                          by_cases c120 : (ji118) < (l0_7.length : Int)
                          · as_aux_lemma =>
                            rw [if_pos c120] at H
                            have c120b0 : decide ((ji118) < (l0_7.length : Int)) = true := decide_eq_true c120
                            clear c120
                            replace H := Option.bind_eq_some_iff.mp H
                            obtain ⟨t188, A1210, H⟩ := H
                            replace H : (if t188 = true then (lectionaryref4_Op.l0 k3 (wrap64 (x5_3 + 1)) a0_0 a0_1 a0_2 a0_3 a0_4 a0_5 a0_6 l0_7 a0_8 a0_9 a0_10) else (some false)) = some r := H
                            have A121 := Aside0.mk A1210
                            clear A1210
                            by_cases c122 : t188 = true
                            · as_aux_lemma =>
                              subst c122
                              have H1 : (lectionaryref4_Op.l0 k3 (wrap64 (x5_3 + 1)) a0_0 a0_1 a0_2 a0_3 a0_4 a0_5 a0_6 l0_7 a0_8 a0_9 a0_10) = some r := by rw [if_pos rfl] at H; exact H
                              clear H
                              have H := H1
                              clear H1
                              have H' := Aside0.mk H
                              clear H
                              have hcz123_0 : wr.cell? ⟨gb165, 0, none⟩ = some (.int .i64 a0_0) := bc BK165 0
                              have hcz123_1 : wr.cell? ⟨gb165, 1, none⟩ = some (.int .i64 a0_1) := bc BK165 1
                              have hcz123_2 : wr.cell? ⟨gb165, 2, none⟩ = some (.int .i64 a0_2) := bc BK165 2
                              have hcz123_3 : wr.cell? ⟨gb165, 3, none⟩ = some (.int .i64 a0_3) := bc BK165 3
                              have hcz123_4 : wr.cell? ⟨gb165, 4, none⟩ = some (.int .i64 a0_4) := bc BK165 4
                              have hcz123_5 : wr.cell? ⟨gb165, 5, none⟩ = some (.int .i64 a0_5) := bc BK165 5
                              have hcz123_6 : wr.cell? ⟨gb165, 6, none⟩ = some (.string a0_6) := bc BK165 6
                              have hcz123_7 : wr.cell? ⟨gb165, 7, none⟩ = some (.slice A0_7 l0_7.length c0_7) := bc BK165 7
                              have hcz123_8 : wr.cell? ⟨gb165, 8, none⟩ = some (.int .i64 a0_8) := bc BK165 8
                              have hcz123_9 : wr.cell? ⟨gb165, 9, none⟩ = some (.int .i64 a0_9) := bc BK165 9
                              have hcz123_10 : wr.cell? ⟨gb165, 10, none⟩ = some (.int .i64 a0_10) := bc BK165 10
                              have hfz123_0 := bf BK165 0
                              have hfz123_1 := bf BK165 1
                              have hfz123_2 := bf BK165 2
                              have hfz123_3 := bf BK165 3
                              have hfz123_4 := bf BK165 4
                              have hfz123_5 := bf BK165 5
                              have hfz123_6 := bf BK165 6
                              have hfz123_7 := bf BK165 7
                              have hfz123_8 := bf BK165 8
                              have hfz123_9 := bf BK165 9
                              have hfz123_10 := bf BK165 10
                              try go_wp2
                              have n0_ := Aside0.mk (blk_drew BK165.out)
                              have n1_ := Aside0.mk (below_drew1 HB.out)
                              clear BK165
                              clear HB
                              have BK165 := n0_
                              have HB := n1_
                              clear n0_ n1_
                              have p180 : 0 ≤ (x5_3 : Int) := of_decide_eq_true (by first | (with_reducible assumption) | assumption)
                              have q180 : x5_3 < (l0_7.length : Int) := of_decide_eq_true (by first | (with_reducible assumption) | assumption)
                              obtain ⟨ad180, e180, hx180_0, hx180_1, hx180_2⟩ := at_Elem HR0_7.out x5_3 p180 q180
                              have hw180_2 := hx180_2
                              have hw180_1 := hx180_1
                              have hw180_0 := hx180_0
                              cases e180
                              replace hx180_0 := cl HB hx180_0
                              replace hx180_1 := cl HB hx180_1
                              replace hx180_2 := cl HB hx180_2
                              replace p180 := eq_true p180
                              replace q180 := eq_true q180
                              have p182 : 0 ≤ (x5_3 : Int) := of_decide_eq_true (by first | (with_reducible assumption) | assumption)
                              have q182 : x5_3 < (l0_7.length : Int) := of_decide_eq_true (by first | (with_reducible assumption) | assumption)
                              obtain ⟨ad182, e182, hx182_0, hx182_1, hx182_2⟩ := at_Elem HR0_7.out x5_3 p182 q182
                              have hw182_2 := hx182_2
                              have hw182_1 := hx182_1
                              have hw182_0 := hx182_0
                              obtain rfl : ad180 = ad182 := (by injection e182)
                              replace hx182_0 := cl HB hx182_0
                              replace hx182_1 := cl HB hx182_1
                              replace hx182_2 := cl HB hx182_2
                              replace p182 := eq_true p182
                              replace q182 := eq_true q182
                              have p184 : 0 ≤ (x5_3 : Int) := of_decide_eq_true (by first | (with_reducible assumption) | assumption)
                              have q184 : x5_3 < (l0_7.length : Int) := of_decide_eq_true (by first | (with_reducible assumption) | assumption)
                              obtain ⟨ad184, e184, hx184_0, hx184_1, hx184_2⟩ := at_Elem HR0_7.out x5_3 p184 q184
                              have hw184_2 := hx184_2
                              have hw184_1 := hx184_1
                              have hw184_0 := hx184_0
                              obtain rfl : ad180 = ad184 := (by injection e184)
                              replace hx184_0 := cl HB hx184_0
                              replace hx184_1 := cl HB hx184_1
                              replace hx184_2 := cl HB hx184_2
                              replace p184 := eq_true p184
                              replace q184 := eq_true q184
                              have p186 : 0 ≤ ((ji118) : Int) := of_decide_eq_true (by first | (with_reducible assumption) | assumption)
                              have q186 : (ji118) < (l0_7.length : Int) := of_decide_eq_true (by first | (with_reducible assumption) | assumption)
                              obtain ⟨ad186, e186, hx186_0, hx186_1, hx186_2⟩ := at_Elem HR0_7.out (ji118) p186 q186
                              have hw186_2 := hx186_2
                              have hw186_1 := hx186_1
                              have hw186_0 := hx186_0
                              obtain rfl : ad180 = ad186 := (by injection e186)
                              replace hx186_0 := cl HB hx186_0
                              replace hx186_1 := cl HB hx186_1
                              replace hx186_2 := cl HB hx186_2
                              replace p186 := eq_true p186
                              replace q186 := eq_true q186
                              have p187 : 0 ≤ (x5_3 : Int) := of_decide_eq_true (by first | (with_reducible assumption) | assumption)
                              have q187 : x5_3 < (l0_7.length : Int) := of_decide_eq_true (by first | (with_reducible assumption) | assumption)
                              obtain ⟨ad187, e187, hx187_0, hx187_1, hx187_2⟩ := at_Elem HR0_7.out x5_3 p187 q187
                              have hw187_2 := hx187_2
                              have hw187_1 := hx187_1
                              have hw187_0 := hx187_0
                              obtain rfl : ad180 = ad187 := (by injection e187)
                              replace hx187_0 := cl HB hx187_0
                              replace hx187_1 := cl HB hx187_1
                              replace hx187_2 := cl HB hx187_2
                              replace p187 := eq_true p187
                              replace q187 := eq_true q187
                              refine stP (fun w' => w'.cell? ⟨gb165, 0, none⟩ = some (.int .i64 a0_0) ∧ w'.cell? ⟨gb165, 1, none⟩ = some (.int .i64 a0_1) ∧ w'.cell? ⟨gb165, 2, none⟩ = some (.int .i64 a0_2) ∧ w'.cell? ⟨gb165, 3, none⟩ = some (.int .i64 a0_3) ∧ w'.cell? ⟨gb165, 4, none⟩ = some (.int .i64 a0_4) ∧ w'.cell? ⟨gb165, 5, none⟩ = some (.int .i64 a0_5) ∧ w'.cell? ⟨gb165, 6, none⟩ = some (.string a0_6) ∧ w'.cell? ⟨gb165, 7, none⟩ = some (.slice (some ad180) l0_7.length c0_7) ∧ w'.cell? ⟨gb165, 8, none⟩ = some (.int .i64 a0_8) ∧ w'.cell? ⟨gb165, 9, none⟩ = some (.int .i64 a0_9) ∧ w'.cell? ⟨gb165, 10, none⟩ = some (.int .i64 a0_10) ∧ w'.cell? (ad180.add ((x5_3).toNat * 3)) = some (.int .i64 ((rd_Elem l0_7 x5_3).f0)) ∧ w'.cell? ⟨(ad180.add ((x5_3).toNat * 3)).block, (ad180.add ((x5_3).toNat * 3)).off + 1, none⟩ = some (.int .i64 ((rd_Elem l0_7 x5_3).f1)) ∧ w'.cell? ⟨(ad180.add ((x5_3).toNat * 3)).block, (ad180.add ((x5_3).toNat * 3)).off + 2, none⟩ = some (.int .i64 ((rd_Elem l0_7 x5_3).f2)) ∧ w'.cell? (ad180.add ((x5_3).toNat * 3)) = some (.int .i64 ((rd_Elem l0_7 x5_3).f0)) ∧ w'.cell? ⟨(ad180.add ((x5_3).toNat * 3)).block, (ad180.add ((x5_3).toNat * 3)).off + 1, none⟩ = some (.int .i64 ((rd_Elem l0_7 x5_3).f1)) ∧ w'.cell? ⟨(ad180.add ((x5_3).toNat * 3)).block, (ad180.add ((x5_3).toNat * 3)).off + 2, none⟩ = some (.int .i64 ((rd_Elem l0_7 x5_3).f2)) ∧ w'.cell? (ad180.add ((x5_3).toNat * 3)) = some (.int .i64 ((rd_Elem l0_7 x5_3).f0)) ∧ w'.cell? ⟨(ad180.add ((x5_3).toNat * 3)).block, (ad180.add ((x5_3).toNat * 3)).off + 1, none⟩ = some (.int .i64 ((rd_Elem l0_7 x5_3).f1)) ∧ w'.cell? ⟨(ad180.add ((x5_3).toNat * 3)).block, (ad180.add ((x5_3).toNat * 3)).off + 2, none⟩ = some (.int .i64 ((rd_Elem l0_7 x5_3).f2)) ∧ w'.cell? (ad180.add (((ji118)).toNat * 3)) = some (.int .i64 ((rd_Elem l0_7 (ji118)).f0)) ∧ w'.cell? ⟨(ad180.add (((ji118)).toNat * 3)).block, (ad180.add (((ji118)).toNat * 3)).off + 1, none⟩ = some (.int .i64 ((rd_Elem l0_7 (ji118)).f1)) ∧ w'.cell? ⟨(ad180.add (((ji118)).toNat * 3)).block, (ad180.add (((ji118)).toNat * 3)).off + 2, none⟩ = some (.int .i64 ((rd_Elem l0_7 (ji118)).f2)) ∧ w'.cell? (ad180.add ((x5_3).toNat * 3)) = some (.int .i64 ((rd_Elem l0_7 x5_3).f0)) ∧ w'.cell? ⟨(ad180.add ((x5_3).toNat * 3)).block, (ad180.add ((x5_3).toNat * 3)).off + 1, none⟩ = some (.int .i64 ((rd_Elem l0_7 x5_3).f1)) ∧ w'.cell? ⟨(ad180.add ((x5_3).toNat * 3)).block, (ad180.add ((x5_3).toNat * 3)).off + 2, none⟩ = some (.int .i64 ((rd_Elem l0_7 x5_3).f2))) 43 ⟨bc BK165 0, bc BK165 1, bc BK165 2, bc BK165 3, bc BK165 4, bc BK165 5, bc BK165 6, bc BK165 7, bc BK165 8, bc BK165 9, bc BK165 10, (cl HB hw180_0), (cl HB hw180_1), (cl HB hw180_2), (cl HB hw182_0), (cl HB hw182_1), (cl HB hw182_2), (cl HB hw184_0), (cl HB hw184_1), (cl HB hw184_2), (cl HB hw186_0), (cl HB hw186_1), (cl HB hw186_2), (cl HB hw187_0), (cl HB hw187_1), (cl HB hw187_2)⟩ (h := fun hHeld => ?_); refine with_tabW lectionaryref4_Op.tab13 lectionaryref4_Op.bits13 (fun HT_ HW_ => ?_)
                              generalize wr.drew = w124 at BK165 HB hx180_0 hx180_1 hx180_2 hx182_0 hx182_1 hx182_2 hx184_0 hx184_1 hx184_2 hx186_0 hx186_1 hx186_2 hx187_0 hx187_1 hx187_2 hHeld ⊢
                              refine pu HT_ 0 133 1 (h := ?_)
                              refine pu HT_ 2 135 5 (h := ?_)
                              refine tk HT_ HW_ hHeld 1 134 7 (h := ?_)
                              refine pu HT_ 3 136 15 (h := ?_)
                              refine tk HT_ HW_ hHeld 4 137 31 (h := ?_)
                              refine on HT_ 5 (some 138) 63 (h := fun K hK => ?_)
                              refine goes_ Tryd.func77 (by kernel_rfl) rfl #[.agg #[.int .i64 ((rd_Elem l0_7 x5_3).f0), .int .i64 ((rd_Elem l0_7 x5_3).f1), .int .i64 ((rd_Elem l0_7 x5_3).f2)]] (by rfl) rfl rfl (by (try simp only [List.map_toArray, List.map_cons, List.map_nil]); first | done | rfl | (simp only [List.length_drop, List.length_take]; rfl)) ?_
                              with_reducible refine (lectionaryref4_Begin.calls ((rd_Elem l0_7 x5_3).f0) ((rd_Elem l0_7 x5_3).f1) ((rd_Elem l0_7 x5_3).f2) false _ A103.out).mono ?_
                              rintro e w125 ⟨rfl, hb⟩
                              refine ⟨_, rfl, ?_⟩
                              have n0_ := Aside0.mk (blk_below (g := gb165) (o := .cells #[.int .i64 a0_0, .int .i64 a0_1, .int .i64 a0_2, .int .i64 a0_3, .int .i64 a0_4, .int .i64 a0_5, .string a0_6, .slice (some ad180) l0_7.length c0_7, .int .i64 a0_8, .int .i64 a0_9, .int .i64 a0_10] 31 (0, 0)) (by (with_reducible repeat (first | refine blk_drewN ?_ _ | refine blk_drew ?_ | refine blk_alloc ?_ _)); exact BK165.out) hb)
                              have n1_ := Aside0.mk (below_step (by repeat (first | (with_reducible first | exact HB.out | apply below_alloc | apply pw_below_drewN | apply below_drew1 | refine below_set ?_ GE165.out) | exact HB.out)) hb)
                              clear BK165
                              clear HB
                              have BK165 := n0_
                              have HB := n1_
                              clear n0_ n1_
                              (try clear hb)
                              (try clear hb2)
                              (try clear hk)
                              (try clear hi)
                              refine hK.out _ _ ⟨bc BK165 0, bc BK165 1, bc BK165 2, bc BK165 3, bc BK165 4, bc BK165 5, bc BK165 6, bc BK165 7, bc BK165 8, bc BK165 9, bc BK165 10, (cl HB hw180_0), (cl HB hw180_1), (cl HB hw180_2), (cl HB hw182_0), (cl HB hw182_1), (cl HB hw182_2), (cl HB hw184_0), (cl HB hw184_1), (cl HB hw184_2), (cl HB hw186_0), (cl HB hw186_1), (cl HB hw186_2), (cl HB hw187_0), (cl HB hw187_1), (cl HB hw187_2)⟩ (fun hHeld => ?_)
                              clear hK K
                              refine nm (h := ?_)
                              refine pu HT_ 6 139 127 (h := ?_)
                              refine pu HT_ 7 140 255 (h := ?_)
                              refine pu HT_ 9 142 767 (h := ?_)
                              refine tk HT_ HW_ hHeld 8 141 1023 (h := ?_)
                              refine pu HT_ 10 143 2047 (h := ?_)
                              refine tk HT_ HW_ hHeld 11 144 4095 (h := ?_)
                              refine on HT_ 12 (some 145) 8191 (h := fun K hK => ?_)
                              refine goes_ Tryd.func68 (by kernel_rfl) rfl #[.agg #[.int .i64 ((rd_Elem l0_7 x5_3).f0), .int .i64 ((rd_Elem l0_7 x5_3).f1), .int .i64 ((rd_Elem l0_7 x5_3).f2)]] (by rfl) rfl rfl (by (try simp only [List.map_toArray, List.map_cons, List.map_nil]); first | done | rfl | (simp only [List.length_drop, List.length_take]; rfl)) ?_
                              with_reducible refine (lectionaryref4_Elem.calls ((rd_Elem l0_7 x5_3).f0) ((rd_Elem l0_7 x5_3).f1) ((rd_Elem l0_7 x5_3).f2) true _ A108.out).mono ?_
                              rintro e w126 ⟨rfl, hb⟩
                              refine ⟨_, rfl, ?_⟩
                              have n0_ := Aside0.mk (blk_below (g := gb165) (o := .cells #[.int .i64 a0_0, .int .i64 a0_1, .int .i64 a0_2, .int .i64 a0_3, .int .i64 a0_4, .int .i64 a0_5, .string a0_6, .slice (some ad180) l0_7.length c0_7, .int .i64 a0_8, .int .i64 a0_9, .int .i64 a0_10] 31 (0, 0)) (by (with_reducible repeat (first | refine blk_drewN ?_ _ | refine blk_drew ?_ | refine blk_alloc ?_ _)); exact BK165.out) hb)
                              have n1_ := Aside0.mk (below_step (by repeat (first | (with_reducible first | exact HB.out | apply below_alloc | apply pw_below_drewN | apply below_drew1 | refine below_set ?_ GE165.out) | exact HB.out)) hb)
                              clear BK165
                              clear HB
                              have BK165 := n0_
                              have HB := n1_
                              clear n0_ n1_
                              (try clear hb)
                              (try clear hb2)
                              (try clear hk)
                              (try clear hi)
                              refine hK.out _ _ ⟨bc BK165 0, bc BK165 1, bc BK165 2, bc BK165 3, bc BK165 4, bc BK165 5, bc BK165 6, bc BK165 7, bc BK165 8, bc BK165 9, bc BK165 10, (cl HB hw180_0), (cl HB hw180_1), (cl HB hw180_2), (cl HB hw182_0), (cl HB hw182_1), (cl HB hw182_2), (cl HB hw184_0), (cl HB hw184_1), (cl HB hw184_2), (cl HB hw186_0), (cl HB hw186_1), (cl HB hw186_2), (cl HB hw187_0), (cl HB hw187_1), (cl HB hw187_2)⟩ (fun hHeld => ?_)
                              clear hK K
                              refine nm (h := ?_)
                              refine pu HT_ 13 146 16383 (h := ?_)
                              refine pu HT_ 14 147 32767 (h := ?_)
                              refine pu HT_ 15 148 65535 (h := ?_)
                              refine pu HT_ 17 150 196607 (h := ?_)
                              refine pu HT_ 19 152 720895 (h := ?_)
                              refine tk HT_ HW_ hHeld 16 149 786431 (h := ?_)
                              refine tk HT_ HW_ hHeld 18 151 1048575 (h := ?_)
                              refine pu HT_ 20 153 2097151 (h := ?_)
                              refine tk HT_ HW_ hHeld 21 154 4194303 (h := ?_)
                              refine on HT_ 22 (some 155) 8388607 (h := fun K hK => ?_)
                              refine goes_ Tryd.func114 (by kernel_rfl) rfl #[.agg #[.int .i64 a0_0, .int .i64 a0_1, .int .i64 a0_2, .int .i64 a0_3, .int .i64 a0_4, .int .i64 a0_5, .string a0_6, .slice (some ad180) l0_7.length c0_7, .int .i64 a0_8, .int .i64 a0_9, .int .i64 a0_10], .agg #[.int .i64 ((rd_Elem l0_7 x5_3).f0), .int .i64 ((rd_Elem l0_7 x5_3).f1), .int .i64 ((rd_Elem l0_7 x5_3).f2)]] (by rfl) rfl rfl (by (try simp only [List.map_toArray, List.map_cons, List.map_nil]); first | done | rfl | (simp only [List.length_drop, List.length_take]; rfl)) ?_
                              with_reducible refine (lectionaryref4_own.calls a0_0 a0_1 a0_2 a0_3 a0_4 a0_5 a0_6 _ _ l0_7 a0_8 a0_9 a0_10 ((rd_Elem l0_7 x5_3).f0) ((rd_Elem l0_7 x5_3).f1) ((rd_Elem l0_7 x5_3).f2) false _ ?side1 ?side2 A110.out).mono ?_
                              (case side1 => repeat (first | exact (Kd.C_below HR0_7.out HB.out) | (with_reducible refine Kd.C_alloc ?_ _) | (with_reducible refine Kd.C_drewN ?_ _) | (with_reducible refine Kd.C_drew ?_)))
                              (case side2 => exact HC0_7.out)
                              rintro e w127 ⟨rfl, hb⟩
                              refine ⟨_, rfl, ?_⟩
                              have n0_ := Aside0.mk (blk_below (g := gb165) (o := .cells #[.int .i64 a0_0, .int .i64 a0_1, .int .i64 a0_2, .int .i64 a0_3, .int .i64 a0_4, .int .i64 a0_5, .string a0_6, .slice (some ad180) l0_7.length c0_7, .int .i64 a0_8, .int .i64 a0_9, .int .i64 a0_10] 31 (0, 0)) (by (with_reducible repeat (first | refine blk_drewN ?_ _ | refine blk_drew ?_ | refine blk_alloc ?_ _)); exact BK165.out) hb)
                              have n1_ := Aside0.mk (below_step (by repeat (first | (with_reducible first | exact HB.out | apply below_alloc | apply pw_below_drewN | apply below_drew1 | refine below_set ?_ GE165.out) | exact HB.out)) hb)
                              clear BK165
                              clear HB
                              have BK165 := n0_
                              have HB := n1_
                              clear n0_ n1_
                              (try clear hb)
                              (try clear hb2)
                              (try clear hk)
                              (try clear hi)
                              refine hK.out _ _ ⟨bc BK165 0, bc BK165 1, bc BK165 2, bc BK165 3, bc BK165 4, bc BK165 5, bc BK165 6, bc BK165 7, bc BK165 8, bc BK165 9, bc BK165 10, (cl HB hw180_0), (cl HB hw180_1), (cl HB hw180_2), (cl HB hw182_0), (cl HB hw182_1), (cl HB hw182_2), (cl HB hw184_0), (cl HB hw184_1), (cl HB hw184_2), (cl HB hw186_0), (cl HB hw186_1), (cl HB hw186_2), (cl HB hw187_0), (cl HB hw187_1), (cl HB hw187_2)⟩ (fun hHeld => ?_)
                              clear hK K
                              refine nm (h := ?_)
                              refine pu HT_ 23 156 16777215 (h := ?_)
                              refine pu HT_ 24 157 33554431 (h := ?_)
                              refine pu HT_ 25 158 67108863 (h := ?_)
                              refine pu HT_ 26 159 134217727 (h := ?_)
                              refine pu HT_ 27 160 268435455 (h := ?_)
                              refine pu HT_ 28 161 536870911 (h := ?_)
                              refine pu HT_ 30 163 1610612735 (h := ?_)
                              refine pu HT_ 31 164 3758096383 (h := ?_)
                              refine pu HT_ 34 167 20937965567 (h := ?_)
                              refine pu HT_ 36 169 89657442303 (h := ?_)
                              refine tk HT_ HW_ hHeld 29 162 90194313215 (h := ?_)
                              refine pu HT_ 32 165 94489280511 (h := ?_)
                              refine tk HT_ HW_ hHeld 33 166 103079215103 (h := ?_)
                              refine tk HT_ HW_ hHeld 35 168 137438953471 (h := ?_)
                              refine pu HT_ 37 170 274877906943 (h := ?_)
                              refine tk HT_ HW_ hHeld 38 171 549755813887 (h := ?_)
                              refine on HT_ 39 (some 172) 1099511627775 (h := fun K hK => ?_)
                              refine goes_ Tryd.func70 (by kernel_rfl) rfl #[.agg #[.int .i64 ((rd_Elem l0_7 (ji118)).f0), .int .i64 ((rd_Elem l0_7 (ji118)).f1), .int .i64 ((rd_Elem l0_7 (ji118)).f2)], .agg #[.int .i64 ((rd_Elem l0_7 x5_3).f0), .int .i64 ((rd_Elem l0_7 x5_3).f1), .int .i64 ((rd_Elem l0_7 x5_3).f2)]] (by rfl) rfl rfl (by (try simp only [List.map_toArray, List.map_cons, List.map_nil]); first | done | (simp only [hji118]; rfl) | rfl | (simp only [List.length_drop, List.length_take]; rfl)) ?_
                              with_reducible refine (lectionaryref4_Less.calls ((rd_Elem l0_7 (ji118)).f0) ((rd_Elem l0_7 (ji118)).f1) ((rd_Elem l0_7 (ji118)).f2) ((rd_Elem l0_7 x5_3).f0) ((rd_Elem l0_7 x5_3).f1) ((rd_Elem l0_7 x5_3).f2) true _ A121.out).mono ?_
                              rintro e w128 ⟨rfl, hb⟩
                              refine ⟨_, rfl, ?_⟩
                              have n0_ := Aside0.mk (blk_below (g := gb165) (o := .cells #[.int .i64 a0_0, .int .i64 a0_1, .int .i64 a0_2, .int .i64 a0_3, .int .i64 a0_4, .int .i64 a0_5, .string a0_6, .slice (some ad180) l0_7.length c0_7, .int .i64 a0_8, .int .i64 a0_9, .int .i64 a0_10] 31 (0, 0)) (by (with_reducible repeat (first | refine blk_drewN ?_ _ | refine blk_drew ?_ | refine blk_alloc ?_ _)); exact BK165.out) hb)
                              have n1_ := Aside0.mk (below_step (by repeat (first | (with_reducible first | exact HB.out | apply below_alloc | apply pw_below_drewN | apply below_drew1 | refine below_set ?_ GE165.out) | exact HB.out)) hb)
                              clear BK165
                              clear HB
                              have BK165 := n0_
                              have HB := n1_
                              clear n0_ n1_
                              (try clear hb)
                              (try clear hb2)
                              (try clear hk)
                              (try clear hi)
                              refine hK.out _ _ ⟨bc BK165 0, bc BK165 1, bc BK165 2, bc BK165 3, bc BK165 4, bc BK165 5, bc BK165 6, bc BK165 7, bc BK165 8, bc BK165 9, bc BK165 10, (cl HB hw180_0), (cl HB hw180_1), (cl HB hw180_2), (cl HB hw182_0), (cl HB hw182_1), (cl HB hw182_2), (cl HB hw184_0), (cl HB hw184_1), (cl HB hw184_2), (cl HB hw186_0), (cl HB hw186_1), (cl HB hw186_2), (cl HB hw187_0), (cl HB hw187_1), (cl HB hw187_2)⟩ (fun hHeld => ?_)
                              clear hK K
                              refine nm (h := ?_)
                              refine pu HT_ 40 173 2199023255551 (h := ?_)
                              refine pu HT_ 41 174 4398046511103 (h := ?_)
                              refine pu HT_ 42 175 8796093022207 (h := ?_)
                              refine dn HT_ (h := ?_)
                              try go_wp2
                              go_roundg k3
                              case measure => have := HJ48.out; have := HJ66.out; have := HK3.out; omega
                              case rel => exact ⟨(wrap64 (x5_3 + 1)), (by first | rfl | (simp; done) | (simp [*]; done)), H', ⟨by have := HJ48.out; have := HJ66.out; have := HK3.out; omega⟩, ⟨by (with_reducible repeat (first | refine blk_drewN ?_ _ | refine blk_drew ?_ | refine blk_alloc ?_ _)); exact BK165.out⟩, ⟨by repeat (first | (with_reducible first | exact HB.out | apply below_alloc | apply pw_below_drewN | apply below_drew1 | refine below_set ?_ GE165.out) | exact HB.out)⟩⟩
                            replace c122 := Bool.eq_false_iff.mpr c122
                            subst c122
                            have H1 : (some false) = some r := by rw [if_neg (show ¬ (false = true) by decide)] at H; exact H
                            clear H
                            have H := H1
                            clear H1
                            obtain rfl := Option.some.inj H
                            have hcz129_0 : wr.cell? ⟨gb165, 0, none⟩ = some (.int .i64 a0_0) := bc BK165 0
                            have hcz129_1 : wr.cell? ⟨gb165, 1, none⟩ = some (.int .i64 a0_1) := bc BK165 1
                            have hcz129_2 : wr.cell? ⟨gb165, 2, none⟩ = some (.int .i64 a0_2) := bc BK165 2
                            have hcz129_3 : wr.cell? ⟨gb165, 3, none⟩ = some (.int .i64 a0_3) := bc BK165 3
                            have hcz129_4 : wr.cell? ⟨gb165, 4, none⟩ = some (.int .i64 a0_4) := bc BK165 4
                            have hcz129_5 : wr.cell? ⟨gb165, 5, none⟩ = some (.int .i64 a0_5) := bc BK165 5
                            have hcz129_6 : wr.cell? ⟨gb165, 6, none⟩ = some (.string a0_6) := bc BK165 6
                            have hcz129_7 : wr.cell? ⟨gb165, 7, none⟩ = some (.slice A0_7 l0_7.length c0_7) := bc BK165 7
                            have hcz129_8 : wr.cell? ⟨gb165, 8, none⟩ = some (.int .i64 a0_8) := bc BK165 8
                            have hcz129_9 : wr.cell? ⟨gb165, 9, none⟩ = some (.int .i64 a0_9) := bc BK165 9
                            have hcz129_10 : wr.cell? ⟨gb165, 10, none⟩ = some (.int .i64 a0_10) := bc BK165 10
                            have hfz129_0 := bf BK165 0
                            have hfz129_1 := bf BK165 1
                            have hfz129_2 := bf BK165 2
                            have hfz129_3 := bf BK165 3
                            have hfz129_4 := bf BK165 4
                            have hfz129_5 := bf BK165 5
                            have hfz129_6 := bf BK165 6
                            have hfz129_7 := bf BK165 7
                            have hfz129_8 := bf BK165 8
                            have hfz129_9 := bf BK165 9
                            have hfz129_10 := bf BK165 10
                            try go_wp2
                            have n0_ := Aside0.mk (blk_drew BK165.out)
                            have n1_ := Aside0.mk (below_drew1 HB.out)
                            clear BK165
                            clear HB
                            have BK165 := n0_
                            have HB := n1_
                            clear n0_ n1_
                            have p180 : 0 ≤ (x5_3 : Int) := of_decide_eq_true (by first | (with_reducible assumption) | assumption)
                            have q180 : x5_3 < (l0_7.length : Int) := of_decide_eq_true (by first | (with_reducible assumption) | assumption)
                            obtain ⟨ad180, e180, hx180_0, hx180_1, hx180_2⟩ := at_Elem HR0_7.out x5_3 p180 q180
                            have hw180_2 := hx180_2
                            have hw180_1 := hx180_1
                            have hw180_0 := hx180_0
                            cases e180
                            replace hx180_0 := cl HB hx180_0
                            replace hx180_1 := cl HB hx180_1
                            replace hx180_2 := cl HB hx180_2
                            replace p180 := eq_true p180
                            replace q180 := eq_true q180
                            have p182 : 0 ≤ (x5_3 : Int) := of_decide_eq_true (by first | (with_reducible assumption) | assumption)
                            have q182 : x5_3 < (l0_7.length : Int) := of_decide_eq_true (by first | (with_reducible assumption) | assumption)
                            obtain ⟨ad182, e182, hx182_0, hx182_1, hx182_2⟩ := at_Elem HR0_7.out x5_3 p182 q182
                            have hw182_2 := hx182_2
                            have hw182_1 := hx182_1
                            have hw182_0 := hx182_0
                            obtain rfl : ad180 = ad182 := (by injection e182)
                            replace hx182_0 := cl HB hx182_0
                            replace hx182_1 := cl HB hx182_1
                            replace hx182_2 := cl HB hx182_2
                            replace p182 := eq_true p182
                            replace q182 := eq_true q182
                            have p184 : 0 ≤ (x5_3 : Int) := of_decide_eq_true (by first | (with_reducible assumption) | assumption)
                            have q184 : x5_3 < (l0_7.length : Int) := of_decide_eq_true (by first | (with_reducible assumption) | assumption)
                            obtain ⟨ad184, e184, hx184_0, hx184_1, hx184_2⟩ := at_Elem HR0_7.out x5_3 p184 q184
                            have hw184_2 := hx184_2
                            have hw184_1 := hx184_1
                            have hw184_0 := hx184_0
                            obtain rfl : ad180 = ad184 := (by injection e184)
                            replace hx184_0 := cl HB hx184_0
                            replace hx184_1 := cl HB hx184_1
                            replace hx184_2 := cl HB hx184_2
                            replace p184 := eq_true p184
                            replace q184 := eq_true q184
                            have p186 : 0 ≤ ((ji118) : Int) := of_decide_eq_true (by first | (with_reducible assumption) | assumption)
                            have q186 : (ji118) < (l0_7.length : Int) := of_decide_eq_true (by first | (with_reducible assumption) | assumption)
                            obtain ⟨ad186, e186, hx186_0, hx186_1, hx186_2⟩ := at_Elem HR0_7.out (ji118) p186 q186
                            have hw186_2 := hx186_2
                            have hw186_1 := hx186_1
                            have hw186_0 := hx186_0
                            obtain rfl : ad180 = ad186 := (by injection e186)
                            replace hx186_0 := cl HB hx186_0
                            replace hx186_1 := cl HB hx186_1
                            replace hx186_2 := cl HB hx186_2
                            replace p186 := eq_true p186
                            replace q186 := eq_true q186
                            have p187 : 0 ≤ (x5_3 : Int) := of_decide_eq_true (by first | (with_reducible assumption) | assumption)
                            have q187 : x5_3 < (l0_7.length : Int) := of_decide_eq_true (by first | (with_reducible assumption) | assumption)
                            obtain ⟨ad187, e187, hx187_0, hx187_1, hx187_2⟩ := at_Elem HR0_7.out x5_3 p187 q187
                            have hw187_2 := hx187_2
                            have hw187_1 := hx187_1
                            have hw187_0 := hx187_0
                            obtain rfl : ad180 = ad187 := (by injection e187)
                            replace hx187_0 := cl HB hx187_0
                            replace hx187_1 := cl HB hx187_1
                            replace hx187_2 := cl HB hx187_2
                            replace p187 := eq_true p187
                            replace q187 := eq_true q187
                            refine stP (fun w' => w'.cell? ⟨gb165, 0, none⟩ = some (.int .i64 a0_0) ∧ w'.cell? ⟨gb165, 1, none⟩ = some (.int .i64 a0_1) ∧ w'.cell? ⟨gb165, 2, none⟩ = some (.int .i64 a0_2) ∧ w'.cell? ⟨gb165, 3, none⟩ = some (.int .i64 a0_3) ∧ w'.cell? ⟨gb165, 4, none⟩ = some (.int .i64 a0_4) ∧ w'.cell? ⟨gb165, 5, none⟩ = some (.int .i64 a0_5) ∧ w'.cell? ⟨gb165, 6, none⟩ = some (.string a0_6) ∧ w'.cell? ⟨gb165, 7, none⟩ = some (.slice (some ad180) l0_7.length c0_7) ∧ w'.cell? ⟨gb165, 8, none⟩ = some (.int .i64 a0_8) ∧ w'.cell? ⟨gb165, 9, none⟩ = some (.int .i64 a0_9) ∧ w'.cell? ⟨gb165, 10, none⟩ = some (.int .i64 a0_10) ∧ w'.cell? (ad180.add ((x5_3).toNat * 3)) = some (.int .i64 ((rd_Elem l0_7 x5_3).f0)) ∧ w'.cell? ⟨(ad180.add ((x5_3).toNat * 3)).block, (ad180.add ((x5_3).toNat * 3)).off + 1, none⟩ = some (.int .i64 ((rd_Elem l0_7 x5_3).f1)) ∧ w'.cell? ⟨(ad180.add ((x5_3).toNat * 3)).block, (ad180.add ((x5_3).toNat * 3)).off + 2, none⟩ = some (.int .i64 ((rd_Elem l0_7 x5_3).f2)) ∧ w'.cell? (ad180.add ((x5_3).toNat * 3)) = some (.int .i64 ((rd_Elem l0_7 x5_3).f0)) ∧ w'.cell? ⟨(ad180.add ((x5_3).toNat * 3)).block, (ad180.add ((x5_3).toNat * 3)).off + 1, none⟩ = some (.int .i64 ((rd_Elem l0_7 x5_3).f1)) ∧ w'.cell? ⟨(ad180.add ((x5_3).toNat * 3)).block, (ad180.add ((x5_3).toNat * 3)).off + 2, none⟩ = some (.int .i64 ((rd_Elem l0_7 x5_3).f2)) ∧ w'.cell? (ad180.add ((x5_3).toNat * 3)) = some (.int .i64 ((rd_Elem l0_7 x5_3).f0)) ∧ w'.cell? ⟨(ad180.add ((x5_3).toNat * 3)).block, (ad180.add ((x5_3).toNat * 3)).off + 1, none⟩ = some (.int .i64 ((rd_Elem l0_7 x5_3).f1)) ∧ w'.cell? ⟨(ad180.add ((x5_3).toNat * 3)).block, (ad180.add ((x5_3).toNat * 3)).off + 2, none⟩ = some (.int .i64 ((rd_Elem l0_7 x5_3).f2)) ∧ w'.cell? (ad180.add (((ji118)).toNat * 3)) = some (.int .i64 ((rd_Elem l0_7 (ji118)).f0)) ∧ w'.cell? ⟨(ad180.add (((ji118)).toNat * 3)).block, (ad180.add (((ji118)).toNat * 3)).off + 1, none⟩ = some (.int .i64 ((rd_Elem l0_7 (ji118)).f1)) ∧ w'.cell? ⟨(ad180.add (((ji118)).toNat * 3)).block, (ad180.add (((ji118)).toNat * 3)).off + 2, none⟩ = some (.int .i64 ((rd_Elem l0_7 (ji118)).f2)) ∧ w'.cell? (ad180.add ((x5_3).toNat * 3)) = some (.int .i64 ((rd_Elem l0_7 x5_3).f0)) ∧ w'.cell? ⟨(ad180.add ((x5_3).toNat * 3)).block, (ad180.add ((x5_3).toNat * 3)).off + 1, none⟩ = some (.int .i64 ((rd_Elem l0_7 x5_3).f1)) ∧ w'.cell? ⟨(ad180.add ((x5_3).toNat * 3)).block, (ad180.add ((x5_3).toNat * 3)).off + 2, none⟩ = some (.int .i64 ((rd_Elem l0_7 x5_3).f2))) 43 ⟨bc BK165 0, bc BK165 1, bc BK165 2, bc BK165 3, bc BK165 4, bc BK165 5, bc BK165 6, bc BK165 7, bc BK165 8, bc BK165 9, bc BK165 10, (cl HB hw180_0), (cl HB hw180_1), (cl HB hw180_2), (cl HB hw182_0), (cl HB hw182_1), (cl HB hw182_2), (cl HB hw184_0), (cl HB hw184_1), (cl HB hw184_2), (cl HB hw186_0), (cl HB hw186_1), (cl HB hw186_2), (cl HB hw187_0), (cl HB hw187_1), (cl HB hw187_2)⟩ (h := fun hHeld => ?_); refine with_tabW lectionaryref4_Op.tab13 lectionaryref4_Op.bits13 (fun HT_ HW_ => ?_)
                            generalize wr.drew = w130 at BK165 HB hx180_0 hx180_1 hx180_2 hx182_0 hx182_1 hx182_2 hx184_0 hx184_1 hx184_2 hx186_0 hx186_1 hx186_2 hx187_0 hx187_1 hx187_2 hHeld ⊢
                            refine pu HT_ 0 133 1 (h := ?_)
                            refine pu HT_ 2 135 5 (h := ?_)
                            refine tk HT_ HW_ hHeld 1 134 7 (h := ?_)
                            refine pu HT_ 3 136 15 (h := ?_)
                            refine tk HT_ HW_ hHeld 4 137 31 (h := ?_)
                            refine on HT_ 5 (some 138) 63 (h := fun K hK => ?_)
                            refine goes_ Tryd.func77 (by kernel_rfl) rfl #[.agg #[.int .i64 ((rd_Elem l0_7 x5_3).f0), .int .i64 ((rd_Elem l0_7 x5_3).f1), .int .i64 ((rd_Elem l0_7 x5_3).f2)]] (by rfl) rfl rfl (by (try simp only [List.map_toArray, List.map_cons, List.map_nil]); first | done | rfl | (simp only [List.length_drop, List.length_take]; rfl)) ?_
                            with_reducible refine (lectionaryref4_Begin.calls ((rd_Elem l0_7 x5_3).f0) ((rd_Elem l0_7 x5_3).f1) ((rd_Elem l0_7 x5_3).f2) false _ A103.out).mono ?_
                            rintro e w131 ⟨rfl, hb⟩
                            refine ⟨_, rfl, ?_⟩
                            have n0_ := Aside0.mk (blk_below (g := gb165) (o := .cells #[.int .i64 a0_0, .int .i64 a0_1, .int .i64 a0_2, .int .i64 a0_3, .int .i64 a0_4, .int .i64 a0_5, .string a0_6, .slice (some ad180) l0_7.length c0_7, .int .i64 a0_8, .int .i64 a0_9, .int .i64 a0_10] 31 (0, 0)) (by (with_reducible repeat (first | refine blk_drewN ?_ _ | refine blk_drew ?_ | refine blk_alloc ?_ _)); exact BK165.out) hb)
                            have n1_ := Aside0.mk (below_step (by repeat (first | (with_reducible first | exact HB.out | apply below_alloc | apply pw_below_drewN | apply below_drew1 | refine below_set ?_ GE165.out) | exact HB.out)) hb)
                            clear BK165
                            clear HB
                            have BK165 := n0_
                            have HB := n1_
                            clear n0_ n1_
                            (try clear hb)
                            (try clear hb2)
                            (try clear hk)
                            (try clear hi)
                            refine hK.out _ _ ⟨bc BK165 0, bc BK165 1, bc BK165 2, bc BK165 3, bc BK165 4, bc BK165 5, bc BK165 6, bc BK165 7, bc BK165 8, bc BK165 9, bc BK165 10, (cl HB hw180_0), (cl HB hw180_1), (cl HB hw180_2), (cl HB hw182_0), (cl HB hw182_1), (cl HB hw182_2), (cl HB hw184_0), (cl HB hw184_1), (cl HB hw184_2), (cl HB hw186_0), (cl HB hw186_1), (cl HB hw186_2), (cl HB hw187_0), (cl HB hw187_1), (cl HB hw187_2)⟩ (fun hHeld => ?_)
                            clear hK K
                            refine nm (h := ?_)
                            refine pu HT_ 6 139 127 (h := ?_)
                            refine pu HT_ 7 140 255 (h := ?_)
                            refine pu HT_ 9 142 767 (h := ?_)
                            refine tk HT_ HW_ hHeld 8 141 1023 (h := ?_)
                            refine pu HT_ 10 143 2047 (h := ?_)
                            refine tk HT_ HW_ hHeld 11 144 4095 (h := ?_)
                            refine on HT_ 12 (some 145) 8191 (h := fun K hK => ?_)
                            refine goes_ Tryd.func68 (by kernel_rfl) rfl #[.agg #[.int .i64 ((rd_Elem l0_7 x5_3).f0), .int .i64 ((rd_Elem l0_7 x5_3).f1), .int .i64 ((rd_Elem l0_7 x5_3).f2)]] (by rfl) rfl rfl (by (try simp only [List.map_toArray, List.map_cons, List.map_nil]); first | done | rfl | (simp only [List.length_drop, List.length_take]; rfl)) ?_
                            with_reducible refine (lectionaryref4_Elem.calls ((rd_Elem l0_7 x5_3).f0) ((rd_Elem l0_7 x5_3).f1) ((rd_Elem l0_7 x5_3).f2) true _ A108.out).mono ?_
                            rintro e w132 ⟨rfl, hb⟩
                            refine ⟨_, rfl, ?_⟩
                            have n0_ := Aside0.mk (blk_below (g := gb165) (o := .cells #[.int .i64 a0_0, .int .i64 a0_1, .int .i64 a0_2, .int .i64 a0_3, .int .i64 a0_4, .int .i64 a0_5, .string a0_6, .slice (some ad180) l0_7.length c0_7, .int .i64 a0_8, .int .i64 a0_9, .int .i64 a0_10] 31 (0, 0)) (by (with_reducible repeat (first | refine blk_drewN ?_ _ | refine blk_drew ?_ | refine blk_alloc ?_ _)); exact BK165.out) hb)
                            have n1_ := Aside0.mk (below_step (by repeat (first | (with_reducible first | exact HB.out | apply below_alloc | apply pw_below_drewN | apply below_drew1 | refine below_set ?_ GE165.out) | exact HB.out)) hb)
                            clear BK165
                            clear HB
                            have BK165 := n0_
                            have HB := n1_
                            clear n0_ n1_
                            (try clear hb)
                            (try clear hb2)
                            (try clear hk)
                            (try clear hi)
                            refine hK.out _ _ ⟨bc BK165 0, bc BK165 1, bc BK165 2, bc BK165 3, bc BK165 4, bc BK165 5, bc BK165 6, bc BK165 7, bc BK165 8, bc BK165 9, bc BK165 10, (cl HB hw180_0), (cl HB hw180_1), (cl HB hw180_2), (cl HB hw182_0), (cl HB hw182_1), (cl HB hw182_2), (cl HB hw184_0), (cl HB hw184_1), (cl HB hw184_2), (cl HB hw186_0), (cl HB hw186_1), (cl HB hw186_2), (cl HB hw187_0), (cl HB hw187_1), (cl HB hw187_2)⟩ (fun hHeld => ?_)
                            clear hK K
                            refine nm (h := ?_)
                            refine pu HT_ 13 146 16383 (h := ?_)
                            refine pu HT_ 14 147 32767 (h := ?_)
                            refine pu HT_ 15 148 65535 (h := ?_)
                            refine pu HT_ 17 150 196607 (h := ?_)
                            refine pu HT_ 19 152 720895 (h := ?_)
                            refine tk HT_ HW_ hHeld 16 149 786431 (h := ?_)
                            refine tk HT_ HW_ hHeld 18 151 1048575 (h := ?_)
                            refine pu HT_ 20 153 2097151 (h := ?_)
                            refine tk HT_ HW_ hHeld 21 154 4194303 (h := ?_)
                            refine on HT_ 22 (some 155) 8388607 (h := fun K hK => ?_)
                            refine goes_ Tryd.func114 (by kernel_rfl) rfl #[.agg #[.int .i64 a0_0, .int .i64 a0_1, .int .i64 a0_2, .int .i64 a0_3, .int .i64 a0_4, .int .i64 a0_5, .string a0_6, .slice (some ad180) l0_7.length c0_7, .int .i64 a0_8, .int .i64 a0_9, .int .i64 a0_10], .agg #[.int .i64 ((rd_Elem l0_7 x5_3).f0), .int .i64 ((rd_Elem l0_7 x5_3).f1), .int .i64 ((rd_Elem l0_7 x5_3).f2)]] (by rfl) rfl rfl (by (try simp only [List.map_toArray, List.map_cons, List.map_nil]); first | done | rfl | (simp only [List.length_drop, List.length_take]; rfl)) ?_
                            with_reducible refine (lectionaryref4_own.calls a0_0 a0_1 a0_2 a0_3 a0_4 a0_5 a0_6 _ _ l0_7 a0_8 a0_9 a0_10 ((rd_Elem l0_7 x5_3).f0) ((rd_Elem l0_7 x5_3).f1) ((rd_Elem l0_7 x5_3).f2) false _ ?side1 ?side2 A110.out).mono ?_
                            (case side1 => repeat (first | exact (Kd.C_below HR0_7.out HB.out) | (with_reducible refine Kd.C_alloc ?_ _) | (with_reducible refine Kd.C_drewN ?_ _) | (with_reducible refine Kd.C_drew ?_)))
                            (case side2 => exact HC0_7.out)
                            rintro e w133 ⟨rfl, hb⟩
                            refine ⟨_, rfl, ?_⟩
                            have n0_ := Aside0.mk (blk_below (g := gb165) (o := .cells #[.int .i64 a0_0, .int .i64 a0_1, .int .i64 a0_2, .int .i64 a0_3, .int .i64 a0_4, .int .i64 a0_5, .string a0_6, .slice (some ad180) l0_7.length c0_7, .int .i64 a0_8, .int .i64 a0_9, .int .i64 a0_10] 31 (0, 0)) (by (with_reducible repeat (first | refine blk_drewN ?_ _ | refine blk_drew ?_ | refine blk_alloc ?_ _)); exact BK165.out) hb)
                            have n1_ := Aside0.mk (below_step (by repeat (first | (with_reducible first | exact HB.out | apply below_alloc | apply pw_below_drewN | apply below_drew1 | refine below_set ?_ GE165.out) | exact HB.out)) hb)
                            clear BK165
                            clear HB
                            have BK165 := n0_
                            have HB := n1_
                            clear n0_ n1_
                            (try clear hb)
                            (try clear hb2)
                            (try clear hk)
                            (try clear hi)
                            refine hK.out _ _ ⟨bc BK165 0, bc BK165 1, bc BK165 2, bc BK165 3, bc BK165 4, bc BK165 5, bc BK165 6, bc BK165 7, bc BK165 8, bc BK165 9, bc BK165 10, (cl HB hw180_0), (cl HB hw180_1), (cl HB hw180_2), (cl HB hw182_0), (cl HB hw182_1), (cl HB hw182_2), (cl HB hw184_0), (cl HB hw184_1), (cl HB hw184_2), (cl HB hw186_0), (cl HB hw186_1), (cl HB hw186_2), (cl HB hw187_0), (cl HB hw187_1), (cl HB hw187_2)⟩ (fun hHeld => ?_)
                            clear hK K
                            refine nm (h := ?_)
                            refine pu HT_ 23 156 16777215 (h := ?_)
                            refine pu HT_ 24 157 33554431 (h := ?_)
                            refine pu HT_ 25 158 67108863 (h := ?_)
                            refine pu HT_ 26 159 134217727 (h := ?_)
                            refine pu HT_ 27 160 268435455 (h := ?_)
                            refine pu HT_ 28 161 536870911 (h := ?_)
                            refine pu HT_ 30 163 1610612735 (h := ?_)
                            refine pu HT_ 31 164 3758096383 (h := ?_)
                            refine pu HT_ 34 167 20937965567 (h := ?_)
                            refine pu HT_ 36 169 89657442303 (h := ?_)
                            refine tk HT_ HW_ hHeld 29 162 90194313215 (h := ?_)
                            refine pu HT_ 32 165 94489280511 (h := ?_)
                            refine tk HT_ HW_ hHeld 33 166 103079215103 (h := ?_)
                            refine tk HT_ HW_ hHeld 35 168 137438953471 (h := ?_)
                            refine pu HT_ 37 170 274877906943 (h := ?_)
                            refine tk HT_ HW_ hHeld 38 171 549755813887 (h := ?_)
                            refine on HT_ 39 (some 172) 1099511627775 (h := fun K hK => ?_)
                            refine goes_ Tryd.func70 (by kernel_rfl) rfl #[.agg #[.int .i64 ((rd_Elem l0_7 (ji118)).f0), .int .i64 ((rd_Elem l0_7 (ji118)).f1), .int .i64 ((rd_Elem l0_7 (ji118)).f2)], .agg #[.int .i64 ((rd_Elem l0_7 x5_3).f0), .int .i64 ((rd_Elem l0_7 x5_3).f1), .int .i64 ((rd_Elem l0_7 x5_3).f2)]] (by rfl) rfl rfl (by (try simp only [List.map_toArray, List.map_cons, List.map_nil]); first | done | (simp only [hji118]; rfl) | rfl | (simp only [List.length_drop, List.length_take]; rfl)) ?_
                            with_reducible refine (lectionaryref4_Less.calls ((rd_Elem l0_7 (ji118)).f0) ((rd_Elem l0_7 (ji118)).f1) ((rd_Elem l0_7 (ji118)).f2) ((rd_Elem l0_7 x5_3).f0) ((rd_Elem l0_7 x5_3).f1) ((rd_Elem l0_7 x5_3).f2) false _ A121.out).mono ?_
                            rintro e w134 ⟨rfl, hb⟩
                            refine ⟨_, rfl, ?_⟩
                            have n0_ := Aside0.mk (blk_below (g := gb165) (o := .cells #[.int .i64 a0_0, .int .i64 a0_1, .int .i64 a0_2, .int .i64 a0_3, .int .i64 a0_4, .int .i64 a0_5, .string a0_6, .slice (some ad180) l0_7.length c0_7, .int .i64 a0_8, .int .i64 a0_9, .int .i64 a0_10] 31 (0, 0)) (by (with_reducible repeat (first | refine blk_drewN ?_ _ | refine blk_drew ?_ | refine blk_alloc ?_ _)); exact BK165.out) hb)
                            have n1_ := Aside0.mk (below_step (by repeat (first | (with_reducible first | exact HB.out | apply below_alloc | apply pw_below_drewN | apply below_drew1 | refine below_set ?_ GE165.out) | exact HB.out)) hb)
                            clear BK165
                            clear HB
                            have BK165 := n0_
                            have HB := n1_
                            clear n0_ n1_
                            (try clear hb)
                            (try clear hb2)
                            (try clear hk)
                            (try clear hi)
                            refine hK.out _ _ ⟨bc BK165 0, bc BK165 1, bc BK165 2, bc BK165 3, bc BK165 4, bc BK165 5, bc BK165 6, bc BK165 7, bc BK165 8, bc BK165 9, bc BK165 10, (cl HB hw180_0), (cl HB hw180_1), (cl HB hw180_2), (cl HB hw182_0), (cl HB hw182_1), (cl HB hw182_2), (cl HB hw184_0), (cl HB hw184_1), (cl HB hw184_2), (cl HB hw186_0), (cl HB hw186_1), (cl HB hw186_2), (cl HB hw187_0), (cl HB hw187_1), (cl HB hw187_2)⟩ (fun hHeld => ?_)
                            clear hK K
                            refine nm (h := ?_)
                            refine pu HT_ 40 173 2199023255551 (h := ?_)
                            refine pu HT_ 41 174 4398046511103 (h := ?_)
                            refine pu HT_ 42 175 8796093022207 (h := ?_)
                            refine dn HT_ (h := ?_)
                            try go_wp2
                            go_ret
                            exact ⟨by first | rfl | (simp [errW_none, errW_some] <;> rfl) | (simp only [← hji118]; first | rfl | (simp [errW_none, errW_some] <;> rfl)) | (simp [*, errW_none, errW_some] <;> rfl), by repeat (first | (with_reducible first | exact HB.out | apply below_alloc | apply pw_below_drewN | apply below_drew1 | refine below_set ?_ GE165.out) | exact HB.out)⟩
                          rw [if_neg c120] at H
                          exact absurd H (by simp)
                        rw [if_neg c119] at H
                        exact absurd H (by simp)
                      rw [if_neg c117] at H
                      have c117b0 : decide (0 < x5_3) = false := decide_eq_false c117
                      clear c117
                      have H' := Aside0.mk H
                      clear H
                      have hcz135_0 : wr.cell? ⟨gb165, 0, none⟩ = some (.int .i64 a0_0) := bc BK165 0
                      have hcz135_1 : wr.cell? ⟨gb165, 1, none⟩ = some (.int .i64 a0_1) := bc BK165 1
                      have hcz135_2 : wr.cell? ⟨gb165, 2, none⟩ = some (.int .i64 a0_2) := bc BK165 2
                      have hcz135_3 : wr.cell? ⟨gb165, 3, none⟩ = some (.int .i64 a0_3) := bc BK165 3
                      have hcz135_4 : wr.cell? ⟨gb165, 4, none⟩ = some (.int .i64 a0_4) := bc BK165 4
                      have hcz135_5 : wr.cell? ⟨gb165, 5, none⟩ = some (.int .i64 a0_5) := bc BK165 5
                      have hcz135_6 : wr.cell? ⟨gb165, 6, none⟩ = some (.string a0_6) := bc BK165 6
                      have hcz135_7 : wr.cell? ⟨gb165, 7, none⟩ = some (.slice A0_7 l0_7.length c0_7) := bc BK165 7
                      have hcz135_8 : wr.cell? ⟨gb165, 8, none⟩ = some (.int .i64 a0_8) := bc BK165 8
                      have hcz135_9 : wr.cell? ⟨gb165, 9, none⟩ = some (.int .i64 a0_9) := bc BK165 9
                      have hcz135_10 : wr.cell? ⟨gb165, 10, none⟩ = some (.int .i64 a0_10) := bc BK165 10
                      have hfz135_0 := bf BK165 0
                      have hfz135_1 := bf BK165 1
                      have hfz135_2 := bf BK165 2
                      have hfz135_3 := bf BK165 3
                      have hfz135_4 := bf BK165 4
                      have hfz135_5 := bf BK165 5
                      have hfz135_6 := bf BK165 6
                      have hfz135_7 := bf BK165 7
                      have hfz135_8 := bf BK165 8
                      have hfz135_9 := bf BK165 9
                      have hfz135_10 := bf BK165 10
                      try go_wp2
                      have n0_ := Aside0.mk (blk_drew BK165.out)
                      have n1_ := Aside0.mk (below_drew1 HB.out)
                      clear BK165
                      clear HB
                      have BK165 := n0_
                      have HB := n1_
                      clear n0_ n1_
                      have p180 : 0 ≤ (x5_3 : Int) := of_decide_eq_true (by first | (with_reducible assumption) | assumption)
                      have q180 : x5_3 < (l0_7.length : Int) := of_decide_eq_true (by first | (with_reducible assumption) | assumption)
                      obtain ⟨ad180, e180, hx180_0, hx180_1, hx180_2⟩ := at_Elem HR0_7.out x5_3 p180 q180
                      have hw180_2 := hx180_2
                      have hw180_1 := hx180_1
                      have hw180_0 := hx180_0
                      cases e180
                      replace hx180_0 := cl HB hx180_0
                      replace hx180_1 := cl HB hx180_1
                      replace hx180_2 := cl HB hx180_2
                      replace p180 := eq_true p180
                      replace q180 := eq_true q180
                      have p182 : 0 ≤ (x5_3 : Int) := of_decide_eq_true (by first | (with_reducible assumption) | assumption)
                      have q182 : x5_3 < (l0_7.length : Int) := of_decide_eq_true (by first | (with_reducible assumption) | assumption)
                      obtain ⟨ad182, e182, hx182_0, hx182_1, hx182_2⟩ := at_Elem HR0_7.out x5_3 p182 q182
                      have hw182_2 := hx182_2
                      have hw182_1 := hx182_1
                      have hw182_0 := hx182_0
                      obtain rfl : ad180 = ad182 := (by injection e182)
                      replace hx182_0 := cl HB hx182_0
                      replace hx182_1 := cl HB hx182_1
                      replace hx182_2 := cl HB hx182_2
                      replace p182 := eq_true p182
                      replace q182 := eq_true q182
                      have p184 : 0 ≤ (x5_3 : Int) := of_decide_eq_true (by first | (with_reducible assumption) | assumption)
                      have q184 : x5_3 < (l0_7.length : Int) := of_decide_eq_true (by first | (with_reducible assumption) | assumption)
                      obtain ⟨ad184, e184, hx184_0, hx184_1, hx184_2⟩ := at_Elem HR0_7.out x5_3 p184 q184
                      have hw184_2 := hx184_2
                      have hw184_1 := hx184_1
                      have hw184_0 := hx184_0
                      obtain rfl : ad180 = ad184 := (by injection e184)
                      replace hx184_0 := cl HB hx184_0
                      replace hx184_1 := cl HB hx184_1
                      replace hx184_2 := cl HB hx184_2
                      replace p184 := eq_true p184
                      replace q184 := eq_true q184
                      refine stP (fun w' => w'.cell? ⟨gb165, 0, none⟩ = some (.int .i64 a0_0) ∧ w'.cell? ⟨gb165, 1, none⟩ = some (.int .i64 a0_1) ∧ w'.cell? ⟨gb165, 2, none⟩ = some (.int .i64 a0_2) ∧ w'.cell? ⟨gb165, 3, none⟩ = some (.int .i64 a0_3) ∧ w'.cell? ⟨gb165, 4, none⟩ = some (.int .i64 a0_4) ∧ w'.cell? ⟨gb165, 5, none⟩ = some (.int .i64 a0_5) ∧ w'.cell? ⟨gb165, 6, none⟩ = some (.string a0_6) ∧ w'.cell? ⟨gb165, 7, none⟩ = some (.slice (some ad180) l0_7.length c0_7) ∧ w'.cell? ⟨gb165, 8, none⟩ = some (.int .i64 a0_8) ∧ w'.cell? ⟨gb165, 9, none⟩ = some (.int .i64 a0_9) ∧ w'.cell? ⟨gb165, 10, none⟩ = some (.int .i64 a0_10) ∧ w'.cell? (ad180.add ((x5_3).toNat * 3)) = some (.int .i64 ((rd_Elem l0_7 x5_3).f0)) ∧ w'.cell? ⟨(ad180.add ((x5_3).toNat * 3)).block, (ad180.add ((x5_3).toNat * 3)).off + 1, none⟩ = some (.int .i64 ((rd_Elem l0_7 x5_3).f1)) ∧ w'.cell? ⟨(ad180.add ((x5_3).toNat * 3)).block, (ad180.add ((x5_3).toNat * 3)).off + 2, none⟩ = some (.int .i64 ((rd_Elem l0_7 x5_3).f2)) ∧ w'.cell? (ad180.add ((x5_3).toNat * 3)) = some (.int .i64 ((rd_Elem l0_7 x5_3).f0)) ∧ w'.cell? ⟨(ad180.add ((x5_3).toNat * 3)).block, (ad180.add ((x5_3).toNat * 3)).off + 1, none⟩ = some (.int .i64 ((rd_Elem l0_7 x5_3).f1)) ∧ w'.cell? ⟨(ad180.add ((x5_3).toNat * 3)).block, (ad180.add ((x5_3).toNat * 3)).off + 2, none⟩ = some (.int .i64 ((rd_Elem l0_7 x5_3).f2)) ∧ w'.cell? (ad180.add ((x5_3).toNat * 3)) = some (.int .i64 ((rd_Elem l0_7 x5_3).f0)) ∧ w'.cell? ⟨(ad180.add ((x5_3).toNat * 3)).block, (ad180.add ((x5_3).toNat * 3)).off + 1, none⟩ = some (.int .i64 ((rd_Elem l0_7 x5_3).f1)) ∧ w'.cell? ⟨(ad180.add ((x5_3).toNat * 3)).block, (ad180.add ((x5_3).toNat * 3)).off + 2, none⟩ = some (.int .i64 ((rd_Elem l0_7 x5_3).f2))) 43 ⟨bc BK165 0, bc BK165 1, bc BK165 2, bc BK165 3, bc BK165 4, bc BK165 5, bc BK165 6, bc BK165 7, bc BK165 8, bc BK165 9, bc BK165 10, (cl HB hw180_0), (cl HB hw180_1), (cl HB hw180_2), (cl HB hw182_0), (cl HB hw182_1), (cl HB hw182_2), (cl HB hw184_0), (cl HB hw184_1), (cl HB hw184_2)⟩ (h := fun hHeld => ?_); refine with_tabW lectionaryref4_Op.tab13 lectionaryref4_Op.bits13 (fun HT_ HW_ => ?_)
                      generalize wr.drew = w136 at BK165 HB hx180_0 hx180_1 hx180_2 hx182_0 hx182_1 hx182_2 hx184_0 hx184_1 hx184_2 hHeld ⊢
                      refine pu HT_ 0 133 1 (h := ?_)
                      refine pu HT_ 2 135 5 (h := ?_)
                      refine tk HT_ HW_ hHeld 1 134 7 (h := ?_)
                      refine pu HT_ 3 136 15 (h := ?_)
                      refine tk HT_ HW_ hHeld 4 137 31 (h := ?_)
                      refine on HT_ 5 (some 138) 63 (h := fun K hK => ?_)
                      refine goes_ Tryd.func77 (by kernel_rfl) rfl #[.agg #[.int .i64 ((rd_Elem l0_7 x5_3).f0), .int .i64 ((rd_Elem l0_7 x5_3).f1), .int .i64 ((rd_Elem l0_7 x5_3).f2)]] (by rfl) rfl rfl (by (try simp only [List.map_toArray, List.map_cons, List.map_nil]); first | done | rfl | (simp only [List.length_drop, List.length_take]; rfl)) ?_
                      with_reducible refine (lectionaryref4_Begin.calls ((rd_Elem l0_7 x5_3).f0) ((rd_Elem l0_7 x5_3).f1) ((rd_Elem l0_7 x5_3).f2) false _ A103.out).mono ?_
                      rintro e w137 ⟨rfl, hb⟩
                      refine ⟨_, rfl, ?_⟩
                      have n0_ := Aside0.mk (blk_below (g := gb165) (o := .cells #[.int .i64 a0_0, .int .i64 a0_1, .int .i64 a0_2, .int .i64 a0_3, .int .i64 a0_4, .int .i64 a0_5, .string a0_6, .slice (some ad180) l0_7.length c0_7, .int .i64 a0_8, .int .i64 a0_9, .int .i64 a0_10] 31 (0, 0)) (by (with_reducible repeat (first | refine blk_drewN ?_ _ | refine blk_drew ?_ | refine blk_alloc ?_ _)); exact BK165.out) hb)
                      have n1_ := Aside0.mk (below_step (by repeat (first | (with_reducible first | exact HB.out | apply below_alloc | apply pw_below_drewN | apply below_drew1 | refine below_set ?_ GE165.out) | exact HB.out)) hb)
                      clear BK165
                      clear HB
                      have BK165 := n0_
                      have HB := n1_
                      clear n0_ n1_
                      (try clear hb)
                      (try clear hb2)
                      (try clear hk)
                      (try clear hi)
                      refine hK.out _ _ ⟨bc BK165 0, bc BK165 1, bc BK165 2, bc BK165 3, bc BK165 4, bc BK165 5, bc BK165 6, bc BK165 7, bc BK165 8, bc BK165 9, bc BK165 10, (cl HB hw180_0), (cl HB hw180_1), (cl HB hw180_2), (cl HB hw182_0), (cl HB hw182_1), (cl HB hw182_2), (cl HB hw184_0), (cl HB hw184_1), (cl HB hw184_2)⟩ (fun hHeld => ?_)
                      clear hK K
                      refine nm (h := ?_)
                      refine pu HT_ 6 139 127 (h := ?_)
                      refine pu HT_ 7 140 255 (h := ?_)
                      refine pu HT_ 9 142 767 (h := ?_)
                      refine tk HT_ HW_ hHeld 8 141 1023 (h := ?_)
                      refine pu HT_ 10 143 2047 (h := ?_)
                      refine tk HT_ HW_ hHeld 11 144 4095 (h := ?_)
                      refine on HT_ 12 (some 145) 8191 (h := fun K hK => ?_)
                      refine goes_ Tryd.func68 (by kernel_rfl) rfl #[.agg #[.int .i64 ((rd_Elem l0_7 x5_3).f0), .int .i64 ((rd_Elem l0_7 x5_3).f1), .int .i64 ((rd_Elem l0_7 x5_3).f2)]] (by rfl) rfl rfl (by (try simp only [List.map_toArray, List.map_cons, List.map_nil]); first | done | rfl | (simp only [List.length_drop, List.length_take]; rfl)) ?_
                      with_reducible refine (lectionaryref4_Elem.calls ((rd_Elem l0_7 x5_3).f0) ((rd_Elem l0_7 x5_3).f1) ((rd_Elem l0_7 x5_3).f2) true _ A108.out).mono ?_
                      rintro e w138 ⟨rfl, hb⟩
                      refine ⟨_, rfl, ?_⟩
                      have n0_ := Aside0.mk (blk_below (g := gb165) (o := .cells #[.int .i64 a0_0, .int .i64 a0_1, .int .i64 a0_2, .int .i64 a0_3, .int .i64 a0_4, .int .i64 a0_5, .string a0_6, .slice (some ad180) l0_7.length c0_7, .int .i64 a0_8, .int .i64 a0_9, .int .i64 a0_10] 31 (0, 0)) (by (with_reducible repeat (first | refine blk_drewN ?_ _ | refine blk_drew ?_ | refine blk_alloc ?_ _)); exact BK165.out) hb)
                      have n1_ := Aside0.mk (below_step (by repeat (first | (with_reducible first | exact HB.out | apply below_alloc | apply pw_below_drewN | apply below_drew1 | refine below_set ?_ GE165.out) | exact HB.out)) hb)
                      clear BK165
                      clear HB
                      have BK165 := n0_
                      have HB := n1_
                      clear n0_ n1_
                      (try clear hb)
                      (try clear hb2)
                      (try clear hk)
                      (try clear hi)
                      refine hK.out _ _ ⟨bc BK165 0, bc BK165 1, bc BK165 2, bc BK165 3, bc BK165 4, bc BK165 5, bc BK165 6, bc BK165 7, bc BK165 8, bc BK165 9, bc BK165 10, (cl HB hw180_0), (cl HB hw180_1), (cl HB hw180_2), (cl HB hw182_0), (cl HB hw182_1), (cl HB hw182_2), (cl HB hw184_0), (cl HB hw184_1), (cl HB hw184_2)⟩ (fun hHeld => ?_)
                      clear hK K
                      refine nm (h := ?_)
                      refine pu HT_ 13 146 16383 (h := ?_)
                      refine pu HT_ 14 147 32767 (h := ?_)
                      refine pu HT_ 15 148 65535 (h := ?_)
                      refine pu HT_ 17 150 196607 (h := ?_)
                      refine pu HT_ 19 152 720895 (h := ?_)
                      refine tk HT_ HW_ hHeld 16 149 786431 (h := ?_)
                      refine tk HT_ HW_ hHeld 18 151 1048575 (h := ?_)
                      refine pu HT_ 20 153 2097151 (h := ?_)
                      refine tk HT_ HW_ hHeld 21 154 4194303 (h := ?_)
                      refine on HT_ 22 (some 155) 8388607 (h := fun K hK => ?_)
                      refine goes_ Tryd.func114 (by kernel_rfl) rfl #[.agg #[.int .i64 a0_0, .int .i64 a0_1, .int .i64 a0_2, .int .i64 a0_3, .int .i64 a0_4, .int .i64 a0_5, .string a0_6, .slice (some ad180) l0_7.length c0_7, .int .i64 a0_8, .int .i64 a0_9, .int .i64 a0_10], .agg #[.int .i64 ((rd_Elem l0_7 x5_3).f0), .int .i64 ((rd_Elem l0_7 x5_3).f1), .int .i64 ((rd_Elem l0_7 x5_3).f2)]] (by rfl) rfl rfl (by (try simp only [List.map_toArray, List.map_cons, List.map_nil]); first | done | rfl | (simp only [List.length_drop, List.length_take]; rfl)) ?_
                      with_reducible refine (lectionaryref4_own.calls a0_0 a0_1 a0_2 a0_3 a0_4 a0_5 a0_6 _ _ l0_7 a0_8 a0_9 a0_10 ((rd_Elem l0_7 x5_3).f0) ((rd_Elem l0_7 x5_3).f1) ((rd_Elem l0_7 x5_3).f2) false _ ?side1 ?side2 A110.out).mono ?_
                      (case side1 => repeat (first | exact (Kd.C_below HR0_7.out HB.out) | (with_reducible refine Kd.C_alloc ?_ _) | (with_reducible refine Kd.C_drewN ?_ _) | (with_reducible refine Kd.C_drew ?_)))
                      (case side2 => exact HC0_7.out)
                      rintro e w139 ⟨rfl, hb⟩
                      refine ⟨_, rfl, ?_⟩
                      have n0_ := Aside0.mk (blk_below (g := gb165) (o := .cells #[.int .i64 a0_0, .int .i64 a0_1, .int .i64 a0_2, .int .i64 a0_3, .int .i64 a0_4, .int .i64 a0_5, .string a0_6, .slice (some ad180) l0_7.length c0_7, .int .i64 a0_8, .int .i64 a0_9, .int .i64 a0_10] 31 (0, 0)) (by (with_reducible repeat (first | refine blk_drewN ?_ _ | refine blk_drew ?_ | refine blk_alloc ?_ _)); exact BK165.out) hb)
                      have n1_ := Aside0.mk (below_step (by repeat (first | (with_reducible first | exact HB.out | apply below_alloc | apply pw_below_drewN | apply below_drew1 | refine below_set ?_ GE165.out) | exact HB.out)) hb)
                      clear BK165
                      clear HB
                      have BK165 := n0_
                      have HB := n1_
                      clear n0_ n1_
                      (try clear hb)
                      (try clear hb2)
                      (try clear hk)
                      (try clear hi)
                      refine hK.out _ _ ⟨bc BK165 0, bc BK165 1, bc BK165 2, bc BK165 3, bc BK165 4, bc BK165 5, bc BK165 6, bc BK165 7, bc BK165 8, bc BK165 9, bc BK165 10, (cl HB hw180_0), (cl HB hw180_1), (cl HB hw180_2), (cl HB hw182_0), (cl HB hw182_1), (cl HB hw182_2), (cl HB hw184_0), (cl HB hw184_1), (cl HB hw184_2)⟩ (fun hHeld => ?_)
                      clear hK K
                      refine nm (h := ?_)
                      refine pu HT_ 23 156 16777215 (h := ?_)
                      refine pu HT_ 24 157 33554431 (h := ?_)
                      refine pu HT_ 25 158 67108863 (h := ?_)
                      refine pu HT_ 26 159 134217727 (h := ?_)
                      refine pu HT_ 27 160 268435455 (h := ?_)
                      refine off HT_ 28 161 536870911 (h := ?_)
                      refine off HT_ 29 162 1073741823 (h := ?_)
                      refine off HT_ 30 163 2147483647 (h := ?_)
                      refine off HT_ 31 164 4294967295 (h := ?_)
                      refine off HT_ 32 165 8589934591 (h := ?_)
                      refine off HT_ 33 166 17179869183 (h := ?_)
                      refine off HT_ 34 167 34359738367 (h := ?_)
                      refine off HT_ 35 168 68719476735 (h := ?_)
                      refine off HT_ 36 169 137438953471 (h := ?_)
                      refine off HT_ 37 170 274877906943 (h := ?_)
                      refine off HT_ 38 171 549755813887 (h := ?_)
                      refine off HT_ 39 172 1099511627775 (h := ?_)
                      refine off HT_ 40 173 2199023255551 (h := ?_)
                      refine pu HT_ 41 174 4398046511103 (h := ?_)
                      refine pu HT_ 42 175 8796093022207 (h := ?_)
                      refine dn HT_ (h := ?_)
                      try go_wp2
                      go_roundg k3
                      case measure => have := HJ48.out; have := HJ66.out; have := HK3.out; omega
                      case rel => exact ⟨(wrap64 (x5_3 + 1)), (by first | rfl | (simp; done) | (simp [*]; done)), H', ⟨by have := HJ48.out; have := HJ66.out; have := HK3.out; omega⟩, ⟨by (with_reducible repeat (first | refine blk_drewN ?_ _ | refine blk_drew ?_ | refine blk_alloc ?_ _)); exact BK165.out⟩, ⟨by repeat (first | (with_reducible first | exact HB.out | apply below_alloc | apply pw_below_drewN | apply below_drew1 | refine below_set ?_ GE165.out) | exact HB.out)⟩⟩
                    replace c109 := Bool.eq_false_iff.mpr c109
                    subst c109
                    have H1 : (some false) = some r := by rw [if_neg (show ¬ (false = true) by decide)] at H; exact H
                    clear H
                    have H := H1
                    clear H1
                    obtain rfl := Option.some.inj H
                    have hcz140_0 : wr.cell? ⟨gb165, 0, none⟩ = some (.int .i64 a0_0) := bc BK165 0
                    have hcz140_1 : wr.cell? ⟨gb165, 1, none⟩ = some (.int .i64 a0_1) := bc BK165 1
                    have hcz140_2 : wr.cell? ⟨gb165, 2, none⟩ = some (.int .i64 a0_2) := bc BK165 2
                    have hcz140_3 : wr.cell? ⟨gb165, 3, none⟩ = some (.int .i64 a0_3) := bc BK165 3
                    have hcz140_4 : wr.cell? ⟨gb165, 4, none⟩ = some (.int .i64 a0_4) := bc BK165 4
                    have hcz140_5 : wr.cell? ⟨gb165, 5, none⟩ = some (.int .i64 a0_5) := bc BK165 5
                    have hcz140_6 : wr.cell? ⟨gb165, 6, none⟩ = some (.string a0_6) := bc BK165 6
                    have hcz140_7 : wr.cell? ⟨gb165, 7, none⟩ = some (.slice A0_7 l0_7.length c0_7) := bc BK165 7
                    have hcz140_8 : wr.cell? ⟨gb165, 8, none⟩ = some (.int .i64 a0_8) := bc BK165 8
                    have hcz140_9 : wr.cell? ⟨gb165, 9, none⟩ = some (.int .i64 a0_9) := bc BK165 9
                    have hcz140_10 : wr.cell? ⟨gb165, 10, none⟩ = some (.int .i64 a0_10) := bc BK165 10
                    have hfz140_0 := bf BK165 0
                    have hfz140_1 := bf BK165 1
                    have hfz140_2 := bf BK165 2
                    have hfz140_3 := bf BK165 3
                    have hfz140_4 := bf BK165 4
                    have hfz140_5 := bf BK165 5
                    have hfz140_6 := bf BK165 6
                    have hfz140_7 := bf BK165 7
                    have hfz140_8 := bf BK165 8
                    have hfz140_9 := bf BK165 9
                    have hfz140_10 := bf BK165 10
                    try go_wp2
                    have n0_ := Aside0.mk (blk_drew BK165.out)
                    have n1_ := Aside0.mk (below_drew1 HB.out)
                    clear BK165
                    clear HB
                    have BK165 := n0_
                    have HB := n1_
                    clear n0_ n1_
                    have p180 : 0 ≤ (x5_3 : Int) := of_decide_eq_true (by first | (with_reducible assumption) | assumption)
                    have q180 : x5_3 < (l0_7.length : Int) := of_decide_eq_true (by first | (with_reducible assumption) | assumption)
                    obtain ⟨ad180, e180, hx180_0, hx180_1, hx180_2⟩ := at_Elem HR0_7.out x5_3 p180 q180
                    have hw180_2 := hx180_2
                    have hw180_1 := hx180_1
                    have hw180_0 := hx180_0
                    cases e180
                    replace hx180_0 := cl HB hx180_0
                    replace hx180_1 := cl HB hx180_1
                    replace hx180_2 := cl HB hx180_2
                    replace p180 := eq_true p180
                    replace q180 := eq_true q180
                    have p182 : 0 ≤ (x5_3 : Int) := of_decide_eq_true (by first | (with_reducible assumption) | assumption)
                    have q182 : x5_3 < (l0_7.length : Int) := of_decide_eq_true (by first | (with_reducible assumption) | assumption)
                    obtain ⟨ad182, e182, hx182_0, hx182_1, hx182_2⟩ := at_Elem HR0_7.out x5_3 p182 q182
                    have hw182_2 := hx182_2
                    have hw182_1 := hx182_1
                    have hw182_0 := hx182_0
                    obtain rfl : ad180 = ad182 := (by injection e182)
                    replace hx182_0 := cl HB hx182_0
                    replace hx182_1 := cl HB hx182_1
                    replace hx182_2 := cl HB hx182_2
                    replace p182 := eq_true p182
                    replace q182 := eq_true q182
                    refine stP (fun w' => w'.cell? ⟨gb165, 0, none⟩ = some (.int .i64 a0_0) ∧ w'.cell? ⟨gb165, 1, none⟩ = some (.int .i64 a0_1) ∧ w'.cell? ⟨gb165, 2, none⟩ = some (.int .i64 a0_2) ∧ w'.cell? ⟨gb165, 3, none⟩ = some (.int .i64 a0_3) ∧ w'.cell? ⟨gb165, 4, none⟩ = some (.int .i64 a0_4) ∧ w'.cell? ⟨gb165, 5, none⟩ = some (.int .i64 a0_5) ∧ w'.cell? ⟨gb165, 6, none⟩ = some (.string a0_6) ∧ w'.cell? ⟨gb165, 7, none⟩ = some (.slice (some ad180) l0_7.length c0_7) ∧ w'.cell? ⟨gb165, 8, none⟩ = some (.int .i64 a0_8) ∧ w'.cell? ⟨gb165, 9, none⟩ = some (.int .i64 a0_9) ∧ w'.cell? ⟨gb165, 10, none⟩ = some (.int .i64 a0_10) ∧ w'.cell? (ad180.add ((x5_3).toNat * 3)) = some (.int .i64 ((rd_Elem l0_7 x5_3).f0)) ∧ w'.cell? ⟨(ad180.add ((x5_3).toNat * 3)).block, (ad180.add ((x5_3).toNat * 3)).off + 1, none⟩ = some (.int .i64 ((rd_Elem l0_7 x5_3).f1)) ∧ w'.cell? ⟨(ad180.add ((x5_3).toNat * 3)).block, (ad180.add ((x5_3).toNat * 3)).off + 2, none⟩ = some (.int .i64 ((rd_Elem l0_7 x5_3).f2)) ∧ w'.cell? (ad180.add ((x5_3).toNat * 3)) = some (.int .i64 ((rd_Elem l0_7 x5_3).f0)) ∧ w'.cell? ⟨(ad180.add ((x5_3).toNat * 3)).block, (ad180.add ((x5_3).toNat * 3)).off + 1, none⟩ = some (.int .i64 ((rd_Elem l0_7 x5_3).f1)) ∧ w'.cell? ⟨(ad180.add ((x5_3).toNat * 3)).block, (ad180.add ((x5_3).toNat * 3)).off + 2, none⟩ = some (.int .i64 ((rd_Elem l0_7 x5_3).f2))) 43 ⟨bc BK165 0, bc BK165 1, bc BK165 2, bc BK165 3, bc BK165 4, bc BK165 5, bc BK165 6, bc BK165 7, bc BK165 8, bc BK165 9, bc BK165 10, (cl HB hw180_0), (cl HB hw180_1), (cl HB hw180_2), (cl HB hw182_0), (cl HB hw182_1), (cl HB hw182_2)⟩ (h := fun hHeld => ?_); refine with_tabW lectionaryref4_Op.tab13 lectionaryref4_Op.bits13 (fun HT_ HW_ => ?_)
                    generalize wr.drew = w141 at BK165 HB hx180_0 hx180_1 hx180_2 hx182_0 hx182_1 hx182_2 hHeld ⊢
                    refine pu HT_ 0 133 1 (h := ?_)
                    refine pu HT_ 2 135 5 (h := ?_)
                    refine tk HT_ HW_ hHeld 1 134 7 (h := ?_)
                    refine pu HT_ 3 136 15 (h := ?_)
                    refine tk HT_ HW_ hHeld 4 137 31 (h := ?_)
                    refine on HT_ 5 (some 138) 63 (h := fun K hK => ?_)
                    refine goes_ Tryd.func77 (by kernel_rfl) rfl #[.agg #[.int .i64 ((rd_Elem l0_7 x5_3).f0), .int .i64 ((rd_Elem l0_7 x5_3).f1), .int .i64 ((rd_Elem l0_7 x5_3).f2)]] (by rfl) rfl rfl (by (try simp only [List.map_toArray, List.map_cons, List.map_nil]); first | done | rfl | (simp only [List.length_drop, List.length_take]; rfl)) ?_
                    with_reducible refine (lectionaryref4_Begin.calls ((rd_Elem l0_7 x5_3).f0) ((rd_Elem l0_7 x5_3).f1) ((rd_Elem l0_7 x5_3).f2) false _ A103.out).mono ?_
                    rintro e w142 ⟨rfl, hb⟩
                    refine ⟨_, rfl, ?_⟩
                    have n0_ := Aside0.mk (blk_below (g := gb165) (o := .cells #[.int .i64 a0_0, .int .i64 a0_1, .int .i64 a0_2, .int .i64 a0_3, .int .i64 a0_4, .int .i64 a0_5, .string a0_6, .slice (some ad180) l0_7.length c0_7, .int .i64 a0_8, .int .i64 a0_9, .int .i64 a0_10] 31 (0, 0)) (by (with_reducible repeat (first | refine blk_drewN ?_ _ | refine blk_drew ?_ | refine blk_alloc ?_ _)); exact BK165.out) hb)
                    have n1_ := Aside0.mk (below_step (by repeat (first | (with_reducible first | exact HB.out | apply below_alloc | apply pw_below_drewN | apply below_drew1 | refine below_set ?_ GE165.out) | exact HB.out)) hb)
                    clear BK165
                    clear HB
                    have BK165 := n0_
                    have HB := n1_
                    clear n0_ n1_
                    (try clear hb)
                    (try clear hb2)
                    (try clear hk)
                    (try clear hi)
                    refine hK.out _ _ ⟨bc BK165 0, bc BK165 1, bc BK165 2, bc BK165 3, bc BK165 4, bc BK165 5, bc BK165 6, bc BK165 7, bc BK165 8, bc BK165 9, bc BK165 10, (cl HB hw180_0), (cl HB hw180_1), (cl HB hw180_2), (cl HB hw182_0), (cl HB hw182_1), (cl HB hw182_2)⟩ (fun hHeld => ?_)
                    clear hK K
                    refine nm (h := ?_)
                    refine pu HT_ 6 139 127 (h := ?_)
                    refine pu HT_ 7 140 255 (h := ?_)
                    refine pu HT_ 9 142 767 (h := ?_)
                    refine tk HT_ HW_ hHeld 8 141 1023 (h := ?_)
                    refine pu HT_ 10 143 2047 (h := ?_)
                    refine tk HT_ HW_ hHeld 11 144 4095 (h := ?_)
                    refine on HT_ 12 (some 145) 8191 (h := fun K hK => ?_)
                    refine goes_ Tryd.func68 (by kernel_rfl) rfl #[.agg #[.int .i64 ((rd_Elem l0_7 x5_3).f0), .int .i64 ((rd_Elem l0_7 x5_3).f1), .int .i64 ((rd_Elem l0_7 x5_3).f2)]] (by rfl) rfl rfl (by (try simp only [List.map_toArray, List.map_cons, List.map_nil]); first | done | rfl | (simp only [List.length_drop, List.length_take]; rfl)) ?_
                    with_reducible refine (lectionaryref4_Elem.calls ((rd_Elem l0_7 x5_3).f0) ((rd_Elem l0_7 x5_3).f1) ((rd_Elem l0_7 x5_3).f2) false _ A108.out).mono ?_
                    rintro e w143 ⟨rfl, hb⟩
                    refine ⟨_, rfl, ?_⟩
                    have n0_ := Aside0.mk (blk_below (g := gb165) (o := .cells #[.int .i64 a0_0, .int .i64 a0_1, .int .i64 a0_2, .int .i64 a0_3, .int .i64 a0_4, .int .i64 a0_5, .string a0_6, .slice (some ad180) l0_7.length c0_7, .int .i64 a0_8, .int .i64 a0_9, .int .i64 a0_10] 31 (0, 0)) (by (with_reducible repeat (first | refine blk_drewN ?_ _ | refine blk_drew ?_ | refine blk_alloc ?_ _)); exact BK165.out) hb)
                    have n1_ := Aside0.mk (below_step (by repeat (first | (with_reducible first | exact HB.out | apply below_alloc | apply pw_below_drewN | apply below_drew1 | refine below_set ?_ GE165.out) | exact HB.out)) hb)
                    clear BK165
                    clear HB
                    have BK165 := n0_
                    have HB := n1_
                    clear n0_ n1_
                    (try clear hb)
                    (try clear hb2)
                    (try clear hk)
                    (try clear hi)
                    refine hK.out _ _ ⟨bc BK165 0, bc BK165 1, bc BK165 2, bc BK165 3, bc BK165 4, bc BK165 5, bc BK165 6, bc BK165 7, bc BK165 8, bc BK165 9, bc BK165 10, (cl HB hw180_0), (cl HB hw180_1), (cl HB hw180_2), (cl HB hw182_0), (cl HB hw182_1), (cl HB hw182_2)⟩ (fun hHeld => ?_)
                    clear hK K
                    refine nm (h := ?_)
                    refine pu HT_ 13 146 16383 (h := ?_)
                    refine pu HT_ 14 147 32767 (h := ?_)
                    refine pu HT_ 15 148 65535 (h := ?_)
                    refine off HT_ 16 149 131071 (h := ?_)
                    refine off HT_ 17 150 262143 (h := ?_)
                    refine off HT_ 18 151 524287 (h := ?_)
                    refine off HT_ 19 152 1048575 (h := ?_)
                    refine off HT_ 20 153 2097151 (h := ?_)
                    refine off HT_ 21 154 4194303 (h := ?_)
                    refine off HT_ 22 155 8388607 (h := ?_)
                    refine pu HT_ 23 156 16777215 (h := ?_)
                    refine pu HT_ 24 157 33554431 (h := ?_)
                    refine off HT_ 25 158 67108863 (h := ?_)
                    refine off HT_ 26 159 134217727 (h := ?_)
                    refine off HT_ 27 160 268435455 (h := ?_)
                    refine off HT_ 28 161 536870911 (h := ?_)
                    refine off HT_ 29 162 1073741823 (h := ?_)
                    refine off HT_ 30 163 2147483647 (h := ?_)
                    refine off HT_ 31 164 4294967295 (h := ?_)
                    refine off HT_ 32 165 8589934591 (h := ?_)
                    refine off HT_ 33 166 17179869183 (h := ?_)
                    refine off HT_ 34 167 34359738367 (h := ?_)
                    refine off HT_ 35 168 68719476735 (h := ?_)
                    refine off HT_ 36 169 137438953471 (h := ?_)
                    refine off HT_ 37 170 274877906943 (h := ?_)
                    refine off HT_ 38 171 549755813887 (h := ?_)
                    refine off HT_ 39 172 1099511627775 (h := ?_)
                    refine off HT_ 40 173 2199023255551 (h := ?_)
                    refine off HT_ 41 174 4398046511103 (h := ?_)
                    refine pu HT_ 42 175 8796093022207 (h := ?_)
                    refine dn HT_ (h := ?_)
                    try go_wp2
                    go_ret
                    exact ⟨by first | rfl | (simp [errW_none, errW_some] <;> rfl) | (simp [*, errW_none, errW_some] <;> rfl), by repeat (first | (with_reducible first | exact HB.out | apply below_alloc | apply pw_below_drewN | apply below_drew1 | refine below_set ?_ GE165.out) | exact HB.out)⟩
                  rw [if_neg c102] at H
                  exact absurd H (by simp)
                rw [if_neg c101] at H
                have c101b0 : decide (x5_3 < (l0_7.length : Int)) = false := decide_eq_false c101
                clear c101
                obtain rfl := Option.some.inj H
                have hcz144_0 : wr.cell? ⟨gb165, 0, none⟩ = some (.int .i64 a0_0) := bc BK165 0
                have hcz144_1 : wr.cell? ⟨gb165, 1, none⟩ = some (.int .i64 a0_1) := bc BK165 1
                have hcz144_2 : wr.cell? ⟨gb165, 2, none⟩ = some (.int .i64 a0_2) := bc BK165 2
                have hcz144_3 : wr.cell? ⟨gb165, 3, none⟩ = some (.int .i64 a0_3) := bc BK165 3
                have hcz144_4 : wr.cell? ⟨gb165, 4, none⟩ = some (.int .i64 a0_4) := bc BK165 4
                have hcz144_5 : wr.cell? ⟨gb165, 5, none⟩ = some (.int .i64 a0_5) := bc BK165 5
                have hcz144_6 : wr.cell? ⟨gb165, 6, none⟩ = some (.string a0_6) := bc BK165 6
                have hcz144_7 : wr.cell? ⟨gb165, 7, none⟩ = some (.slice A0_7 l0_7.length c0_7) := bc BK165 7
                have hcz144_8 : wr.cell? ⟨gb165, 8, none⟩ = some (.int .i64 a0_8) := bc BK165 8
                have hcz144_9 : wr.cell? ⟨gb165, 9, none⟩ = some (.int .i64 a0_9) := bc BK165 9
                have hcz144_10 : wr.cell? ⟨gb165, 10, none⟩ = some (.int .i64 a0_10) := bc BK165 10
                have hfz144_0 := bf BK165 0
                have hfz144_1 := bf BK165 1
                have hfz144_2 := bf BK165 2
                have hfz144_3 := bf BK165 3
                have hfz144_4 := bf BK165 4
                have hfz144_5 := bf BK165 5
                have hfz144_6 := bf BK165 6
                have hfz144_7 := bf BK165 7
                have hfz144_8 := bf BK165 8
                have hfz144_9 := bf BK165 9
                have hfz144_10 := bf BK165 10
                go_wp2
                go_ret
                exact ⟨by first | rfl | (simp [errW_none, errW_some] <;> rfl) | (simp [*, errW_none, errW_some] <;> rfl), by repeat (first | (with_reducible first | exact HB.out | apply below_alloc | apply pw_below_drewN | apply below_drew1 | refine below_set ?_ GE165.out) | exact HB.out)⟩
  replace c3 := Bool.eq_false_iff.mpr c3
  subst c3
  have H1 : (some false) = some r := by rw [if_neg (show ¬ (false = true) by decide)] at H; exact H
  clear H
  have H := H1
  clear H1
  obtain rfl := Option.some.inj H
  go_enter Tryd.func57, Tryd.ntmps57
  go_wp2_with (first | ((with_reducible refine gate_dst (N := 1) rfl ?_); (try (refine gate_guard (by rfl) ?_; dsimp only)); refine box_event ?hg (N := 1) ?hd (cs := #[.int .i64 a0_0, .int .i64 a0_1, .int .i64 a0_2, .int .i64 a0_3, .int .i64 a0_4, .int .i64 a0_5, .string a0_6, .slice A0_7 l0_7.length c0_7, .int .i64 a0_8, .int .i64 a0_9, .int .i64 a0_10]) (t := 31) ?hr ?_; (case hd => rfl); (case hg => rfl); (case hr => first | (go_simp; done) | (go_simp; rfl)); intro gb165 hg w145 hbox hb; have n0_ := Aside0.mk (below_step (by repeat (first | (with_reducible first | exact HB.out | apply below_alloc | apply pw_below_drewN | apply below_drew1) | exact HB.out)) hb); have n1_ := Aside0.mk (hbox); have n2_ := Aside0.mk ((by rw [hg]; exact (below_size (by repeat (first | (with_reducible first | exact HB.out | apply below_alloc | apply pw_below_drewN | apply below_drew1) | exact HB.out))) : w.heap.size ≤ gb165)); have n3_ := Aside0.mk ((by rw [hg]; exact (below_size (by repeat (first | (with_reducible first | exact HB.out | apply below_alloc | apply pw_below_drewN | apply below_drew1) | exact HB.out))) : w.heap.size ≤ gb165)); clear HB; have HB := n0_; have BK165 := n1_; have GW165 := n2_; have GE165 := n3_; clear n0_ n1_ n2_ n3_; clear hb hbox hg; have hcz146_0 : w145.cell? ⟨gb165, 0, none⟩ = some (.int .i64 a0_0) := bc BK165 0; have hcz146_1 : w145.cell? ⟨gb165, 1, none⟩ = some (.int .i64 a0_1) := bc BK165 1; have hcz146_2 : w145.cell? ⟨gb165, 2, none⟩ = some (.int .i64 a0_2) := bc BK165 2; have hcz146_3 : w145.cell? ⟨gb165, 3, none⟩ = some (.int .i64 a0_3) := bc BK165 3; have hcz146_4 : w145.cell? ⟨gb165, 4, none⟩ = some (.int .i64 a0_4) := bc BK165 4; have hcz146_5 : w145.cell? ⟨gb165, 5, none⟩ = some (.int .i64 a0_5) := bc BK165 5; have hcz146_6 : w145.cell? ⟨gb165, 6, none⟩ = some (.string a0_6) := bc BK165 6; have hcz146_7 : w145.cell? ⟨gb165, 7, none⟩ = some (.slice A0_7 l0_7.length c0_7) := bc BK165 7; have hcz146_8 : w145.cell? ⟨gb165, 8, none⟩ = some (.int .i64 a0_8) := bc BK165 8; have hcz146_9 : w145.cell? ⟨gb165, 9, none⟩ = some (.int .i64 a0_9) := bc BK165 9; have hcz146_10 : w145.cell? ⟨gb165, 10, none⟩ = some (.int .i64 a0_10) := bc BK165 10; have hfz146_0 := bf BK165 0; have hfz146_1 := bf BK165 1; have hfz146_2 := bf BK165 2; have hfz146_3 := bf BK165 3; have hfz146_4 := bf BK165 4; have hfz146_5 := bf BK165 5; have hfz146_6 := bf BK165 6; have hfz146_7 := bf BK165 7; have hfz146_8 := bf BK165 8; have hfz146_9 := bf BK165 9; have hfz146_10 := bf BK165 10) | ((with_reducible refine gate_callee (f := 113) rfl ?_); refine goesL_ (some 10) rfl rfl Tryd.func113 (by kernel_rfl) rfl #[.int .i64 a0_0, .int .i64 a0_1] rfl (by (try simp only [List.map_toArray, List.map_cons, List.map_nil]); first | done | rfl | (simp only [List.length_drop, List.length_take]; rfl)) ?_; (with_reducible refine (lectionaryref4_name.calls a0_0 a0_1 false _ A2.out).mono ?_); rintro e w' ⟨rfl, ⟨nd, rfl⟩⟩; refine ⟨_, rfl, ?_⟩))
  go_ret
  exact ⟨by first | rfl | (simp [errW_none, errW_some] <;> rfl) | (simp [*, errW_none, errW_some] <;> rfl), by repeat (first | (with_reducible first | exact HB.out | apply below_alloc | apply pw_below_drewN | apply below_drew1 | refine below_set ?_ GE165.out) | exact HB.out)⟩
end Go.Proofs.YtdahgnalojekdaaDoor.L
end
