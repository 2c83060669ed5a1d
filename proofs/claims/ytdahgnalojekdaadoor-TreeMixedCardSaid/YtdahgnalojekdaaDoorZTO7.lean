/- Part 7 of the proof that for every argument the laws TreeBegins, TreeChains, TreeForks and TreeMixed answer true: where all is written behind the begin, each into the last one, some behind the same elements, or here and there, the order is the page's, by rows made here; the cards tie the two tables of unicode/utf8 that are laid -/
import Derived.Test.YtdahgnalojekdaaDoorZTO6
section
namespace Go.Proofs.YtdahgnalojekdaaDoor.L
open Go.RowKit Go.Proofs.YtdahgnalojekdaaDoorW.PrintWords Go.Proofs.YtdahgnalojekdaaDoorW.PrintLast Go.Proofs.YtdahgnalojekdaaDoorW.PrintMore
attribute [local go_sem] max2_int min2_int max_two min_two max_three min_three max_four min_four
set_option linter.unusedVariables false
set_option linter.unusedSimpArgs false
mutual
def lectionaryref4_Op.j0 : Nat → Bool → Int → Int → Int → Int → Int → Int → ByteArray → List (SElem) → Int → Int → Int → Option (Bool)
 | 0, _, _, _, _, _, _, _, _, _, _, _, _ => none
 | k + 1, x89, x166000, x166001, x166002, x166003, x166004, x166005, x166006, x166007, x166008, x166009, x166010 => if x89 = true then (some false) else ((lectionaryref1_Runes.f k x166006).bind fun bt172 => (if bt172.2 = true then (if (bt172.1.length : Int) > 12 then (lectionaryref4_Op.j1 k true x166000 x166001 x166002 x166003 x166004 x166005 x166006 x166007 x166008 x166009 x166010) else ((lectionaryref4_Elem.f x166003 x166004 x166005).bind fun t176 => (if t176 = true then (if (bt172.1.length : Int) = 0 then ((lectionaryref4_Begin.f x166003 x166004 x166005).bind fun t177 => (if t177 = true then ((lectionaryref4_own.f x166000 x166001 x166002 x166003 x166004 x166005 x166006 x166007 x166008 x166009 x166010 x166003 x166004 x166005).bind fun t178 => (lectionaryref4_Op.j1 k t178 x166000 x166001 x166002 x166003 x166004 x166005 x166006 x166007 x166008 x166009 x166010)) else (lectionaryref4_Op.j1 k true x166000 x166001 x166002 x166003 x166004 x166005 x166006 x166007 x166008 x166009 x166010))) else ((lectionaryref4_own.f x166000 x166001 x166002 x166003 x166004 x166005 x166006 x166007 x166008 x166009 x166010 x166003 x166004 x166005).bind fun t179 => (lectionaryref4_Op.j1 k t179 x166000 x166001 x166002 x166003 x166004 x166005 x166006 x166007 x166008 x166009 x166010))) else (lectionaryref4_Op.j1 k true x166000 x166001 x166002 x166003 x166004 x166005 x166006 x166007 x166008 x166009 x166010)))) else (lectionaryref4_Op.j1 k true x166000 x166001 x166002 x166003 x166004 x166005 x166006 x166007 x166008 x166009 x166010)))
def lectionaryref4_Op.j1 : Nat → Bool → Int → Int → Int → Int → Int → Int → ByteArray → List (SElem) → Int → Int → Int → Option (Bool)
 | 0, _, _, _, _, _, _, _, _, _, _, _, _ => none
 | k + 1, x125, x166000, x166001, x166002, x166003, x166004, x166005, x166006, x166007, x166008, x166009, x166010 => if x125 = true then (some false) else (lectionaryref4_Op.l0 k 0 x166000 x166001 x166002 x166003 x166004 x166005 x166006 x166007 x166008 x166009 x166010)
def lectionaryref4_Op.l0 : Nat → Int → Int → Int → Int → Int → Int → Int → ByteArray → List (SElem) → Int → Int → Int → Option (Bool)
 | 0, _, _, _, _, _, _, _, _, _, _, _, _ => none
 | k + 1, x5, x166000, x166001, x166002, x166003, x166004, x166005, x166006, x166007, x166008, x166009, x166010 => if x5 < (x166007.length : Int) then (if 0 ≤ x5 then ((lectionaryref4_Begin.f ((rd_Elem x166007 x5).f0) ((rd_Elem x166007 x5).f1) ((rd_Elem x166007 x5).f2)).bind fun t181 => (if t181 = true then (some false) else ((lectionaryref4_Elem.f ((rd_Elem x166007 x5).f0) ((rd_Elem x166007 x5).f1) ((rd_Elem x166007 x5).f2)).bind fun t183 => (if t183 = true then ((lectionaryref4_own.f x166000 x166001 x166002 x166003 x166004 x166005 x166006 x166007 x166008 x166009 x166010 ((rd_Elem x166007 x5).f0) ((rd_Elem x166007 x5).f1) ((rd_Elem x166007 x5).f2)).bind fun t185 => (if t185 = true then (some false) else (if x5 > 0 then (if 0 ≤ (wrap64 (x5 - 1)) then (if (wrap64 (x5 - 1)) < (x166007.length : Int) then ((lectionaryref4_Less.f ((rd_Elem x166007 (wrap64 (x5 - 1))).f0) ((rd_Elem x166007 (wrap64 (x5 - 1))).f1) ((rd_Elem x166007 (wrap64 (x5 - 1))).f2) ((rd_Elem x166007 x5).f0) ((rd_Elem x166007 x5).f1) ((rd_Elem x166007 x5).f2)).bind fun t188 => (if t188 = true then (lectionaryref4_Op.l0 k (wrap64 (x5 + 1)) x166000 x166001 x166002 x166003 x166004 x166005 x166006 x166007 x166008 x166009 x166010) else (some false))) else (none)) else (none)) else (lectionaryref4_Op.l0 k (wrap64 (x5 + 1)) x166000 x166001 x166002 x166003 x166004 x166005 x166006 x166007 x166008 x166009 x166010)))) else (some false))))) else (none)) else (some true)
end
def lectionaryref4_Op.f (k : Nat) (a0_0 : Int) (a0_1 : Int) (a0_2 : Int) (a0_3 : Int) (a0_4 : Int) (a0_5 : Int) (a0_6 : ByteArray) (l0_7 : List (SElem)) (a0_8 : Int) (a0_9 : Int) (a0_10 : Int) : Option (Bool) := (lectionaryref4_name.f a0_0 a0_1).bind fun t166 => (if t166 = true then (if a0_2 = 2 then ((lectionaryref4_name.f a0_8 a0_9).bind fun t167 => (if t167 = true then (if a0_8 = a0_0 then (if a0_9 = a0_1 then (some false) else ((lectionaryref0_Num.f a0_10 268435456).bind fun t168 => (if t168 = true then ((lectionaryref4_Begin.f a0_3 a0_4 a0_5).bind fun t169 => (if t169 = true then (if a0_6.toList = ([] : List UInt8) then (some ((l0_7.length : Int) == 0)) else (some false)) else (some false))) else (some false)))) else ((lectionaryref0_Num.f a0_10 268435456).bind fun t170 => (if t170 = true then ((lectionaryref4_Begin.f a0_3 a0_4 a0_5).bind fun t171 => (if t171 = true then (if a0_6.toList = ([] : List UInt8) then (some ((l0_7.length : Int) == 0)) else (some false)) else (some false))) else (some false)))) else (some false))) else (if a0_2 = 1 then (if a0_8 = 0 then (if a0_9 = 0 then (if a0_10 = 0 then (if (l0_7.length : Int) > 200 then (lectionaryref4_Op.j0 k true a0_0 a0_1 a0_2 a0_3 a0_4 a0_5 a0_6 l0_7 a0_8 a0_9 a0_10) else (if a0_6.toList = ([] : List UInt8) then (lectionaryref4_Op.j0 k ((l0_7.length : Int) == 0) a0_0 a0_1 a0_2 a0_3 a0_4 a0_5 a0_6 l0_7 a0_8 a0_9 a0_10) else (lectionaryref4_Op.j0 k false a0_0 a0_1 a0_2 a0_3 a0_4 a0_5 a0_6 l0_7 a0_8 a0_9 a0_10))) else (lectionaryref4_Op.j0 k true a0_0 a0_1 a0_2 a0_3 a0_4 a0_5 a0_6 l0_7 a0_8 a0_9 a0_10)) else (lectionaryref4_Op.j0 k true a0_0 a0_1 a0_2 a0_3 a0_4 a0_5 a0_6 l0_7 a0_8 a0_9 a0_10)) else (lectionaryref4_Op.j0 k true a0_0 a0_1 a0_2 a0_3 a0_4 a0_5 a0_6 l0_7 a0_8 a0_9 a0_10)) else (lectionaryref4_Op.j0 k true a0_0 a0_1 a0_2 a0_3 a0_4 a0_5 a0_6 l0_7 a0_8 a0_9 a0_10))) else (some false))
def lectionaryref4_Op.T13 : Bool × List (List Nat × List Nat) := (true, [([], []), ([0], [0]), ([], []), ([1, 2], [1, 2]), ([3], [3]), ([4], [4]), ([5, 5], [5]), ([6], [6]), ([7, 6], [6, 7]), ([6], [6]), ([8, 9, 6], [6, 8, 9]), ([10, 6], [6, 10]), ([11, 6, 6], [6, 11]), ([12, 6], [6, 12]), ([6, 13], [6, 13]), ([14, 12], [14]), ([15], [15]), ([15], [15]), ([17, 15], [15, 17]), ([15], [15]), ([18, 19, 15], [15, 18, 19]), ([20, 15], [15, 20]), ([16, 21, 15, 15], [15, 16, 21]), ([15, 22], [15, 22]), ([23, 22], [23]), ([24], [24]), ([25, 24], [24, 25]), ([26, 24, 24], [24, 26]), ([27], [27]), ([28, 27], [27, 28]), ([27], [27]), ([30, 27], [27, 30]), ([29, 31, 27], [27, 29, 31]), ([32, 27], [27, 32]), ([27], [27]), ([34, 27], [27, 34]), ([27], [27]), ([35, 36, 27], [27, 35, 36]), ([37, 27], [27, 37]), ([33, 38, 27, 27], [27, 33, 38]), ([39, 27], [27, 39]), ([27, 40, 24], [24, 27, 40]), ([24, 41], [24, 41])])
def lectionaryref4_Op.B13 : List Nat := [0, 1, 0, 7, 15, 31, 63, 127, 255, 127, 1023, 2047, 4095, 8191, 16383, 32767, 65535, 65535, 196607, 65535, 983039, 2031615, 4194303, 8388607, 16777215, 33554431, 67108863, 134217727, 268435455, 536870911, 268435455, 1342177279, 4294967295, 8589934591, 268435455, 17448304639, 268435455, 120527519743, 257966473215, 549755813887, 1099511627775, 2199023255551, 4398046511103]
theorem lectionaryref4_Op.tab13 : rtab .any (opsOf Tryd.f57 13) = lectionaryref4_Op.T13 := by kernel_rfl
theorem lectionaryref4_Op.bits13 : waitsOk lectionaryref4_Op.T13.2 lectionaryref4_Op.B13 = true := by kernel_rfl
set_option maxHeartbeats 8000000 in
set_option maxRecDepth 100000 in
theorem lectionaryref4_Op.calls (k : Nat) (a0_0 : Int) (a0_1 : Int) (a0_2 : Int) (a0_3 : Int) (a0_4 : Int) (a0_5 : Int) (a0_6 : ByteArray) (A0_7 : Option Addr) (c0_7 : Nat) (l0_7 : List (SElem)) (a0_8 : Int) (a0_9 : Int) (a0_10 : Int) (r : Bool) (w : World) (hr0_7 : Kd.C kElem w A0_7 l0_7.length l0_7) (hc0_7 : l0_7.length ≤ c0_7) (hT : GT w) (h : lectionaryref4_Op.f k a0_0 a0_1 a0_2 a0_3 a0_4 a0_5 a0_6 l0_7 a0_8 a0_9 a0_10 = some r) :
  Calls Tryd.prog 57 #[.agg #[.int .i64 a0_0, .int .i64 a0_1, .int .i64 a0_2, .int .i64 a0_3, .int .i64 a0_4, .int .i64 a0_5, .string a0_6, .slice A0_7 l0_7.length c0_7, .int .i64 a0_8, .int .i64 a0_9, .int .i64 a0_10]] w fun e w' => e = .returned (.bool r) ∧ Below w.heap.size w w' := by
 have hu31 := Tryd.underlying31
 have hu29 := Tryd.underlying29
 have HR0_7 := Aside0.mk hr0_7
 have HC0_7 := Aside0.mk hc0_7
 clear hr0_7 hc0_7
 have HB := Aside0.mk (Below.refl w.heap.size w)
 have H : ((lectionaryref4_name.f a0_0 a0_1).bind fun t166 => (if t166 = true then (if a0_2 = 2 then ((lectionaryref4_name.f a0_8 a0_9).bind fun t167 => (if t167 = true then (if a0_8 = a0_0 then (if a0_9 = a0_1 then (some false) else ((lectionaryref0_Num.f a0_10 268435456).bind fun t168 => (if t168 = true then ((lectionaryref4_Begin.f a0_3 a0_4 a0_5).bind fun t169 => (if t169 = true then (if a0_6.toList = ([] : List UInt8) then (some ((l0_7.length : Int) == 0)) else (some false)) else (some false))) else (some false)))) else ((lectionaryref0_Num.f a0_10 268435456).bind fun t170 => (if t170 = true then ((lectionaryref4_Begin.f a0_3 a0_4 a0_5).bind fun t171 => (if t171 = true then (if a0_6.toList = ([] : List UInt8) then (some ((l0_7.length : Int) == 0)) else (some false)) else (some false))) else (some false)))) else (some false))) else (if a0_2 = 1 then (if a0_8 = 0 then (if a0_9 = 0 then (if a0_10 = 0 then (if (l0_7.length : Int) > 200 then (lectionaryref4_Op.j0 k true a0_0 a0_1 a0_2 a0_3 a0_4 a0_5 a0_6 l0_7 a0_8 a0_9 a0_10) else (if a0_6.toList = ([] : List UInt8) then (lectionaryref4_Op.j0 k ((l0_7.length : Int) == 0) a0_0 a0_1 a0_2 a0_3 a0_4 a0_5 a0_6 l0_7 a0_8 a0_9 a0_10) else (lectionaryref4_Op.j0 k false a0_0 a0_1 a0_2 a0_3 a0_4 a0_5 a0_6 l0_7 a0_8 a0_9 a0_10))) else (lectionaryref4_Op.j0 k true a0_0 a0_1 a0_2 a0_3 a0_4 a0_5 a0_6 l0_7 a0_8 a0_9 a0_10)) else (lectionaryref4_Op.j0 k true a0_0 a0_1 a0_2 a0_3 a0_4 a0_5 a0_6 l0_7 a0_8 a0_9 a0_10)) else (lectionaryref4_Op.j0 k true a0_0 a0_1 a0_2 a0_3 a0_4 a0_5 a0_6 l0_7 a0_8 a0_9 a0_10)) else (lectionaryref4_Op.j0 k true a0_0 a0_1 a0_2 a0_3 a0_4 a0_5 a0_6 l0_7 a0_8 a0_9 a0_10))) else (some false))) = some r := h
 clear h
 replace H := Option.bind_eq_some_iff.mp H
 obtain ⟨t166, A20, H⟩ := H
 replace H : (if t166 = true then (if a0_2 = 2 then ((lectionaryref4_name.f a0_8 a0_9).bind fun t167 => (if t167 = true then (if a0_8 = a0_0 then (if a0_9 = a0_1 then (some false) else ((lectionaryref0_Num.f a0_10 268435456).bind fun t168 => (if t168 = true then ((lectionaryref4_Begin.f a0_3 a0_4 a0_5).bind fun t169 => (if t169 = true then (if a0_6.toList = ([] : List UInt8) then (some ((l0_7.length : Int) == 0)) else (some false)) else (some false))) else (some false)))) else ((lectionaryref0_Num.f a0_10 268435456).bind fun t170 => (if t170 = true then ((lectionaryref4_Begin.f a0_3 a0_4 a0_5).bind fun t171 => (if t171 = true then (if a0_6.toList = ([] : List UInt8) then (some ((l0_7.length : Int) == 0)) else (some false)) else (some false))) else (some false)))) else (some false))) else (if a0_2 = 1 then (if a0_8 = 0 then (if a0_9 = 0 then (if a0_10 = 0 then (if (l0_7.length : Int) > 200 then (lectionaryref4_Op.j0 k true a0_0 a0_1 a0_2 a0_3 a0_4 a0_5 a0_6 l0_7 a0_8 a0_9 a0_10) else (if a0_6.toList = ([] : List UInt8) then (lectionaryref4_Op.j0 k ((l0_7.length : Int) == 0) a0_0 a0_1 a0_2 a0_3 a0_4 a0_5 a0_6 l0_7 a0_8 a0_9 a0_10) else (lectionaryref4_Op.j0 k false a0_0 a0_1 a0_2 a0_3 a0_4 a0_5 a0_6 l0_7 a0_8 a0_9 a0_10))) else (lectionaryref4_Op.j0 k true a0_0 a0_1 a0_2 a0_3 a0_4 a0_5 a0_6 l0_7 a0_8 a0_9 a0_10)) else (lectionaryref4_Op.j0 k true a0_0 a0_1 a0_2 a0_3 a0_4 a0_5 a0_6 l0_7 a0_8 a0_9 a0_10)) else (lectionaryref4_Op.j0 k true a0_0 a0_1 a0_2 a0_3 a0_4 a0_5 a0_6 l0_7 a0_8 a0_9 a0_10)) else (lectionaryref4_Op.j0 k true a0_0 a0_1 a0_2 a0_3 a0_4 a0_5 a0_6 l0_7 a0_8 a0_9 a0_10))) else (some false)) = some r := H
 have A2 := Aside0.mk A20
 clear A20
 by_cases c3 : t166 = true
 ·as_aux_lemma =>
  subst c3
  have H1 : (if a0_2 = 2 then ((lectionaryref4_name.f a0_8 a0_9).bind fun t167 => (if t167 = true then (if a0_8 = a0_0 then (if a0_9 = a0_1 then (some false) else ((lectionaryref0_Num.f a0_10 268435456).bind fun t168 => (if t168 = true then ((lectionaryref4_Begin.f a0_3 a0_4 a0_5).bind fun t169 => (if t169 = true then (if a0_6.toList = ([] : List UInt8) then (some ((l0_7.length : Int) == 0)) else (some false)) else (some false))) else (some false)))) else ((lectionaryref0_Num.f a0_10 268435456).bind fun t170 => (if t170 = true then ((lectionaryref4_Begin.f a0_3 a0_4 a0_5).bind fun t171 => (if t171 = true then (if a0_6.toList = ([] : List UInt8) then (some ((l0_7.length : Int) == 0)) else (some false)) else (some false))) else (some false)))) else (some false))) else (if a0_2 = 1 then (if a0_8 = 0 then (if a0_9 = 0 then (if a0_10 = 0 then (if (l0_7.length : Int) > 200 then (lectionaryref4_Op.j0 k true a0_0 a0_1 a0_2 a0_3 a0_4 a0_5 a0_6 l0_7 a0_8 a0_9 a0_10) else (if a0_6.toList = ([] : List UInt8) then (lectionaryref4_Op.j0 k ((l0_7.length : Int) == 0) a0_0 a0_1 a0_2 a0_3 a0_4 a0_5 a0_6 l0_7 a0_8 a0_9 a0_10) else (lectionaryref4_Op.j0 k false a0_0 a0_1 a0_2 a0_3 a0_4 a0_5 a0_6 l0_7 a0_8 a0_9 a0_10))) else (lectionaryref4_Op.j0 k true a0_0 a0_1 a0_2 a0_3 a0_4 a0_5 a0_6 l0_7 a0_8 a0_9 a0_10)) else (lectionaryref4_Op.j0 k true a0_0 a0_1 a0_2 a0_3 a0_4 a0_5 a0_6 l0_7 a0_8 a0_9 a0_10)) else (lectionaryref4_Op.j0 k true a0_0 a0_1 a0_2 a0_3 a0_4 a0_5 a0_6 l0_7 a0_8 a0_9 a0_10)) else (lectionaryref4_Op.j0 k true a0_0 a0_1 a0_2 a0_3 a0_4 a0_5 a0_6 l0_7 a0_8 a0_9 a0_10))) = some r := by rw [if_pos rfl] at H; exact H
  clear H
  have H := H1
  clear H1
  by_cases c4 : a0_2 = 2
  ·as_aux_lemma =>
   rw [if_pos c4] at H
   have c4b0 : (a0_2 == 2) = true := beq_iff_eq.mpr c4
   have c4b1 : (a0_2 != 2) = false := bne_eq_false_iff_eq.mpr c4
   clear c4
   replace H := Option.bind_eq_some_iff.mp H
   obtain ⟨t167, A50, H⟩ := H
   replace H : (if t167 = true then (if a0_8 = a0_0 then (if a0_9 = a0_1 then (some false) else ((lectionaryref0_Num.f a0_10 268435456).bind fun t168 => (if t168 = true then ((lectionaryref4_Begin.f a0_3 a0_4 a0_5).bind fun t169 => (if t169 = true then (if a0_6.toList = ([] : List UInt8) then (some ((l0_7.length : Int) == 0)) else (some false)) else (some false))) else (some false)))) else ((lectionaryref0_Num.f a0_10 268435456).bind fun t170 => (if t170 = true then ((lectionaryref4_Begin.f a0_3 a0_4 a0_5).bind fun t171 => (if t171 = true then (if a0_6.toList = ([] : List UInt8) then (some ((l0_7.length : Int) == 0)) else (some false)) else (some false))) else (some false)))) else (some false)) = some r := H
   have A5 := Aside0.mk A50
   clear A50
   by_cases c6 : t167 = true
   ·as_aux_lemma =>
    subst c6
    have H1 : (if a0_8 = a0_0 then (if a0_9 = a0_1 then (some false) else ((lectionaryref0_Num.f a0_10 268435456).bind fun t168 => (if t168 = true then ((lectionaryref4_Begin.f a0_3 a0_4 a0_5).bind fun t169 => (if t169 = true then (if a0_6.toList = ([] : List UInt8) then (some ((l0_7.length : Int) == 0)) else (some false)) else (some false))) else (some false)))) else ((lectionaryref0_Num.f a0_10 268435456).bind fun t170 => (if t170 = true then ((lectionaryref4_Begin.f a0_3 a0_4 a0_5).bind fun t171 => (if t171 = true then (if a0_6.toList = ([] : List UInt8) then (some ((l0_7.length : Int) == 0)) else (some false)) else (some false))) else (some false)))) = some r := by rw [if_pos rfl] at H; exact H
    clear H
    have H := H1
    clear H1
    by_cases c7 : a0_8 = a0_0
    ·as_aux_lemma =>
     rw [if_pos c7] at H
     have c7b0 : (a0_8 == a0_0) = true := beq_iff_eq.mpr c7
     have c7b1 : (a0_8 != a0_0) = false := bne_eq_false_iff_eq.mpr c7
     clear c7
     by_cases c8 : a0_9 = a0_1
     ·rw [if_pos c8] at H
      have c8b0 : (a0_9 == a0_1) = true := beq_iff_eq.mpr c8
      have c8b1 : (a0_9 != a0_1) = false := bne_eq_false_iff_eq.mpr c8
      clear c8
      obtain rfl := Option.some.inj H
      go_enter Tryd.func57, Tryd.ntmps57
      go_wp2_with (first | ((with_reducible refine gate_dst (N := 1) rfl ?_); (try (refine gate_guard (by rfl) ?_; dsimp only)); refine bx 1 #[.int .i64 a0_0, .int .i64 a0_1, .int .i64 a0_2, .int .i64 a0_3, .int .i64 a0_4, .int .i64 a0_5, .string a0_6, .slice A0_7 l0_7.length c0_7, .int .i64 a0_8, .int .i64 a0_9, .int .i64 a0_10] 31 (h := ?_); intro gb165 hg w9 hbox hb; have BK165 := Aside0.mk (hbox); have GW165 := bz HB hg; have GE165 := bz HB hg; replace HB := bs HB hb; clear hb hbox hg; obtain ⟨hcz10_0, hcz10_1, hcz10_2, hcz10_3, hcz10_4, hcz10_5, hcz10_6, hcz10_7, hcz10_8, hcz10_9, hcz10_10, hfz10_0, hfz10_1, hfz10_2, hfz10_3, hfz10_4, hfz10_5, hfz10_6, hfz10_7, hfz10_8, hfz10_9, hfz10_10⟩ := kc11 BK165) | ((with_reducible refine gate_callee (f := 113) rfl ?_); refine gl (some 10) Tryd.func113 #[.int .i64 a0_0, .int .i64 a0_1] (h := ?_); (with_reducible refine (lectionaryref4_name.calls a0_0 a0_1 true _ A2.out).mono ?_); rintro e w' ⟨rfl, ⟨nd, rfl⟩⟩; refine ⟨_, rfl, ?_⟩) | ((with_reducible refine gate_callee (f := 113) rfl ?_); refine gl (some 19) Tryd.func113 #[.int .i64 a0_8, .int .i64 a0_9] (h := ?_); (with_reducible refine (lectionaryref4_name.calls a0_8 a0_9 true _ A5.out).mono ?_); rintro e w' ⟨rfl, ⟨nd, rfl⟩⟩; refine ⟨_, rfl, ?_⟩))
      go_ret
      exact ⟨re, bw HB⟩
     rw [if_neg c8] at H
     have c8b0 : (a0_9 == a0_1) = false := beq_eq_false_iff_ne.mpr c8
     have c8b1 : (a0_9 != a0_1) = true := bne_iff_ne.mpr c8
     replace H := Option.bind_eq_some_iff.mp H
     obtain ⟨t168, A110, H⟩ := H
     replace H : (if t168 = true then ((lectionaryref4_Begin.f a0_3 a0_4 a0_5).bind fun t169 => (if t169 = true then (if a0_6.toList = ([] : List UInt8) then (some ((l0_7.length : Int) == 0)) else (some false)) else (some false))) else (some false)) = some r := H
     have A11 := Aside0.mk A110
     clear A110
     by_cases c12 : t168 = true
     ·as_aux_lemma =>
      subst c12
      have H1 : ((lectionaryref4_Begin.f a0_3 a0_4 a0_5).bind fun t169 => (if t169 = true then (if a0_6.toList = ([] : List UInt8) then (some ((l0_7.length : Int) == 0)) else (some false)) else (some false))) = some r := by rw [if_pos rfl] at H; exact H
      clear H
      have H := H1
      clear H1
      replace H := Option.bind_eq_some_iff.mp H
      obtain ⟨t169, A130, H⟩ := H
      replace H : (if t169 = true then (if a0_6.toList = ([] : List UInt8) then (some ((l0_7.length : Int) == 0)) else (some false)) else (some false)) = some r := H
      have A13 := Aside0.mk A130
      clear A130
      by_cases c14 : t169 = true
      ·as_aux_lemma =>
       subst c14
       have H1 : (if a0_6.toList = ([] : List UInt8) then (some ((l0_7.length : Int) == 0)) else (some false)) = some r := by rw [if_pos rfl] at H; exact H
       clear H
       have H := H1
       clear H1
       by_cases c15 : a0_6.toList = ([] : List UInt8)
       ·rw [if_pos c15] at H
        have c15b0 : (a0_6.toList == ([] : List UInt8)) = true := beq_iff_eq.mpr c15
        have c15b1 : (a0_6.toList != ([] : List UInt8)) = false := bne_eq_false_iff_eq.mpr c15
        clear c15
        obtain rfl := Option.some.inj H
        go_enter Tryd.func57, Tryd.ntmps57
        go_wp2_with (first | ((with_reducible refine gate_dst (N := 1) rfl ?_); (try (refine gate_guard (by rfl) ?_; dsimp only)); refine bx 1 #[.int .i64 a0_0, .int .i64 a0_1, .int .i64 a0_2, .int .i64 a0_3, .int .i64 a0_4, .int .i64 a0_5, .string a0_6, .slice A0_7 l0_7.length c0_7, .int .i64 a0_8, .int .i64 a0_9, .int .i64 a0_10] 31 (h := ?_); intro gb165 hg w16 hbox hb; have BK165 := Aside0.mk (hbox); have GW165 := bz HB hg; have GE165 := bz HB hg; replace HB := bs HB hb; clear hb hbox hg; obtain ⟨hcz17_0, hcz17_1, hcz17_2, hcz17_3, hcz17_4, hcz17_5, hcz17_6, hcz17_7, hcz17_8, hcz17_9, hcz17_10, hfz17_0, hfz17_1, hfz17_2, hfz17_3, hfz17_4, hfz17_5, hfz17_6, hfz17_7, hfz17_8, hfz17_9, hfz17_10⟩ := kc11 BK165) | ((with_reducible refine gate_callee (f := 113) rfl ?_); refine gl (some 10) Tryd.func113 #[.int .i64 a0_0, .int .i64 a0_1] (h := ?_); (with_reducible refine (lectionaryref4_name.calls a0_0 a0_1 true _ A2.out).mono ?_); rintro e w' ⟨rfl, ⟨nd, rfl⟩⟩; refine ⟨_, rfl, ?_⟩) | ((with_reducible refine gate_callee (f := 113) rfl ?_); refine gl (some 19) Tryd.func113 #[.int .i64 a0_8, .int .i64 a0_9] (h := ?_); (with_reducible refine (lectionaryref4_name.calls a0_8 a0_9 true _ A5.out).mono ?_); rintro e w' ⟨rfl, ⟨nd, rfl⟩⟩; refine ⟨_, rfl, ?_⟩) | (go_at_call 51; (with_reducible refine (lectionaryref0_Num.calls a0_10 268435456 true _ A11.out).mono ?_); rintro e w' ⟨rfl, ⟨nd, rfl⟩⟩) | (go_at_call 77; (with_reducible refine (lectionaryref4_Begin.calls a0_3 a0_4 a0_5 true _ A13.out).mono ?_); rintro e w18 ⟨rfl, hb⟩; replace BK165 := bl BK165 hb; replace HB := bs HB hb; (try clear hb); (try clear hb2); (try clear hk); (try clear hi); obtain ⟨hcz19_0, hcz19_1, hcz19_2, hcz19_3, hcz19_4, hcz19_5, hcz19_6, hcz19_7, hcz19_8, hcz19_9, hcz19_10, hfz19_0, hfz19_1, hfz19_2, hfz19_3, hfz19_4, hfz19_5, hfz19_6, hfz19_7, hfz19_8, hfz19_9, hfz19_10⟩ := kc11 BK165))
        go_ret
        exact ⟨re, bw HB⟩
       rw [if_neg c15] at H
       have c15b0 : (a0_6.toList == ([] : List UInt8)) = false := beq_eq_false_iff_ne.mpr c15
       have c15b1 : (a0_6.toList != ([] : List UInt8)) = true := bne_iff_ne.mpr c15
       obtain rfl := Option.some.inj H
       go_enter Tryd.func57, Tryd.ntmps57
       go_wp2_with (first | ((with_reducible refine gate_dst (N := 1) rfl ?_); (try (refine gate_guard (by rfl) ?_; dsimp only)); refine bx 1 #[.int .i64 a0_0, .int .i64 a0_1, .int .i64 a0_2, .int .i64 a0_3, .int .i64 a0_4, .int .i64 a0_5, .string a0_6, .slice A0_7 l0_7.length c0_7, .int .i64 a0_8, .int .i64 a0_9, .int .i64 a0_10] 31 (h := ?_); intro gb165 hg w20 hbox hb; have BK165 := Aside0.mk (hbox); have GW165 := bz HB hg; have GE165 := bz HB hg; replace HB := bs HB hb; clear hb hbox hg; obtain ⟨hcz21_0, hcz21_1, hcz21_2, hcz21_3, hcz21_4, hcz21_5, hcz21_6, hcz21_7, hcz21_8, hcz21_9, hcz21_10, hfz21_0, hfz21_1, hfz21_2, hfz21_3, hfz21_4, hfz21_5, hfz21_6, hfz21_7, hfz21_8, hfz21_9, hfz21_10⟩ := kc11 BK165) | ((with_reducible refine gate_callee (f := 113) rfl ?_); refine gl (some 10) Tryd.func113 #[.int .i64 a0_0, .int .i64 a0_1] (h := ?_); (with_reducible refine (lectionaryref4_name.calls a0_0 a0_1 true _ A2.out).mono ?_); rintro e w' ⟨rfl, ⟨nd, rfl⟩⟩; refine ⟨_, rfl, ?_⟩) | ((with_reducible refine gate_callee (f := 113) rfl ?_); refine gl (some 19) Tryd.func113 #[.int .i64 a0_8, .int .i64 a0_9] (h := ?_); (with_reducible refine (lectionaryref4_name.calls a0_8 a0_9 true _ A5.out).mono ?_); rintro e w' ⟨rfl, ⟨nd, rfl⟩⟩; refine ⟨_, rfl, ?_⟩) | (go_at_call 51; (with_reducible refine (lectionaryref0_Num.calls a0_10 268435456 true _ A11.out).mono ?_); rintro e w' ⟨rfl, ⟨nd, rfl⟩⟩) | (go_at_call 77; (with_reducible refine (lectionaryref4_Begin.calls a0_3 a0_4 a0_5 true _ A13.out).mono ?_); rintro e w22 ⟨rfl, hb⟩; replace BK165 := bl BK165 hb; replace HB := bs HB hb; (try clear hb); (try clear hb2); (try clear hk); (try clear hi); obtain ⟨hcz23_0, hcz23_1, hcz23_2, hcz23_3, hcz23_4, hcz23_5, hcz23_6, hcz23_7, hcz23_8, hcz23_9, hcz23_10, hfz23_0, hfz23_1, hfz23_2, hfz23_3, hfz23_4, hfz23_5, hfz23_6, hfz23_7, hfz23_8, hfz23_9, hfz23_10⟩ := kc11 BK165))
       go_ret
       exact ⟨re, bw HB⟩
      replace c14 := Bool.eq_false_iff.mpr c14
      subst c14
      have H1 : (some false) = some r := by rw [if_neg (show ¬ (false = true) by decide)] at H; exact H
      clear H
      have H := H1
      clear H1
      obtain rfl := Option.some.inj H
      go_enter Tryd.func57, Tryd.ntmps57
      go_wp2_with (first | ((with_reducible refine gate_dst (N := 1) rfl ?_); (try (refine gate_guard (by rfl) ?_; dsimp only)); refine bx 1 #[.int .i64 a0_0, .int .i64 a0_1, .int .i64 a0_2, .int .i64 a0_3, .int .i64 a0_4, .int .i64 a0_5, .string a0_6, .slice A0_7 l0_7.length c0_7, .int .i64 a0_8, .int .i64 a0_9, .int .i64 a0_10] 31 (h := ?_); intro gb165 hg w24 hbox hb; have BK165 := Aside0.mk (hbox); have GW165 := bz HB hg; have GE165 := bz HB hg; replace HB := bs HB hb; clear hb hbox hg; obtain ⟨hcz25_0, hcz25_1, hcz25_2, hcz25_3, hcz25_4, hcz25_5, hcz25_6, hcz25_7, hcz25_8, hcz25_9, hcz25_10, hfz25_0, hfz25_1, hfz25_2, hfz25_3, hfz25_4, hfz25_5, hfz25_6, hfz25_7, hfz25_8, hfz25_9, hfz25_10⟩ := kc11 BK165) | ((with_reducible refine gate_callee (f := 113) rfl ?_); refine gl (some 10) Tryd.func113 #[.int .i64 a0_0, .int .i64 a0_1] (h := ?_); (with_reducible refine (lectionaryref4_name.calls a0_0 a0_1 true _ A2.out).mono ?_); rintro e w' ⟨rfl, ⟨nd, rfl⟩⟩; refine ⟨_, rfl, ?_⟩) | ((with_reducible refine gate_callee (f := 113) rfl ?_); refine gl (some 19) Tryd.func113 #[.int .i64 a0_8, .int .i64 a0_9] (h := ?_); (with_reducible refine (lectionaryref4_name.calls a0_8 a0_9 true _ A5.out).mono ?_); rintro e w' ⟨rfl, ⟨nd, rfl⟩⟩; refine ⟨_, rfl, ?_⟩) | (go_at_call 51; (with_reducible refine (lectionaryref0_Num.calls a0_10 268435456 true _ A11.out).mono ?_); rintro e w' ⟨rfl, ⟨nd, rfl⟩⟩) | (go_at_call 77; (with_reducible refine (lectionaryref4_Begin.calls a0_3 a0_4 a0_5 false _ A13.out).mono ?_); rintro e w26 ⟨rfl, hb⟩; replace BK165 := bl BK165 hb; replace HB := bs HB hb; (try clear hb); (try clear hb2); (try clear hk); (try clear hi)))
      go_ret
      exact ⟨re, bw HB⟩
     replace c12 := Bool.eq_false_iff.mpr c12
     subst c12
     have H1 : (some false) = some r := by rw [if_neg (show ¬ (false = true) by decide)] at H; exact H
     clear H
     have H := H1
     clear H1
     obtain rfl := Option.some.inj H
     go_enter Tryd.func57, Tryd.ntmps57
     go_wp2_with (first | ((with_reducible refine gate_dst (N := 1) rfl ?_); (try (refine gate_guard (by rfl) ?_; dsimp only)); refine bx 1 #[.int .i64 a0_0, .int .i64 a0_1, .int .i64 a0_2, .int .i64 a0_3, .int .i64 a0_4, .int .i64 a0_5, .string a0_6, .slice A0_7 l0_7.length c0_7, .int .i64 a0_8, .int .i64 a0_9, .int .i64 a0_10] 31 (h := ?_); intro gb165 hg w27 hbox hb; have BK165 := Aside0.mk (hbox); have GW165 := bz HB hg; have GE165 := bz HB hg; replace HB := bs HB hb; clear hb hbox hg; obtain ⟨hcz28_0, hcz28_1, hcz28_2, hcz28_3, hcz28_4, hcz28_5, hcz28_6, hcz28_7, hcz28_8, hcz28_9, hcz28_10, hfz28_0, hfz28_1, hfz28_2, hfz28_3, hfz28_4, hfz28_5, hfz28_6, hfz28_7, hfz28_8, hfz28_9, hfz28_10⟩ := kc11 BK165) | ((with_reducible refine gate_callee (f := 113) rfl ?_); refine gl (some 10) Tryd.func113 #[.int .i64 a0_0, .int .i64 a0_1] (h := ?_); (with_reducible refine (lectionaryref4_name.calls a0_0 a0_1 true _ A2.out).mono ?_); rintro e w' ⟨rfl, ⟨nd, rfl⟩⟩; refine ⟨_, rfl, ?_⟩) | ((with_reducible refine gate_callee (f := 113) rfl ?_); refine gl (some 19) Tryd.func113 #[.int .i64 a0_8, .int .i64 a0_9] (h := ?_); (with_reducible refine (lectionaryref4_name.calls a0_8 a0_9 true _ A5.out).mono ?_); rintro e w' ⟨rfl, ⟨nd, rfl⟩⟩; refine ⟨_, rfl, ?_⟩) | (go_at_call 51; (with_reducible refine (lectionaryref0_Num.calls a0_10 268435456 false _ A11.out).mono ?_); rintro e w' ⟨rfl, ⟨nd, rfl⟩⟩))
     go_ret
     exact ⟨re, bw HB⟩
    rw [if_neg c7] at H
    have c7b0 : (a0_8 == a0_0) = false := beq_eq_false_iff_ne.mpr c7
    have c7b1 : (a0_8 != a0_0) = true := bne_iff_ne.mpr c7
    replace H := Option.bind_eq_some_iff.mp H
    obtain ⟨t170, A290, H⟩ := H
    replace H : (if t170 = true then ((lectionaryref4_Begin.f a0_3 a0_4 a0_5).bind fun t171 => (if t171 = true then (if a0_6.toList = ([] : List UInt8) then (some ((l0_7.length : Int) == 0)) else (some false)) else (some false))) else (some false)) = some r := H
    have A29 := Aside0.mk A290
    clear A290
    by_cases c30 : t170 = true
    ·as_aux_lemma =>
     subst c30
     have H1 : ((lectionaryref4_Begin.f a0_3 a0_4 a0_5).bind fun t171 => (if t171 = true then (if a0_6.toList = ([] : List UInt8) then (some ((l0_7.length : Int) == 0)) else (some false)) else (some false))) = some r := by rw [if_pos rfl] at H; exact H
     clear H
     have H := H1
     clear H1
     replace H := Option.bind_eq_some_iff.mp H
     obtain ⟨t171, A310, H⟩ := H
     replace H : (if t171 = true then (if a0_6.toList = ([] : List UInt8) then (some ((l0_7.length : Int) == 0)) else (some false)) else (some false)) = some r := H
     have A31 := Aside0.mk A310
     clear A310
     by_cases c32 : t171 = true
     ·as_aux_lemma =>
      subst c32
      have H1 : (if a0_6.toList = ([] : List UInt8) then (some ((l0_7.length : Int) == 0)) else (some false)) = some r := by rw [if_pos rfl] at H; exact H
      clear H
      have H := H1
      clear H1
      by_cases c33 : a0_6.toList = ([] : List UInt8)
      ·rw [if_pos c33] at H
       have c33b0 : (a0_6.toList == ([] : List UInt8)) = true := beq_iff_eq.mpr c33
       have c33b1 : (a0_6.toList != ([] : List UInt8)) = false := bne_eq_false_iff_eq.mpr c33
       clear c33
       obtain rfl := Option.some.inj H
       go_enter Tryd.func57, Tryd.ntmps57
       go_wp2_with (first | ((with_reducible refine gate_dst (N := 1) rfl ?_); (try (refine gate_guard (by rfl) ?_; dsimp only)); refine bx 1 #[.int .i64 a0_0, .int .i64 a0_1, .int .i64 a0_2, .int .i64 a0_3, .int .i64 a0_4, .int .i64 a0_5, .string a0_6, .slice A0_7 l0_7.length c0_7, .int .i64 a0_8, .int .i64 a0_9, .int .i64 a0_10] 31 (h := ?_); intro gb165 hg w34 hbox hb; have BK165 := Aside0.mk (hbox); have GW165 := bz HB hg; have GE165 := bz HB hg; replace HB := bs HB hb; clear hb hbox hg; obtain ⟨hcz35_0, hcz35_1, hcz35_2, hcz35_3, hcz35_4, hcz35_5, hcz35_6, hcz35_7, hcz35_8, hcz35_9, hcz35_10, hfz35_0, hfz35_1, hfz35_2, hfz35_3, hfz35_4, hfz35_5, hfz35_6, hfz35_7, hfz35_8, hfz35_9, hfz35_10⟩ := kc11 BK165) | ((with_reducible refine gate_callee (f := 113) rfl ?_); refine gl (some 10) Tryd.func113 #[.int .i64 a0_0, .int .i64 a0_1] (h := ?_); (with_reducible refine (lectionaryref4_name.calls a0_0 a0_1 true _ A2.out).mono ?_); rintro e w' ⟨rfl, ⟨nd, rfl⟩⟩; refine ⟨_, rfl, ?_⟩) | ((with_reducible refine gate_callee (f := 113) rfl ?_); refine gl (some 19) Tryd.func113 #[.int .i64 a0_8, .int .i64 a0_9] (h := ?_); (with_reducible refine (lectionaryref4_name.calls a0_8 a0_9 true _ A5.out).mono ?_); rintro e w' ⟨rfl, ⟨nd, rfl⟩⟩; refine ⟨_, rfl, ?_⟩) | (go_at_call 51; (with_reducible refine (lectionaryref0_Num.calls a0_10 268435456 true _ A29.out).mono ?_); rintro e w' ⟨rfl, ⟨nd, rfl⟩⟩) | (go_at_call 77; (with_reducible refine (lectionaryref4_Begin.calls a0_3 a0_4 a0_5 true _ A31.out).mono ?_); rintro e w36 ⟨rfl, hb⟩; replace BK165 := bl BK165 hb; replace HB := bs HB hb; (try clear hb); (try clear hb2); (try clear hk); (try clear hi); obtain ⟨hcz37_0, hcz37_1, hcz37_2, hcz37_3, hcz37_4, hcz37_5, hcz37_6, hcz37_7, hcz37_8, hcz37_9, hcz37_10, hfz37_0, hfz37_1, hfz37_2, hfz37_3, hfz37_4, hfz37_5, hfz37_6, hfz37_7, hfz37_8, hfz37_9, hfz37_10⟩ := kc11 BK165))
       go_ret
       exact ⟨re, bw HB⟩
      rw [if_neg c33] at H
      have c33b0 : (a0_6.toList == ([] : List UInt8)) = false := beq_eq_false_iff_ne.mpr c33
      have c33b1 : (a0_6.toList != ([] : List UInt8)) = true := bne_iff_ne.mpr c33
      obtain rfl := Option.some.inj H
      go_enter Tryd.func57, Tryd.ntmps57
      go_wp2_with (first | ((with_reducible refine gate_dst (N := 1) rfl ?_); (try (refine gate_guard (by rfl) ?_; dsimp only)); refine bx 1 #[.int .i64 a0_0, .int .i64 a0_1, .int .i64 a0_2, .int .i64 a0_3, .int .i64 a0_4, .int .i64 a0_5, .string a0_6, .slice A0_7 l0_7.length c0_7, .int .i64 a0_8, .int .i64 a0_9, .int .i64 a0_10] 31 (h := ?_); intro gb165 hg w38 hbox hb; have BK165 := Aside0.mk (hbox); have GW165 := bz HB hg; have GE165 := bz HB hg; replace HB := bs HB hb; clear hb hbox hg; obtain ⟨hcz39_0, hcz39_1, hcz39_2, hcz39_3, hcz39_4, hcz39_5, hcz39_6, hcz39_7, hcz39_8, hcz39_9, hcz39_10, hfz39_0, hfz39_1, hfz39_2, hfz39_3, hfz39_4, hfz39_5, hfz39_6, hfz39_7, hfz39_8, hfz39_9, hfz39_10⟩ := kc11 BK165) | ((with_reducible refine gate_callee (f := 113) rfl ?_); refine gl (some 10) Tryd.func113 #[.int .i64 a0_0, .int .i64 a0_1] (h := ?_); (with_reducible refine (lectionaryref4_name.calls a0_0 a0_1 true _ A2.out).mono ?_); rintro e w' ⟨rfl, ⟨nd, rfl⟩⟩; refine ⟨_, rfl, ?_⟩) | ((with_reducible refine gate_callee (f := 113) rfl ?_); refine gl (some 19) Tryd.func113 #[.int .i64 a0_8, .int .i64 a0_9] (h := ?_); (with_reducible refine (lectionaryref4_name.calls a0_8 a0_9 true _ A5.out).mono ?_); rintro e w' ⟨rfl, ⟨nd, rfl⟩⟩; refine ⟨_, rfl, ?_⟩) | (go_at_call 51; (with_reducible refine (lectionaryref0_Num.calls a0_10 268435456 true _ A29.out).mono ?_); rintro e w' ⟨rfl, ⟨nd, rfl⟩⟩) | (go_at_call 77; (with_reducible refine (lectionaryref4_Begin.calls a0_3 a0_4 a0_5 true _ A31.out).mono ?_); rintro e w40 ⟨rfl, hb⟩; replace BK165 := bl BK165 hb; replace HB := bs HB hb; (try clear hb); (try clear hb2); (try clear hk); (try clear hi); obtain ⟨hcz41_0, hcz41_1, hcz41_2, hcz41_3, hcz41_4, hcz41_5, hcz41_6, hcz41_7, hcz41_8, hcz41_9, hcz41_10, hfz41_0, hfz41_1, hfz41_2, hfz41_3, hfz41_4, hfz41_5, hfz41_6, hfz41_7, hfz41_8, hfz41_9, hfz41_10⟩ := kc11 BK165))
      go_ret
      exact ⟨re, bw HB⟩
     replace c32 := Bool.eq_false_iff.mpr c32
     subst c32
     have H1 : (some false) = some r := by rw [if_neg (show ¬ (false = true) by decide)] at H; exact H
     clear H
     have H := H1
     clear H1
     obtain rfl := Option.some.inj H
     go_enter Tryd.func57, Tryd.ntmps57
     go_wp2_with (first | ((with_reducible refine gate_dst (N := 1) rfl ?_); (try (refine gate_guard (by rfl) ?_; dsimp only)); refine bx 1 #[.int .i64 a0_0, .int .i64 a0_1, .int .i64 a0_2, .int .i64 a0_3, .int .i64 a0_4, .int .i64 a0_5, .string a0_6, .slice A0_7 l0_7.length c0_7, .int .i64 a0_8, .int .i64 a0_9, .int .i64 a0_10] 31 (h := ?_); intro gb165 hg w42 hbox hb; have BK165 := Aside0.mk (hbox); have GW165 := bz HB hg; have GE165 := bz HB hg; replace HB := bs HB hb; clear hb hbox hg; obtain ⟨hcz43_0, hcz43_1, hcz43_2, hcz43_3, hcz43_4, hcz43_5, hcz43_6, hcz43_7, hcz43_8, hcz43_9, hcz43_10, hfz43_0, hfz43_1, hfz43_2, hfz43_3, hfz43_4, hfz43_5, hfz43_6, hfz43_7, hfz43_8, hfz43_9, hfz43_10⟩ := kc11 BK165) | ((with_reducible refine gate_callee (f := 113) rfl ?_); refine gl (some 10) Tryd.func113 #[.int .i64 a0_0, .int .i64 a0_1] (h := ?_); (with_reducible refine (lectionaryref4_name.calls a0_0 a0_1 true _ A2.out).mono ?_); rintro e w' ⟨rfl, ⟨nd, rfl⟩⟩; refine ⟨_, rfl, ?_⟩) | ((with_reducible refine gate_callee (f := 113) rfl ?_); refine gl (some 19) Tryd.func113 #[.int .i64 a0_8, .int .i64 a0_9] (h := ?_); (with_reducible refine (lectionaryref4_name.calls a0_8 a0_9 true _ A5.out).mono ?_); rintro e w' ⟨rfl, ⟨nd, rfl⟩⟩; refine ⟨_, rfl, ?_⟩) | (go_at_call 51; (with_reducible refine (lectionaryref0_Num.calls a0_10 268435456 true _ A29.out).mono ?_); rintro e w' ⟨rfl, ⟨nd, rfl⟩⟩) | (go_at_call 77; (with_reducible refine (lectionaryref4_Begin.calls a0_3 a0_4 a0_5 false _ A31.out).mono ?_); rintro e w44 ⟨rfl, hb⟩; replace BK165 := bl BK165 hb; replace HB := bs HB hb; (try clear hb); (try clear hb2); (try clear hk); (try clear hi)))
     go_ret
     exact ⟨re, bw HB⟩
    replace c30 := Bool.eq_false_iff.mpr c30
    subst c30
    have H1 : (some false) = some r := by rw [if_neg (show ¬ (false = true) by decide)] at H; exact H
    clear H
    have H := H1
    clear H1
    obtain rfl := Option.some.inj H
    go_enter Tryd.func57, Tryd.ntmps57
    go_wp2_with (first | ((with_reducible refine gate_dst (N := 1) rfl ?_); (try (refine gate_guard (by rfl) ?_; dsimp only)); refine bx 1 #[.int .i64 a0_0, .int .i64 a0_1, .int .i64 a0_2, .int .i64 a0_3, .int .i64 a0_4, .int .i64 a0_5, .string a0_6, .slice A0_7 l0_7.length c0_7, .int .i64 a0_8, .int .i64 a0_9, .int .i64 a0_10] 31 (h := ?_); intro gb165 hg w45 hbox hb; have BK165 := Aside0.mk (hbox); have GW165 := bz HB hg; have GE165 := bz HB hg; replace HB := bs HB hb; clear hb hbox hg; obtain ⟨hcz46_0, hcz46_1, hcz46_2, hcz46_3, hcz46_4, hcz46_5, hcz46_6, hcz46_7, hcz46_8, hcz46_9, hcz46_10, hfz46_0, hfz46_1, hfz46_2, hfz46_3, hfz46_4, hfz46_5, hfz46_6, hfz46_7, hfz46_8, hfz46_9, hfz46_10⟩ := kc11 BK165) | ((with_reducible refine gate_callee (f := 113) rfl ?_); refine gl (some 10) Tryd.func113 #[.int .i64 a0_0, .int .i64 a0_1] (h := ?_); (with_reducible refine (lectionaryref4_name.calls a0_0 a0_1 true _ A2.out).mono ?_); rintro e w' ⟨rfl, ⟨nd, rfl⟩⟩; refine ⟨_, rfl, ?_⟩) | ((with_reducible refine gate_callee (f := 113) rfl ?_); refine gl (some 19) Tryd.func113 #[.int .i64 a0_8, .int .i64 a0_9] (h := ?_); (with_reducible refine (lectionaryref4_name.calls a0_8 a0_9 true _ A5.out).mono ?_); rintro e w' ⟨rfl, ⟨nd, rfl⟩⟩; refine ⟨_, rfl, ?_⟩) | (go_at_call 51; (with_reducible refine (lectionaryref0_Num.calls a0_10 268435456 false _ A29.out).mono ?_); rintro e w' ⟨rfl, ⟨nd, rfl⟩⟩))
    go_ret
    exact ⟨re, bw HB⟩
   replace c6 := Bool.eq_false_iff.mpr c6
   subst c6
   have H1 : (some false) = some r := by rw [if_neg (show ¬ (false = true) by decide)] at H; exact H
   clear H
   have H := H1
   clear H1
   obtain rfl := Option.some.inj H
   go_enter Tryd.func57, Tryd.ntmps57
   go_wp2_with (first | ((with_reducible refine gate_dst (N := 1) rfl ?_); (try (refine gate_guard (by rfl) ?_; dsimp only)); refine bx 1 #[.int .i64 a0_0, .int .i64 a0_1, .int .i64 a0_2, .int .i64 a0_3, .int .i64 a0_4, .int .i64 a0_5, .string a0_6, .slice A0_7 l0_7.length c0_7, .int .i64 a0_8, .int .i64 a0_9, .int .i64 a0_10] 31 (h := ?_); intro gb165 hg w47 hbox hb; have BK165 := Aside0.mk (hbox); have GW165 := bz HB hg; have GE165 := bz HB hg; replace HB := bs HB hb; clear hb hbox hg; obtain ⟨hcz48_0, hcz48_1, hcz48_2, hcz48_3, hcz48_4, hcz48_5, hcz48_6, hcz48_7, hcz48_8, hcz48_9, hcz48_10, hfz48_0, hfz48_1, hfz48_2, hfz48_3, hfz48_4, hfz48_5, hfz48_6, hfz48_7, hfz48_8, hfz48_9, hfz48_10⟩ := kc11 BK165) | ((with_reducible refine gate_callee (f := 113) rfl ?_); refine gl (some 10) Tryd.func113 #[.int .i64 a0_0, .int .i64 a0_1] (h := ?_); (with_reducible refine (lectionaryref4_name.calls a0_0 a0_1 true _ A2.out).mono ?_); rintro e w' ⟨rfl, ⟨nd, rfl⟩⟩; refine ⟨_, rfl, ?_⟩) | ((with_reducible refine gate_callee (f := 113) rfl ?_); refine gl (some 19) Tryd.func113 #[.int .i64 a0_8, .int .i64 a0_9] (h := ?_); (with_reducible refine (lectionaryref4_name.calls a0_8 a0_9 false _ A5.out).mono ?_); rintro e w' ⟨rfl, ⟨nd, rfl⟩⟩; refine ⟨_, rfl, ?_⟩))
   go_ret
   exact ⟨re, bw HB⟩
  rw [if_neg c4] at H
  have c4b0 : (a0_2 == 2) = false := beq_eq_false_iff_ne.mpr c4
  have c4b1 : (a0_2 != 2) = true := bne_iff_ne.mpr c4
  have HC49 := Aside0.mk H
  clear H
  go_enter Tryd.func57, Tryd.ntmps57
  go_upto_region 5 with (first | ((with_reducible refine gate_dst (N := 1) rfl ?_); (try (refine gate_guard (by rfl) ?_; dsimp only)); refine bx 1 #[.int .i64 a0_0, .int .i64 a0_1, .int .i64 a0_2, .int .i64 a0_3, .int .i64 a0_4, .int .i64 a0_5, .string a0_6, .slice A0_7 l0_7.length c0_7, .int .i64 a0_8, .int .i64 a0_9, .int .i64 a0_10] 31 (h := ?_); intro gb165 hg w50 hbox hb; have BK165 := Aside0.mk (hbox); have GW165 := bz HB hg; have GE165 := bz HB hg; replace HB := bs HB hb; clear hb hbox hg; obtain ⟨hcz51_0, hcz51_1, hcz51_2, hcz51_3, hcz51_4, hcz51_5, hcz51_6, hcz51_7, hcz51_8, hcz51_9, hcz51_10, hfz51_0, hfz51_1, hfz51_2, hfz51_3, hfz51_4, hfz51_5, hfz51_6, hfz51_7, hfz51_8, hfz51_9, hfz51_10⟩ := kc11 BK165) | ((with_reducible refine gate_callee (f := 113) rfl ?_); refine gl (some 10) Tryd.func113 #[.int .i64 a0_0, .int .i64 a0_1] (h := ?_); (with_reducible refine (lectionaryref4_name.calls a0_0 a0_1 true _ A2.out).mono ?_); rintro e w' ⟨rfl, ⟨nd, rfl⟩⟩; refine ⟨_, rfl, ?_⟩))
  (try simp only [Act.put, List.setIfInBounds_toArray, List.set_cons_zero, List.set_cons_succ])
  go_cut [89] (fun v89 wc => ∃ (kq : Nat) (x89_48 : Bool), v89 = .bool x89_48 ∧ Aside0 (lectionaryref4_Op.j0 kq x89_48 a0_0 a0_1 a0_2 a0_3 a0_4 a0_5 a0_6 l0_7 a0_8 a0_9 a0_10 = some r) ∧ Aside0 (kq ≤ k) ∧ Aside0 (wc.heap[gb165]? = some (.cells #[.int .i64 a0_0, .int .i64 a0_1, .int .i64 a0_2, .int .i64 a0_3, .int .i64 a0_4, .int .i64 a0_5, .string a0_6, (.slice A0_7 l0_7.length c0_7), .int .i64 a0_8, .int .i64 a0_9, .int .i64 a0_10] 31 (0, 0))) ∧ Aside0 (Below w.heap.size w wc))
  case first =>
   have H := HC49.out
   clear HC49
   by_cases c52 : a0_2 = 1
   ·as_aux_lemma =>
    rw [if_pos c52] at H
    have c52b0 : (a0_2 == 1) = true := beq_iff_eq.mpr c52
    have c52b1 : (a0_2 != 1) = false := bne_eq_false_iff_eq.mpr c52
    clear c52
    (first | rw [c52b0] | (simp only [i64_w, i32_w]; rw [c52b0]) | skip)
    by_cases c53 : a0_8 = 0
    ·as_aux_lemma =>
     rw [if_pos c53] at H
     have c53b0 : (a0_8 == 0) = true := beq_iff_eq.mpr c53
     have c53b1 : (a0_8 != 0) = false := bne_eq_false_iff_eq.mpr c53
     clear c53
     by_cases c54 : a0_9 = 0
     ·as_aux_lemma =>
      rw [if_pos c54] at H
      have c54b0 : (a0_9 == 0) = true := beq_iff_eq.mpr c54
      have c54b1 : (a0_9 != 0) = false := bne_eq_false_iff_eq.mpr c54
      clear c54
      by_cases c55 : a0_10 = 0
      ·as_aux_lemma =>
       rw [if_pos c55] at H
       have c55b0 : (a0_10 == 0) = true := beq_iff_eq.mpr c55
       have c55b1 : (a0_10 != 0) = false := bne_eq_false_iff_eq.mpr c55
       clear c55
       by_cases c56 : (l0_7.length : Int) > 200
       ·as_aux_lemma =>
        rw [if_pos c56] at H
        have c56b0 : decide (200 < (l0_7.length : Int)) = true := decide_eq_true c56
        have c56b1 : decide (200 < l0_7.length) = true := decide_eq_true (by omega)
        clear c56
        have H' := Aside0.mk H
        clear H
        obtain ⟨hcz57_0, hcz57_1, hcz57_2, hcz57_3, hcz57_4, hcz57_5, hcz57_6, hcz57_7, hcz57_8, hcz57_9, hcz57_10, hfz57_0, hfz57_1, hfz57_2, hfz57_3, hfz57_4, hfz57_5, hfz57_6, hfz57_7, hfz57_8, hfz57_9, hfz57_10⟩ := kc11 BK165
        go_wp2
        go_meet
        case rel => exact ⟨_, (true), rf, H', ⟨by first | omega | exact Nat.le_refl _⟩, ⟨kk BK165⟩, ⟨bw HB⟩⟩
       rw [if_neg c56] at H
       have c56b0 : decide (200 < (l0_7.length : Int)) = false := decide_eq_false c56
       have c56b1 : decide (200 < l0_7.length) = false := decide_eq_false (by omega)
       clear c56
       by_cases c58 : a0_6.toList = ([] : List UInt8)
       ·as_aux_lemma =>
        rw [if_pos c58] at H
        have c58b0 : (a0_6.toList == ([] : List UInt8)) = true := beq_iff_eq.mpr c58
        have c58b1 : (a0_6.toList != ([] : List UInt8)) = false := bne_eq_false_iff_eq.mpr c58
        clear c58
        have H' := Aside0.mk H
        clear H
        obtain ⟨hcz59_0, hcz59_1, hcz59_2, hcz59_3, hcz59_4, hcz59_5, hcz59_6, hcz59_7, hcz59_8, hcz59_9, hcz59_10, hfz59_0, hfz59_1, hfz59_2, hfz59_3, hfz59_4, hfz59_5, hfz59_6, hfz59_7, hfz59_8, hfz59_9, hfz59_10⟩ := kc11 BK165
        go_wp2
        go_meet
        case rel => exact ⟨_, (((l0_7.length : Int) == 0)), rf, H', ⟨by first | omega | exact Nat.le_refl _⟩, ⟨kk BK165⟩, ⟨bw HB⟩⟩
       rw [if_neg c58] at H
       have c58b0 : (a0_6.toList == ([] : List UInt8)) = false := beq_eq_false_iff_ne.mpr c58
       have c58b1 : (a0_6.toList != ([] : List UInt8)) = true := bne_iff_ne.mpr c58
       have H' := Aside0.mk H
       clear H
       obtain ⟨hcz60_0, hcz60_1, hcz60_2, hcz60_3, hcz60_4, hcz60_5, hcz60_6, hcz60_7, hcz60_8, hcz60_9, hcz60_10, hfz60_0, hfz60_1, hfz60_2, hfz60_3, hfz60_4, hfz60_5, hfz60_6, hfz60_7, hfz60_8, hfz60_9, hfz60_10⟩ := kc11 BK165
       go_wp2
       go_meet
       case rel => exact ⟨_, (false), rf, H', ⟨by first | omega | exact Nat.le_refl _⟩, ⟨kk BK165⟩, ⟨bw HB⟩⟩
      rw [if_neg c55] at H
      have c55b0 : (a0_10 == 0) = false := beq_eq_false_iff_ne.mpr c55
      have c55b1 : (a0_10 != 0) = true := bne_iff_ne.mpr c55
      have H' := Aside0.mk H
      clear H
      obtain ⟨hcz61_0, hcz61_1, hcz61_2, hcz61_3, hcz61_4, hcz61_5, hcz61_6, hcz61_7, hcz61_8, hcz61_9, hcz61_10, hfz61_0, hfz61_1, hfz61_2, hfz61_3, hfz61_4, hfz61_5, hfz61_6, hfz61_7, hfz61_8, hfz61_9, hfz61_10⟩ := kc11 BK165
      go_wp2
      go_meet
      case rel => exact ⟨_, (true), rf, H', ⟨by first | omega | exact Nat.le_refl _⟩, ⟨kk BK165⟩, ⟨bw HB⟩⟩
     rw [if_neg c54] at H
     have c54b0 : (a0_9 == 0) = false := beq_eq_false_iff_ne.mpr c54
     have c54b1 : (a0_9 != 0) = true := bne_iff_ne.mpr c54
     have H' := Aside0.mk H
     clear H
     obtain ⟨hcz62_0, hcz62_1, hcz62_2, hcz62_3, hcz62_4, hcz62_5, hcz62_6, hcz62_7, hcz62_8, hcz62_9, hcz62_10, hfz62_0, hfz62_1, hfz62_2, hfz62_3, hfz62_4, hfz62_5, hfz62_6, hfz62_7, hfz62_8, hfz62_9, hfz62_10⟩ := kc11 BK165
     go_wp2
     go_meet
     case rel => exact ⟨_, (true), rf, H', ⟨by first | omega | exact Nat.le_refl _⟩, ⟨kk BK165⟩, ⟨bw HB⟩⟩
    rw [if_neg c53] at H
    have c53b0 : (a0_8 == 0) = false := beq_eq_false_iff_ne.mpr c53
    have c53b1 : (a0_8 != 0) = true := bne_iff_ne.mpr c53
    have H' := Aside0.mk H
    clear H
    obtain ⟨hcz63_0, hcz63_1, hcz63_2, hcz63_3, hcz63_4, hcz63_5, hcz63_6, hcz63_7, hcz63_8, hcz63_9, hcz63_10, hfz63_0, hfz63_1, hfz63_2, hfz63_3, hfz63_4, hfz63_5, hfz63_6, hfz63_7, hfz63_8, hfz63_9, hfz63_10⟩ := kc11 BK165
    go_wp2
    go_meet
    case rel => exact ⟨_, (true), rf, H', ⟨by first | omega | exact Nat.le_refl _⟩, ⟨kk BK165⟩, ⟨bw HB⟩⟩
   rw [if_neg c52] at H
   have c52b0 : (a0_2 == 1) = false := beq_eq_false_iff_ne.mpr c52
   have c52b1 : (a0_2 != 1) = true := bne_iff_ne.mpr c52
   (first | rw [c52b0] | (simp only [i64_w, i32_w]; rw [c52b0]) | skip)
   have H' := Aside0.mk H
   clear H
   obtain ⟨hcz64_0, hcz64_1, hcz64_2, hcz64_3, hcz64_4, hcz64_5, hcz64_6, hcz64_7, hcz64_8, hcz64_9, hcz64_10, hfz64_0, hfz64_1, hfz64_2, hfz64_3, hfz64_4, hfz64_5, hfz64_6, hfz64_7, hfz64_8, hfz64_9, hfz64_10⟩ := kc11 BK165
   go_wp2
   go_meet
   case rel => exact ⟨_, (true), rf, H', ⟨by first | omega | exact Nat.le_refl _⟩, ⟨kk BK165⟩, ⟨bw HB⟩⟩
  case rest =>
   clear HC49
   try clear c3; try clear c4; try clear c4b0; try clear c4b1; try clear hcz51_0; try clear hcz51_1; try clear hcz51_10; try clear hcz51_2; try clear hcz51_3; try clear hcz51_4; try clear hcz51_5; try clear hcz51_6; try clear hcz51_7; try clear hcz51_8; try clear hcz51_9; try clear hfz51_0; try clear hfz51_1; try clear hfz51_10; try clear hfz51_2; try clear hfz51_3; try clear hfz51_4; try clear hfz51_5; try clear hfz51_6; try clear hfz51_7; try clear hfz51_8; try clear hfz51_9
   obtain ⟨kq, x89_48, rfl, HA, HJ48, BK165, HB⟩ := hcut
   cases kq with
   | zero => exact absurd HA.out (by simp [lectionaryref4_Op.j0])
   | succ kj48 =>
    have H := HA.out
    clear HA
    simp only [lectionaryref4_Op.j0] at H
    by_cases c65 : x89_48 = true
    ·subst c65
     have H1 : (some false) = some r := by rw [if_pos rfl] at H; exact H
     clear H
     have H := H1
     clear H1
     obtain rfl := Option.some.inj H
     go_wp2
     go_ret
     exact ⟨re, bw HB⟩
    replace c65 := Bool.eq_false_iff.mpr c65
    subst c65
    have H1 : ((lectionaryref1_Runes.f kj48 a0_6).bind fun bt172 => (if bt172.2 = true then (if (bt172.1.length : Int) > 12 then (lectionaryref4_Op.j1 kj48 true a0_0 a0_1 a0_2 a0_3 a0_4 a0_5 a0_6 l0_7 a0_8 a0_9 a0_10) else ((lectionaryref4_Elem.f a0_3 a0_4 a0_5).bind fun t176 => (if t176 = true then (if (bt172.1.length : Int) = 0 then ((lectionaryref4_Begin.f a0_3 a0_4 a0_5).bind fun t177 => (if t177 = true then ((lectionaryref4_own.f a0_0 a0_1 a0_2 a0_3 a0_4 a0_5 a0_6 l0_7 a0_8 a0_9 a0_10 a0_3 a0_4 a0_5).bind fun t178 => (lectionaryref4_Op.j1 kj48 t178 a0_0 a0_1 a0_2 a0_3 a0_4 a0_5 a0_6 l0_7 a0_8 a0_9 a0_10)) else (lectionaryref4_Op.j1 kj48 true a0_0 a0_1 a0_2 a0_3 a0_4 a0_5 a0_6 l0_7 a0_8 a0_9 a0_10))) else ((lectionaryref4_own.f a0_0 a0_1 a0_2 a0_3 a0_4 a0_5 a0_6 l0_7 a0_8 a0_9 a0_10 a0_3 a0_4 a0_5).bind fun t179 => (lectionaryref4_Op.j1 kj48 t179 a0_0 a0_1 a0_2 a0_3 a0_4 a0_5 a0_6 l0_7 a0_8 a0_9 a0_10))) else (lectionaryref4_Op.j1 kj48 true a0_0 a0_1 a0_2 a0_3 a0_4 a0_5 a0_6 l0_7 a0_8 a0_9 a0_10)))) else (lectionaryref4_Op.j1 kj48 true a0_0 a0_1 a0_2 a0_3 a0_4 a0_5 a0_6 l0_7 a0_8 a0_9 a0_10))) = some r := by rw [if_neg (show ¬ (false = true) by decide)] at H; exact H
    clear H
    have H := H1
    clear H1
    replace H := Option.bind_eq_some_iff.mp H
    obtain ⟨⟨t172, t173⟩, A660, H⟩ := H
    replace H : (if t173 = true then (if (t172.length : Int) > 12 then (lectionaryref4_Op.j1 kj48 true a0_0 a0_1 a0_2 a0_3 a0_4 a0_5 a0_6 l0_7 a0_8 a0_9 a0_10) else ((lectionaryref4_Elem.f a0_3 a0_4 a0_5).bind fun t176 => (if t176 = true then (if (t172.length : Int) = 0 then ((lectionaryref4_Begin.f a0_3 a0_4 a0_5).bind fun t177 => (if t177 = true then ((lectionaryref4_own.f a0_0 a0_1 a0_2 a0_3 a0_4 a0_5 a0_6 l0_7 a0_8 a0_9 a0_10 a0_3 a0_4 a0_5).bind fun t178 => (lectionaryref4_Op.j1 kj48 t178 a0_0 a0_1 a0_2 a0_3 a0_4 a0_5 a0_6 l0_7 a0_8 a0_9 a0_10)) else (lectionaryref4_Op.j1 kj48 true a0_0 a0_1 a0_2 a0_3 a0_4 a0_5 a0_6 l0_7 a0_8 a0_9 a0_10))) else ((lectionaryref4_own.f a0_0 a0_1 a0_2 a0_3 a0_4 a0_5 a0_6 l0_7 a0_8 a0_9 a0_10 a0_3 a0_4 a0_5).bind fun t179 => (lectionaryref4_Op.j1 kj48 t179 a0_0 a0_1 a0_2 a0_3 a0_4 a0_5 a0_6 l0_7 a0_8 a0_9 a0_10))) else (lectionaryref4_Op.j1 kj48 true a0_0 a0_1 a0_2 a0_3 a0_4 a0_5 a0_6 l0_7 a0_8 a0_9 a0_10)))) else (lectionaryref4_Op.j1 kj48 true a0_0 a0_1 a0_2 a0_3 a0_4 a0_5 a0_6 l0_7 a0_8 a0_9 a0_10)) = some r := H
    have A66 := Aside0.mk A660
    clear A660
    have HC67 := Aside0.mk H
    clear H
    obtain ⟨hcz68_0, hcz68_1, hcz68_2, hcz68_3, hcz68_4, hcz68_5, hcz68_6, hcz68_7, hcz68_8, hcz68_9, hcz68_10, hfz68_0, hfz68_1, hfz68_2, hfz68_3, hfz68_4, hfz68_5, hfz68_6, hfz68_7, hfz68_8, hfz68_9, hfz68_10⟩ := kc11 BK165
    go_upto_region 8 with (first | ((with_reducible refine gate_callee (f := 50) rfl ?_); refine gl (some 93) Tryd.func50 #[.string a0_6] (h := ?_); (with_reducible refine (lectionaryref1_Runes.calls kj48 a0_6 t172 t173 _ ?side1 A66.out).mono ?_); (case side1 => exact (hT.below (bw HB))); rintro e w69 ⟨v174, rfl, ho0, hb⟩; refine ⟨_, rfl, ?_⟩; have HO175 := Aside0.mk (Kd.R_lower ho0 (below_size (bw HB))); replace BK165 := bl BK165 hb; replace HB := bs HB hb; (try clear hb); (try clear hb2); (try clear hk); (try clear hi); (try clear ho0)))
    (try simp only [Act.put, List.setIfInBounds_toArray, List.set_cons_zero, List.set_cons_succ])
    go_cut [125] (fun v125 wc => ∃ (kq : Nat) (x125_66 : Bool), v125 = .bool x125_66 ∧ Aside0 (lectionaryref4_Op.j1 kq x125_66 a0_0 a0_1 a0_2 a0_3 a0_4 a0_5 a0_6 l0_7 a0_8 a0_9 a0_10 = some r) ∧ Aside0 (kq ≤ kj48) ∧ Aside0 (wc.heap[gb165]? = some (.cells #[.int .i64 a0_0, .int .i64 a0_1, .int .i64 a0_2, .int .i64 a0_3, .int .i64 a0_4, .int .i64 a0_5, .string a0_6, (.slice A0_7 l0_7.length c0_7), .int .i64 a0_8, .int .i64 a0_9, .int .i64 a0_10] 31 (0, 0))) ∧ Aside0 (Below w.heap.size w wc))
    case first =>
     have H := HC67.out
     clear HC67
     by_cases c70 : t173 = true
     ·as_aux_lemma =>
      subst c70
      have H1 : (if (t172.length : Int) > 12 then (lectionaryref4_Op.j1 kj48 true a0_0 a0_1 a0_2 a0_3 a0_4 a0_5 a0_6 l0_7 a0_8 a0_9 a0_10) else ((lectionaryref4_Elem.f a0_3 a0_4 a0_5).bind fun t176 => (if t176 = true then (if (t172.length : Int) = 0 then ((lectionaryref4_Begin.f a0_3 a0_4 a0_5).bind fun t177 => (if t177 = true then ((lectionaryref4_own.f a0_0 a0_1 a0_2 a0_3 a0_4 a0_5 a0_6 l0_7 a0_8 a0_9 a0_10 a0_3 a0_4 a0_5).bind fun t178 => (lectionaryref4_Op.j1 kj48 t178 a0_0 a0_1 a0_2 a0_3 a0_4 a0_5 a0_6 l0_7 a0_8 a0_9 a0_10)) else (lectionaryref4_Op.j1 kj48 true a0_0 a0_1 a0_2 a0_3 a0_4 a0_5 a0_6 l0_7 a0_8 a0_9 a0_10))) else ((lectionaryref4_own.f a0_0 a0_1 a0_2 a0_3 a0_4 a0_5 a0_6 l0_7 a0_8 a0_9 a0_10 a0_3 a0_4 a0_5).bind fun t179 => (lectionaryref4_Op.j1 kj48 t179 a0_0 a0_1 a0_2 a0_3 a0_4 a0_5 a0_6 l0_7 a0_8 a0_9 a0_10))) else (lectionaryref4_Op.j1 kj48 true a0_0 a0_1 a0_2 a0_3 a0_4 a0_5 a0_6 l0_7 a0_8 a0_9 a0_10)))) = some r := by rw [if_pos rfl] at H; exact H
      clear H
      have H := H1
      clear H1
      by_cases c71 : (t172.length : Int) > 12
      ·as_aux_lemma =>
       rw [if_pos c71] at H
       have c71b0 : decide (12 < (t172.length : Int)) = true := decide_eq_true c71
       have c71b1 : decide (12 < t172.length) = true := decide_eq_true (by omega)
       clear c71
       (first | rw [c71b0] | (simp only [i64_w, i32_w]; rw [c71b0]) | skip)
       have H' := Aside0.mk H
       clear H
       obtain ⟨Ao72, co72, eo72⟩ := Kd.R_slice HO175.out
       subst eo72
       go_wp2
       go_meet
       case rel => exact ⟨_, (true), rf, H', ⟨by have := HJ48.out; first | omega | exact Nat.le_refl _⟩, ⟨kk BK165⟩, ⟨bw HB⟩⟩
      rw [if_neg c71] at H
      have c71b0 : decide (12 < (t172.length : Int)) = false := decide_eq_false c71
      have c71b1 : decide (12 < t172.length) = false := decide_eq_false (by omega)
      clear c71
      (first | rw [c71b0] | (simp only [i64_w, i32_w]; rw [c71b0]) | skip)
      replace H := Option.bind_eq_some_iff.mp H
      obtain ⟨t176, A730, H⟩ := H
      replace H : (if t176 = true then (if (t172.length : Int) = 0 then ((lectionaryref4_Begin.f a0_3 a0_4 a0_5).bind fun t177 => (if t177 = true then ((lectionaryref4_own.f a0_0 a0_1 a0_2 a0_3 a0_4 a0_5 a0_6 l0_7 a0_8 a0_9 a0_10 a0_3 a0_4 a0_5).bind fun t178 => (lectionaryref4_Op.j1 kj48 t178 a0_0 a0_1 a0_2 a0_3 a0_4 a0_5 a0_6 l0_7 a0_8 a0_9 a0_10)) else (lectionaryref4_Op.j1 kj48 true a0_0 a0_1 a0_2 a0_3 a0_4 a0_5 a0_6 l0_7 a0_8 a0_9 a0_10))) else ((lectionaryref4_own.f a0_0 a0_1 a0_2 a0_3 a0_4 a0_5 a0_6 l0_7 a0_8 a0_9 a0_10 a0_3 a0_4 a0_5).bind fun t179 => (lectionaryref4_Op.j1 kj48 t179 a0_0 a0_1 a0_2 a0_3 a0_4 a0_5 a0_6 l0_7 a0_8 a0_9 a0_10))) else (lectionaryref4_Op.j1 kj48 true a0_0 a0_1 a0_2 a0_3 a0_4 a0_5 a0_6 l0_7 a0_8 a0_9 a0_10)) = some r := H
      have A73 := Aside0.mk A730
      clear A730
      by_cases c74 : t176 = true
      ·as_aux_lemma =>
       subst c74
       have H1 : (if (t172.length : Int) = 0 then ((lectionaryref4_Begin.f a0_3 a0_4 a0_5).bind fun t177 => (if t177 = true then ((lectionaryref4_own.f a0_0 a0_1 a0_2 a0_3 a0_4 a0_5 a0_6 l0_7 a0_8 a0_9 a0_10 a0_3 a0_4 a0_5).bind fun t178 => (lectionaryref4_Op.j1 kj48 t178 a0_0 a0_1 a0_2 a0_3 a0_4 a0_5 a0_6 l0_7 a0_8 a0_9 a0_10)) else (lectionaryref4_Op.j1 kj48 true a0_0 a0_1 a0_2 a0_3 a0_4 a0_5 a0_6 l0_7 a0_8 a0_9 a0_10))) else ((lectionaryref4_own.f a0_0 a0_1 a0_2 a0_3 a0_4 a0_5 a0_6 l0_7 a0_8 a0_9 a0_10 a0_3 a0_4 a0_5).bind fun t179 => (lectionaryref4_Op.j1 kj48 t179 a0_0 a0_1 a0_2 a0_3 a0_4 a0_5 a0_6 l0_7 a0_8 a0_9 a0_10))) = some r := by rw [if_pos rfl] at H; exact H
       clear H
       have H := H1
       clear H1
       by_cases c75 : (t172.length : Int) = 0
       ·as_aux_lemma =>
        rw [if_pos c75] at H
        have c75b0 : ((t172.length : Int) == 0) = true := beq_iff_eq.mpr c75
        have c75b1 : ((t172.length : Int) != 0) = false := bne_eq_false_iff_eq.mpr c75
        clear c75
        replace H := Option.bind_eq_some_iff.mp H
        obtain ⟨t177, A760, H⟩ := H
        replace H : (if t177 = true then ((lectionaryref4_own.f a0_0 a0_1 a0_2 a0_3 a0_4 a0_5 a0_6 l0_7 a0_8 a0_9 a0_10 a0_3 a0_4 a0_5).bind fun t178 => (lectionaryref4_Op.j1 kj48 t178 a0_0 a0_1 a0_2 a0_3 a0_4 a0_5 a0_6 l0_7 a0_8 a0_9 a0_10)) else (lectionaryref4_Op.j1 kj48 true a0_0 a0_1 a0_2 a0_3 a0_4 a0_5 a0_6 l0_7 a0_8 a0_9 a0_10)) = some r := H
        have A76 := Aside0.mk A760
        clear A760
        by_cases c77 : t177 = true
        ·as_aux_lemma =>
         subst c77
         have H1 : ((lectionaryref4_own.f a0_0 a0_1 a0_2 a0_3 a0_4 a0_5 a0_6 l0_7 a0_8 a0_9 a0_10 a0_3 a0_4 a0_5).bind fun t178 => (lectionaryref4_Op.j1 kj48 t178 a0_0 a0_1 a0_2 a0_3 a0_4 a0_5 a0_6 l0_7 a0_8 a0_9 a0_10)) = some r := by rw [if_pos rfl] at H; exact H
         clear H
         have H := H1
         clear H1
         replace H := Option.bind_eq_some_iff.mp H
         obtain ⟨t178, A780, H⟩ := H
         replace H : (lectionaryref4_Op.j1 kj48 t178 a0_0 a0_1 a0_2 a0_3 a0_4 a0_5 a0_6 l0_7 a0_8 a0_9 a0_10) = some r := H
         have A78 := Aside0.mk A780
         clear A780
         have H' := Aside0.mk H
         clear H
         obtain ⟨Ao79, co79, eo79⟩ := Kd.R_slice HO175.out
         subst eo79
         obtain ⟨hcz80_0, hcz80_1, hcz80_2, hcz80_3, hcz80_4, hcz80_5, hcz80_6, hcz80_7, hcz80_8, hcz80_9, hcz80_10, hfz80_0, hfz80_1, hfz80_2, hfz80_3, hfz80_4, hfz80_5, hfz80_6, hfz80_7, hfz80_8, hfz80_9, hfz80_10⟩ := kc11 BK165
         go_wp2_with (first | (go_at_call 68; (with_reducible refine (lectionaryref4_Elem.calls a0_3 a0_4 a0_5 true _ A73.out).mono ?_); rintro e w81 ⟨rfl, hb⟩; replace HO175 := Aside0.mk (Kd.R_below (by (with_reducible repeat (first | apply Kd.R_alloc | apply Kd.R_drewN | apply Kd.R_drew)); exact HO175.out) hb); replace BK165 := bl BK165 hb; replace HB := bs HB hb; (try clear hb); (try clear hb2); (try clear hk); (try clear hi); obtain ⟨hcz82_0, hcz82_1, hcz82_2, hcz82_3, hcz82_4, hcz82_5, hcz82_6, hcz82_7, hcz82_8, hcz82_9, hcz82_10, hfz82_0, hfz82_1, hfz82_2, hfz82_3, hfz82_4, hfz82_5, hfz82_6, hfz82_7, hfz82_8, hfz82_9, hfz82_10⟩ := kc11 BK165) | (go_at_call 77; (with_reducible refine (lectionaryref4_Begin.calls a0_3 a0_4 a0_5 true _ A76.out).mono ?_); rintro e w83 ⟨rfl, hb⟩; replace HO175 := Aside0.mk (Kd.R_below (by (with_reducible repeat (first | apply Kd.R_alloc | apply Kd.R_drewN | apply Kd.R_drew)); exact HO175.out) hb); replace BK165 := bl BK165 hb; replace HB := bs HB hb; (try clear hb); (try clear hb2); (try clear hk); (try clear hi); obtain ⟨hcz84_0, hcz84_1, hcz84_2, hcz84_3, hcz84_4, hcz84_5, hcz84_6, hcz84_7, hcz84_8, hcz84_9, hcz84_10, hfz84_0, hfz84_1, hfz84_2, hfz84_3, hfz84_4, hfz84_5, hfz84_6, hfz84_7, hfz84_8, hfz84_9, hfz84_10⟩ := kc11 BK165) | (go_at_call 114; (with_reducible refine (lectionaryref4_own.calls a0_0 a0_1 a0_2 a0_3 a0_4 a0_5 a0_6 _ _ l0_7 a0_8 a0_9 a0_10 a0_3 a0_4 a0_5 t178 _ ?side1 ?side2 A78.out).mono ?_); (case side1 => repeat (first | exact (Kd.C_below HR0_7.out HB.out) | (with_reducible refine Kd.C_alloc ?_ _) | (with_reducible refine Kd.C_drewN ?_ _) | (with_reducible refine Kd.C_drew ?_))); (case side2 => exact HC0_7.out); rintro e w85 ⟨rfl, hb⟩; replace HO175 := Aside0.mk (Kd.R_below (by (with_reducible repeat (first | apply Kd.R_alloc | apply Kd.R_drewN | apply Kd.R_drew)); exact HO175.out) hb); replace BK165 := bl BK165 hb; replace HB := bs HB hb; (try clear hb); (try clear hb2); (try clear hk); (try clear hi)))
         go_meet
         case rel => exact ⟨_, (t178), rf, H', ⟨by have := HJ48.out; first | omega | exact Nat.le_refl _⟩, ⟨kk BK165⟩, ⟨bw HB⟩⟩
        replace c77 := Bool.eq_false_iff.mpr c77
        subst c77
        have H1 : (lectionaryref4_Op.j1 kj48 true a0_0 a0_1 a0_2 a0_3 a0_4 a0_5 a0_6 l0_7 a0_8 a0_9 a0_10) = some r := by rw [if_neg (show ¬ (false = true) by decide)] at H; exact H
        clear H
        have H := H1
        clear H1
        have H' := Aside0.mk H
        clear H
        obtain ⟨Ao86, co86, eo86⟩ := Kd.R_slice HO175.out
        subst eo86
        obtain ⟨hcz87_0, hcz87_1, hcz87_2, hcz87_3, hcz87_4, hcz87_5, hcz87_6, hcz87_7, hcz87_8, hcz87_9, hcz87_10, hfz87_0, hfz87_1, hfz87_2, hfz87_3, hfz87_4, hfz87_5, hfz87_6, hfz87_7, hfz87_8, hfz87_9, hfz87_10⟩ := kc11 BK165
        go_wp2_with (first | (go_at_call 68; (with_reducible refine (lectionaryref4_Elem.calls a0_3 a0_4 a0_5 true _ A73.out).mono ?_); rintro e w88 ⟨rfl, hb⟩; replace HO175 := Aside0.mk (Kd.R_below (by (with_reducible repeat (first | apply Kd.R_alloc | apply Kd.R_drewN | apply Kd.R_drew)); exact HO175.out) hb); replace BK165 := bl BK165 hb; replace HB := bs HB hb; (try clear hb); (try clear hb2); (try clear hk); (try clear hi); obtain ⟨hcz89_0, hcz89_1, hcz89_2, hcz89_3, hcz89_4, hcz89_5, hcz89_6, hcz89_7, hcz89_8, hcz89_9, hcz89_10, hfz89_0, hfz89_1, hfz89_2, hfz89_3, hfz89_4, hfz89_5, hfz89_6, hfz89_7, hfz89_8, hfz89_9, hfz89_10⟩ := kc11 BK165) | (go_at_call 77; (with_reducible refine (lectionaryref4_Begin.calls a0_3 a0_4 a0_5 false _ A76.out).mono ?_); rintro e w90 ⟨rfl, hb⟩; replace HO175 := Aside0.mk (Kd.R_below (by (with_reducible repeat (first | apply Kd.R_alloc | apply Kd.R_drewN | apply Kd.R_drew)); exact HO175.out) hb); replace BK165 := bl BK165 hb; replace HB := bs HB hb; (try clear hb); (try clear hb2); (try clear hk); (try clear hi)))
        go_meet
        case rel => exact ⟨_, (true), rf, H', ⟨by have := HJ48.out; first | omega | exact Nat.le_refl _⟩, ⟨kk BK165⟩, ⟨bw HB⟩⟩
       rw [if_neg c75] at H
       have c75b0 : ((t172.length : Int) == 0) = false := beq_eq_false_iff_ne.mpr c75
       have c75b1 : ((t172.length : Int) != 0) = true := bne_iff_ne.mpr c75
       have c75b2 : ¬ (t172 = []) := fun h_ => c75 (by rw [h_]; rfl)
       replace H := Option.bind_eq_some_iff.mp H
       obtain ⟨t179, A910, H⟩ := H
       replace H : (lectionaryref4_Op.j1 kj48 t179 a0_0 a0_1 a0_2 a0_3 a0_4 a0_5 a0_6 l0_7 a0_8 a0_9 a0_10) = some r := H
       have A91 := Aside0.mk A910
       clear A910
       have H' := Aside0.mk H
       clear H
       obtain ⟨Ao92, co92, eo92⟩ := Kd.R_slice HO175.out
       subst eo92
       obtain ⟨hcz93_0, hcz93_1, hcz93_2, hcz93_3, hcz93_4, hcz93_5, hcz93_6, hcz93_7, hcz93_8, hcz93_9, hcz93_10, hfz93_0, hfz93_1, hfz93_2, hfz93_3, hfz93_4, hfz93_5, hfz93_6, hfz93_7, hfz93_8, hfz93_9, hfz93_10⟩ := kc11 BK165
       go_wp2_with (first | (go_at_call 68; (with_reducible refine (lectionaryref4_Elem.calls a0_3 a0_4 a0_5 true _ A73.out).mono ?_); rintro e w94 ⟨rfl, hb⟩; replace HO175 := Aside0.mk (Kd.R_below (by (with_reducible repeat (first | apply Kd.R_alloc | apply Kd.R_drewN | apply Kd.R_drew)); exact HO175.out) hb); replace BK165 := bl BK165 hb; replace HB := bs HB hb; (try clear hb); (try clear hb2); (try clear hk); (try clear hi); obtain ⟨hcz95_0, hcz95_1, hcz95_2, hcz95_3, hcz95_4, hcz95_5, hcz95_6, hcz95_7, hcz95_8, hcz95_9, hcz95_10, hfz95_0, hfz95_1, hfz95_2, hfz95_3, hfz95_4, hfz95_5, hfz95_6, hfz95_7, hfz95_8, hfz95_9, hfz95_10⟩ := kc11 BK165) | (go_at_call 114; (with_reducible refine (lectionaryref4_own.calls a0_0 a0_1 a0_2 a0_3 a0_4 a0_5 a0_6 _ _ l0_7 a0_8 a0_9 a0_10 a0_3 a0_4 a0_5 t179 _ ?side1 ?side2 A91.out).mono ?_); (case side1 => repeat (first | exact (Kd.C_below HR0_7.out HB.out) | (with_reducible refine Kd.C_alloc ?_ _) | (with_reducible refine Kd.C_drewN ?_ _) | (with_reducible refine Kd.C_drew ?_))); (case side2 => exact HC0_7.out); rintro e w96 ⟨rfl, hb⟩; replace HO175 := Aside0.mk (Kd.R_below (by (with_reducible repeat (first | apply Kd.R_alloc | apply Kd.R_drewN | apply Kd.R_drew)); exact HO175.out) hb); replace BK165 := bl BK165 hb; replace HB := bs HB hb; (try clear hb); (try clear hb2); (try clear hk); (try clear hi)))
       go_meet
       case rel => exact ⟨_, (t179), rf, H', ⟨by have := HJ48.out; first | omega | exact Nat.le_refl _⟩, ⟨kk BK165⟩, ⟨bw HB⟩⟩
      replace c74 := Bool.eq_false_iff.mpr c74
      subst c74
      have H1 : (lectionaryref4_Op.j1 kj48 true a0_0 a0_1 a0_2 a0_3 a0_4 a0_5 a0_6 l0_7 a0_8 a0_9 a0_10) = some r := by rw [if_neg (show ¬ (false = true) by decide)] at H; exact H
      clear H
      have H := H1
      clear H1
      have H' := Aside0.mk H
      clear H
      obtain ⟨Ao97, co97, eo97⟩ := Kd.R_slice HO175.out
      subst eo97
      obtain ⟨hcz98_0, hcz98_1, hcz98_2, hcz98_3, hcz98_4, hcz98_5, hcz98_6, hcz98_7, hcz98_8, hcz98_9, hcz98_10, hfz98_0, hfz98_1, hfz98_2, hfz98_3, hfz98_4, hfz98_5, hfz98_6, hfz98_7, hfz98_8, hfz98_9, hfz98_10⟩ := kc11 BK165
      go_wp2_with (first | (go_at_call 68; (with_reducible refine (lectionaryref4_Elem.calls a0_3 a0_4 a0_5 false _ A73.out).mono ?_); rintro e w99 ⟨rfl, hb⟩; replace HO175 := Aside0.mk (Kd.R_below (by (with_reducible repeat (first | apply Kd.R_alloc | apply Kd.R_drewN | apply Kd.R_drew)); exact HO175.out) hb); replace BK165 := bl BK165 hb; replace HB := bs HB hb; (try clear hb); (try clear hb2); (try clear hk); (try clear hi)))
      go_meet
      case rel => exact ⟨_, (true), rf, H', ⟨by have := HJ48.out; first | omega | exact Nat.le_refl _⟩, ⟨kk BK165⟩, ⟨bw HB⟩⟩
     replace c70 := Bool.eq_false_iff.mpr c70
     subst c70
     have H1 : (lectionaryref4_Op.j1 kj48 true a0_0 a0_1 a0_2 a0_3 a0_4 a0_5 a0_6 l0_7 a0_8 a0_9 a0_10) = some r := by rw [if_neg (show ¬ (false = true) by decide)] at H; exact H
     clear H
     have H := H1
     clear H1
     have H' := Aside0.mk H
     clear H
     go_wp2
     go_meet
     case rel => exact ⟨_, (true), rf, H', ⟨by have := HJ48.out; first | omega | exact Nat.le_refl _⟩, ⟨kk BK165⟩, ⟨bw HB⟩⟩
    case rest =>
     clear HC67
     try clear c65; try clear hcz68_0; try clear hcz68_1; try clear hcz68_10; try clear hcz68_2; try clear hcz68_3; try clear hcz68_4; try clear hcz68_5; try clear hcz68_6; try clear hcz68_7; try clear hcz68_8; try clear hcz68_9; try clear hfz68_0; try clear hfz68_1; try clear hfz68_10; try clear hfz68_2; try clear hfz68_3; try clear hfz68_4; try clear hfz68_5; try clear hfz68_6; try clear hfz68_7; try clear hfz68_8; try clear hfz68_9
     obtain ⟨kq, x125_66, rfl, HA, HJ66, BK165, HB⟩ := hcut
     cases kq with
     | zero => exact absurd HA.out (by simp [lectionaryref4_Op.j1])
     | succ kj66 =>
      have H := HA.out
      clear HA
      simp only [lectionaryref4_Op.j1] at H
      by_cases c100 : x125_66 = true
      ·subst c100
       have H1 : (some false) = some r := by rw [if_pos rfl] at H; exact H
       clear H
       have H := H1
       clear H1
       obtain rfl := Option.some.inj H
       go_wp2
       go_ret
       exact ⟨re, bw HB⟩
      replace c100 := Bool.eq_false_iff.mpr c100
      subst c100
      have H1 : (lectionaryref4_Op.l0 kj66 0 a0_0 a0_1 a0_2 a0_3 a0_4 a0_5 a0_6 l0_7 a0_8 a0_9 a0_10) = some r := by rw [if_neg (show ¬ (false = true) by decide)] at H; exact H
      clear H
      have H := H1
      clear H1
      have H' := Aside0.mk H
      clear H
      go_wp2
      go_loopg [5] kj66 (fun kq v5 w' => ∃ (x5_3 : Int), v5 = .int .i64 x5_3 ∧ Aside0 (lectionaryref4_Op.l0 kq x5_3 a0_0 a0_1 a0_2 a0_3 a0_4 a0_5 a0_6 l0_7 a0_8 a0_9 a0_10 = some r) ∧ Aside0 (kq ≤ kj66) ∧ Aside0 (w'.heap[gb165]? = some (.cells #[.int .i64 a0_0, .int .i64 a0_1, .int .i64 a0_2, .int .i64 a0_3, .int .i64 a0_4, .int .i64 a0_5, .string a0_6, (.slice A0_7 l0_7.length c0_7), .int .i64 a0_8, .int .i64 a0_9, .int .i64 a0_10] 31 (0, 0))) ∧ Aside0 (Below w.heap.size w w'))
      case atStart => exact ⟨(0), rf, H', ⟨Nat.le_refl _⟩, ⟨kk BK165⟩, ⟨bw HB⟩⟩
      case round =>
       clear H'
       try clear c100
       obtain ⟨x5_3, rfl, HA, HK3, BK165, HB⟩ := hrel
       cases gk with
       | zero => exact absurd HA.out (by simp [lectionaryref4_Op.l0])
       | succ k3 =>
        have H := HA.out
        clear HA
        simp only [lectionaryref4_Op.l0] at H
        by_cases c101 : x5_3 < (l0_7.length : Int)
        ·as_aux_lemma =>
         rw [if_pos c101] at H
         have c101b0 : decide (x5_3 < (l0_7.length : Int)) = true := decide_eq_true c101
         clear c101
         by_cases c102 : 0 ≤ x5_3
         ·as_aux_lemma =>
          rw [if_pos c102] at H
          have c102b0 : decide (0 ≤ x5_3) = true := decide_eq_true c102
          clear c102
          replace H := Option.bind_eq_some_iff.mp H
          obtain ⟨t181, A1030, H⟩ := H
          replace H : (if t181 = true then (some false) else ((lectionaryref4_Elem.f ((rd_Elem l0_7 x5_3).f0) ((rd_Elem l0_7 x5_3).f1) ((rd_Elem l0_7 x5_3).f2)).bind fun t183 => (if t183 = true then ((lectionaryref4_own.f a0_0 a0_1 a0_2 a0_3 a0_4 a0_5 a0_6 l0_7 a0_8 a0_9 a0_10 ((rd_Elem l0_7 x5_3).f0) ((rd_Elem l0_7 x5_3).f1) ((rd_Elem l0_7 x5_3).f2)).bind fun t185 => (if t185 = true then (some false) else (if x5_3 > 0 then (if 0 ≤ (wrap64 (x5_3 - 1)) then (if (wrap64 (x5_3 - 1)) < (l0_7.length : Int) then ((lectionaryref4_Less.f ((rd_Elem l0_7 (wrap64 (x5_3 - 1))).f0) ((rd_Elem l0_7 (wrap64 (x5_3 - 1))).f1) ((rd_Elem l0_7 (wrap64 (x5_3 - 1))).f2) ((rd_Elem l0_7 x5_3).f0) ((rd_Elem l0_7 x5_3).f1) ((rd_Elem l0_7 x5_3).f2)).bind fun t188 => (if t188 = true then (lectionaryref4_Op.l0 k3 (wrap64 (x5_3 + 1)) a0_0 a0_1 a0_2 a0_3 a0_4 a0_5 a0_6 l0_7 a0_8 a0_9 a0_10) else (some false))) else (none)) else (none)) else (lectionaryref4_Op.l0 k3 (wrap64 (x5_3 + 1)) a0_0 a0_1 a0_2 a0_3 a0_4 a0_5 a0_6 l0_7 a0_8 a0_9 a0_10)))) else (some false)))) = some r := H
          have A103 := Aside0.mk A1030
          clear A1030
          by_cases c104 : t181 = true
          ·as_aux_lemma =>
           subst c104
           have H1 : (some false) = some r := by rw [if_pos rfl] at H; exact H
           clear H
           have H := H1
           clear H1
           obtain rfl := Option.some.inj H
           obtain ⟨hcz105_0, hcz105_1, hcz105_2, hcz105_3, hcz105_4, hcz105_5, hcz105_6, hcz105_7, hcz105_8, hcz105_9, hcz105_10, hfz105_0, hfz105_1, hfz105_2, hfz105_3, hfz105_4, hfz105_5, hfz105_6, hfz105_7, hfz105_8, hfz105_9, hfz105_10⟩ := kc11 BK165
           try go_wp2
           have n0_ := Aside0.mk (blk_drew BK165.out)
           have n1_ := Aside0.mk (below_drew1 HB.out)
           clear BK165
           clear HB
           have BK165 := n0_
           have HB := n1_
           clear n0_ n1_
           have p180 : 0 ≤ (x5_3 : Int) := of_decide_eq_true (by first | (with_reducible assumption) | assumption)
           have q180 : x5_3 < (l0_7.length : Int) := of_decide_eq_true (by first | (with_reducible assumption) | assumption)
           obtain ⟨ad180, e180, hx180_0, hx180_1, hx180_2⟩ := at_Elem HR0_7.out x5_3 p180 q180
           have hw180_2 := hx180_2
           have hw180_1 := hx180_1
           have hw180_0 := hx180_0
           cases e180
           replace hx180_0 := cl HB hx180_0
           replace hx180_1 := cl HB hx180_1
           replace hx180_2 := cl HB hx180_2
           replace p180 := eq_true p180
           replace q180 := eq_true q180
           refine stP (fun w' => B11 w' gb165 (.int .i64 a0_0) (.int .i64 a0_1) (.int .i64 a0_2) (.int .i64 a0_3) (.int .i64 a0_4) (.int .i64 a0_5) (.string a0_6) (.slice (some ad180) l0_7.length c0_7) (.int .i64 a0_8) (.int .i64 a0_9) (.int .i64 a0_10) (w'.cell? (ad180.add ((x5_3).toNat * 3)) = some (.int .i64 ((rd_Elem l0_7 x5_3).f0)) ∧ w'.cell? ⟨(ad180.add ((x5_3).toNat * 3)).block, (ad180.add ((x5_3).toNat * 3)).off + 1, none⟩ = some (.int .i64 ((rd_Elem l0_7 x5_3).f1)) ∧ w'.cell? ⟨(ad180.add ((x5_3).toNat * 3)).block, (ad180.add ((x5_3).toNat * 3)).off + 2, none⟩ = some (.int .i64 ((rd_Elem l0_7 x5_3).f2)))) 43 (b11 BK165 ⟨(cl HB hw180_0), (cl HB hw180_1), (cl HB hw180_2)⟩) (h := fun hHeld => ?_); refine with_tabW lectionaryref4_Op.tab13 lectionaryref4_Op.bits13 (fun HT_ HW_ => ?_)
           generalize wr.drew = w106 at BK165 HB hx180_0 hx180_1 hx180_2 hHeld ⊢
           refine pu HT_ 0 133 1 (h := ?_)
           refine pu HT_ 2 135 5 (h := ?_)
           refine tk HT_ HW_ hHeld 1 134 7 (h := ?_)
           refine pu HT_ 3 136 15 (h := ?_)
           refine tk HT_ HW_ hHeld 4 137 31 (h := ?_)
           refine on HT_ 5 (some 138) 63 (h := fun K hK => ?_)
           refine gS Tryd.func77 #[.agg #[.int .i64 ((rd_Elem l0_7 x5_3).f0), .int .i64 ((rd_Elem l0_7 x5_3).f1), .int .i64 ((rd_Elem l0_7 x5_3).f2)]] (h := ?_)
           with_reducible refine (lectionaryref4_Begin.calls ((rd_Elem l0_7 x5_3).f0) ((rd_Elem l0_7 x5_3).f1) ((rd_Elem l0_7 x5_3).f2) true _ A103.out).mono ?_
           rintro e w107 ⟨rfl, hb⟩
           refine ⟨_, rfl, ?_⟩
           have n0_ := bl BK165 hb
           have n1_ := bs HB hb
           clear BK165
           clear HB
           have BK165 := n0_
           have HB := n1_
           clear n0_ n1_
           (try clear hb)
           (try clear hb2)
           (try clear hk)
           (try clear hi)
           refine hK.out _ _ (b11 BK165 ⟨(cl HB hw180_0), (cl HB hw180_1), (cl HB hw180_2)⟩) (fun hHeld => ?_)
           clear hK K
           refine nm (h := ?_)
           refine pu HT_ 6 139 127 (h := ?_)
           refine off HT_ 7 140 255 (h := ?_)
           refine off HT_ 8 141 511 (h := ?_)
           refine off HT_ 9 142 1023 (h := ?_)
           refine off HT_ 10 143 2047 (h := ?_)
           refine off HT_ 11 144 4095 (h := ?_)
           refine off HT_ 12 145 8191 (h := ?_)
           refine off HT_ 13 146 16383 (h := ?_)
           refine pu HT_ 14 147 32767 (h := ?_)
           refine pu HT_ 15 148 65535 (h := ?_)
           refine off HT_ 16 149 131071 (h := ?_)
           refine off HT_ 17 150 262143 (h := ?_)
           refine off HT_ 18 151 524287 (h := ?_)
           refine off HT_ 19 152 1048575 (h := ?_)
           refine off HT_ 20 153 2097151 (h := ?_)
           refine off HT_ 21 154 4194303 (h := ?_)
           refine off HT_ 22 155 8388607 (h := ?_)
           refine pu HT_ 23 156 16777215 (h := ?_)
           refine pu HT_ 24 157 33554431 (h := ?_)
           refine off HT_ 25 158 67108863 (h := ?_)
           refine off HT_ 26 159 134217727 (h := ?_)
           refine off HT_ 27 160 268435455 (h := ?_)
           refine off HT_ 28 161 536870911 (h := ?_)
           refine off HT_ 29 162 1073741823 (h := ?_)
           refine off HT_ 30 163 2147483647 (h := ?_)
           refine off HT_ 31 164 4294967295 (h := ?_)
           refine off HT_ 32 165 8589934591 (h := ?_)
           refine off HT_ 33 166 17179869183 (h := ?_)
           refine off HT_ 34 167 34359738367 (h := ?_)
           refine off HT_ 35 168 68719476735 (h := ?_)
           refine off HT_ 36 169 137438953471 (h := ?_)
           refine off HT_ 37 170 274877906943 (h := ?_)
           refine off HT_ 38 171 549755813887 (h := ?_)
           refine off HT_ 39 172 1099511627775 (h := ?_)
           refine off HT_ 40 173 2199023255551 (h := ?_)
           refine off HT_ 41 174 4398046511103 (h := ?_)
           refine pu HT_ 42 175 8796093022207 (h := ?_)
           refine dn HT_ (h := ?_)
           try go_wp2
           go_ret
           exact ⟨re, bw HB⟩
          replace c104 := Bool.eq_false_iff.mpr c104
          subst c104
          have H1 : ((lectionaryref4_Elem.f ((rd_Elem l0_7 x5_3).f0) ((rd_Elem l0_7 x5_3).f1) ((rd_Elem l0_7 x5_3).f2)).bind fun t183 => (if t183 = true then ((lectionaryref4_own.f a0_0 a0_1 a0_2 a0_3 a0_4 a0_5 a0_6 l0_7 a0_8 a0_9 a0_10 ((rd_Elem l0_7 x5_3).f0) ((rd_Elem l0_7 x5_3).f1) ((rd_Elem l0_7 x5_3).f2)).bind fun t185 => (if t185 = true then (some false) else (if x5_3 > 0 then (if 0 ≤ (wrap64 (x5_3 - 1)) then (if (wrap64 (x5_3 - 1)) < (l0_7.length : Int) then ((lectionaryref4_Less.f ((rd_Elem l0_7 (wrap64 (x5_3 - 1))).f0) ((rd_Elem l0_7 (wrap64 (x5_3 - 1))).f1) ((rd_Elem l0_7 (wrap64 (x5_3 - 1))).f2) ((rd_Elem l0_7 x5_3).f0) ((rd_Elem l0_7 x5_3).f1) ((rd_Elem l0_7 x5_3).f2)).bind fun t188 => (if t188 = true then (lectionaryref4_Op.l0 k3 (wrap64 (x5_3 + 1)) a0_0 a0_1 a0_2 a0_3 a0_4 a0_5 a0_6 l0_7 a0_8 a0_9 a0_10) else (some false))) else (none)) else (none)) else (lectionaryref4_Op.l0 k3 (wrap64 (x5_3 + 1)) a0_0 a0_1 a0_2 a0_3 a0_4 a0_5 a0_6 l0_7 a0_8 a0_9 a0_10)))) else (some false))) = some r := by rw [if_neg (show ¬ (false = true) by decide)] at H; exact H
          clear H
          have H := H1
          clear H1
          replace H := Option.bind_eq_some_iff.mp H
          obtain ⟨t183, A1080, H⟩ := H
          replace H : (if t183 = true then ((lectionaryref4_own.f a0_0 a0_1 a0_2 a0_3 a0_4 a0_5 a0_6 l0_7 a0_8 a0_9 a0_10 ((rd_Elem l0_7 x5_3).f0) ((rd_Elem l0_7 x5_3).f1) ((rd_Elem l0_7 x5_3).f2)).bind fun t185 => (if t185 = true then (some false) else (if x5_3 > 0 then (if 0 ≤ (wrap64 (x5_3 - 1)) then (if (wrap64 (x5_3 - 1)) < (l0_7.length : Int) then ((lectionaryref4_Less.f ((rd_Elem l0_7 (wrap64 (x5_3 - 1))).f0) ((rd_Elem l0_7 (wrap64 (x5_3 - 1))).f1) ((rd_Elem l0_7 (wrap64 (x5_3 - 1))).f2) ((rd_Elem l0_7 x5_3).f0) ((rd_Elem l0_7 x5_3).f1) ((rd_Elem l0_7 x5_3).f2)).bind fun t188 => (if t188 = true then (lectionaryref4_Op.l0 k3 (wrap64 (x5_3 + 1)) a0_0 a0_1 a0_2 a0_3 a0_4 a0_5 a0_6 l0_7 a0_8 a0_9 a0_10) else (some false))) else (none)) else (none)) else (lectionaryref4_Op.l0 k3 (wrap64 (x5_3 + 1)) a0_0 a0_1 a0_2 a0_3 a0_4 a0_5 a0_6 l0_7 a0_8 a0_9 a0_10)))) else (some false)) = some r := H
          have A108 := Aside0.mk A1080
          clear A1080
          by_cases c109 : t183 = true
          ·as_aux_lemma =>
           subst c109
           have H1 : ((lectionaryref4_own.f a0_0 a0_1 a0_2 a0_3 a0_4 a0_5 a0_6 l0_7 a0_8 a0_9 a0_10 ((rd_Elem l0_7 x5_3).f0) ((rd_Elem l0_7 x5_3).f1) ((rd_Elem l0_7 x5_3).f2)).bind fun t185 => (if t185 = true then (some false) else (if x5_3 > 0 then (if 0 ≤ (wrap64 (x5_3 - 1)) then (if (wrap64 (x5_3 - 1)) < (l0_7.length : Int) then ((lectionaryref4_Less.f ((rd_Elem l0_7 (wrap64 (x5_3 - 1))).f0) ((rd_Elem l0_7 (wrap64 (x5_3 - 1))).f1) ((rd_Elem l0_7 (wrap64 (x5_3 - 1))).f2) ((rd_Elem l0_7 x5_3).f0) ((rd_Elem l0_7 x5_3).f1) ((rd_Elem l0_7 x5_3).f2)).bind fun t188 => (if t188 = true then (lectionaryref4_Op.l0 k3 (wrap64 (x5_3 + 1)) a0_0 a0_1 a0_2 a0_3 a0_4 a0_5 a0_6 l0_7 a0_8 a0_9 a0_10) else (some false))) else (none)) else (none)) else (lectionaryref4_Op.l0 k3 (wrap64 (x5_3 + 1)) a0_0 a0_1 a0_2 a0_3 a0_4 a0_5 a0_6 l0_7 a0_8 a0_9 a0_10)))) = some r := by rw [if_pos rfl] at H; exact H
           clear H
           have H := H1
           clear H1
           replace H := Option.bind_eq_some_iff.mp H
           obtain ⟨t185, A1100, H⟩ := H
           replace H : (if t185 = true then (some false) else (if x5_3 > 0 then (if 0 ≤ (wrap64 (x5_3 - 1)) then (if (wrap64 (x5_3 - 1)) < (l0_7.length : Int) then ((lectionaryref4_Less.f ((rd_Elem l0_7 (wrap64 (x5_3 - 1))).f0) ((rd_Elem l0_7 (wrap64 (x5_3 - 1))).f1) ((rd_Elem l0_7 (wrap64 (x5_3 - 1))).f2) ((rd_Elem l0_7 x5_3).f0) ((rd_Elem l0_7 x5_3).f1) ((rd_Elem l0_7 x5_3).f2)).bind fun t188 => (if t188 = true then (lectionaryref4_Op.l0 k3 (wrap64 (x5_3 + 1)) a0_0 a0_1 a0_2 a0_3 a0_4 a0_5 a0_6 l0_7 a0_8 a0_9 a0_10) else (some false))) else (none)) else (none)) else (lectionaryref4_Op.l0 k3 (wrap64 (x5_3 + 1)) a0_0 a0_1 a0_2 a0_3 a0_4 a0_5 a0_6 l0_7 a0_8 a0_9 a0_10))) = some r := H
           have A110 := Aside0.mk A1100
           clear A1100
           by_cases c111 : t185 = true
           ·as_aux_lemma =>
            subst c111
            have H1 : (some false) = some r := by rw [if_pos rfl] at H; exact H
            clear H
            have H := H1
            clear H1
            obtain rfl := Option.some.inj H
            obtain ⟨hcz112_0, hcz112_1, hcz112_2, hcz112_3, hcz112_4, hcz112_5, hcz112_6, hcz112_7, hcz112_8, hcz112_9, hcz112_10, hfz112_0, hfz112_1, hfz112_2, hfz112_3, hfz112_4, hfz112_5, hfz112_6, hfz112_7, hfz112_8, hfz112_9, hfz112_10⟩ := kc11 BK165
            try go_wp2
            have n0_ := Aside0.mk (blk_drew BK165.out)
            have n1_ := Aside0.mk (below_drew1 HB.out)
            clear BK165
            clear HB
            have BK165 := n0_
            have HB := n1_
            clear n0_ n1_
            have p180 : 0 ≤ (x5_3 : Int) := of_decide_eq_true (by first | (with_reducible assumption) | assumption)
            have q180 : x5_3 < (l0_7.length : Int) := of_decide_eq_true (by first | (with_reducible assumption) | assumption)
            obtain ⟨ad180, e180, hx180_0, hx180_1, hx180_2⟩ := at_Elem HR0_7.out x5_3 p180 q180
            have hw180_2 := hx180_2
            have hw180_1 := hx180_1
            have hw180_0 := hx180_0
            cases e180
            replace hx180_0 := cl HB hx180_0
            replace hx180_1 := cl HB hx180_1
            replace hx180_2 := cl HB hx180_2
            replace p180 := eq_true p180
            replace q180 := eq_true q180
            have p182 : 0 ≤ (x5_3 : Int) := of_decide_eq_true (by first | (with_reducible assumption) | assumption)
            have q182 : x5_3 < (l0_7.length : Int) := of_decide_eq_true (by first | (with_reducible assumption) | assumption)
            obtain ⟨ad182, e182, hx182_0, hx182_1, hx182_2⟩ := at_Elem HR0_7.out x5_3 p182 q182
            have hw182_2 := hx182_2
            have hw182_1 := hx182_1
            have hw182_0 := hx182_0
            obtain rfl : ad180 = ad182 := (by injection e182)
            replace hx182_0 := cl HB hx182_0
            replace hx182_1 := cl HB hx182_1
            replace hx182_2 := cl HB hx182_2
            replace p182 := eq_true p182
            replace q182 := eq_true q182
            have p184 : 0 ≤ (x5_3 : Int) := of_decide_eq_true (by first | (with_reducible assumption) | assumption)
            have q184 : x5_3 < (l0_7.length : Int) := of_decide_eq_true (by first | (with_reducible assumption) | assumption)
            obtain ⟨ad184, e184, hx184_0, hx184_1, hx184_2⟩ := at_Elem HR0_7.out x5_3 p184 q184
            have hw184_2 := hx184_2
            have hw184_1 := hx184_1
            have hw184_0 := hx184_0
            obtain rfl : ad180 = ad184 := (by injection e184)
            replace hx184_0 := cl HB hx184_0
            replace hx184_1 := cl HB hx184_1
            replace hx184_2 := cl HB hx184_2
            replace p184 := eq_true p184
            replace q184 := eq_true q184
            refine stP (fun w' => B11 w' gb165 (.int .i64 a0_0) (.int .i64 a0_1) (.int .i64 a0_2) (.int .i64 a0_3) (.int .i64 a0_4) (.int .i64 a0_5) (.string a0_6) (.slice (some ad180) l0_7.length c0_7) (.int .i64 a0_8) (.int .i64 a0_9) (.int .i64 a0_10) (w'.cell? (ad180.add ((x5_3).toNat * 3)) = some (.int .i64 ((rd_Elem l0_7 x5_3).f0)) ∧ w'.cell? ⟨(ad180.add ((x5_3).toNat * 3)).block, (ad180.add ((x5_3).toNat * 3)).off + 1, none⟩ = some (.int .i64 ((rd_Elem l0_7 x5_3).f1)) ∧ w'.cell? ⟨(ad180.add ((x5_3).toNat * 3)).block, (ad180.add ((x5_3).toNat * 3)).off + 2, none⟩ = some (.int .i64 ((rd_Elem l0_7 x5_3).f2)) ∧ w'.cell? (ad180.add ((x5_3).toNat * 3)) = some (.int .i64 ((rd_Elem l0_7 x5_3).f0)) ∧ w'.cell? ⟨(ad180.add ((x5_3).toNat * 3)).block, (ad180.add ((x5_3).toNat * 3)).off + 1, none⟩ = some (.int .i64 ((rd_Elem l0_7 x5_3).f1)) ∧ w'.cell? ⟨(ad180.add ((x5_3).toNat * 3)).block, (ad180.add ((x5_3).toNat * 3)).off + 2, none⟩ = some (.int .i64 ((rd_Elem l0_7 x5_3).f2)) ∧ w'.cell? (ad180.add ((x5_3).toNat * 3)) = some (.int .i64 ((rd_Elem l0_7 x5_3).f0)) ∧ w'.cell? ⟨(ad180.add ((x5_3).toNat * 3)).block, (ad180.add ((x5_3).toNat * 3)).off + 1, none⟩ = some (.int .i64 ((rd_Elem l0_7 x5_3).f1)) ∧ w'.cell? ⟨(ad180.add ((x5_3).toNat * 3)).block, (ad180.add ((x5_3).toNat * 3)).off + 2, none⟩ = some (.int .i64 ((rd_Elem l0_7 x5_3).f2)))) 43 (b11 BK165 ⟨(cl HB hw180_0), (cl HB hw180_1), (cl HB hw180_2), (cl HB hw182_0), (cl HB hw182_1), (cl HB hw182_2), (cl HB hw184_0), (cl HB hw184_1), (cl HB hw184_2)⟩) (h := fun hHeld => ?_); refine with_tabW lectionaryref4_Op.tab13 lectionaryref4_Op.bits13 (fun HT_ HW_ => ?_)
            generalize wr.drew = w113 at BK165 HB hx180_0 hx180_1 hx180_2 hx182_0 hx182_1 hx182_2 hx184_0 hx184_1 hx184_2 hHeld ⊢
            refine pu HT_ 0 133 1 (h := ?_)
            refine pu HT_ 2 135 5 (h := ?_)
            refine tk HT_ HW_ hHeld 1 134 7 (h := ?_)
            refine pu HT_ 3 136 15 (h := ?_)
            refine tk HT_ HW_ hHeld 4 137 31 (h := ?_)
            refine on HT_ 5 (some 138) 63 (h := fun K hK => ?_)
            refine gS Tryd.func77 #[.agg #[.int .i64 ((rd_Elem l0_7 x5_3).f0), .int .i64 ((rd_Elem l0_7 x5_3).f1), .int .i64 ((rd_Elem l0_7 x5_3).f2)]] (h := ?_)
            with_reducible refine (lectionaryref4_Begin.calls ((rd_Elem l0_7 x5_3).f0) ((rd_Elem l0_7 x5_3).f1) ((rd_Elem l0_7 x5_3).f2) false _ A103.out).mono ?_
            rintro e w114 ⟨rfl, hb⟩
            refine ⟨_, rfl, ?_⟩
            have n0_ := bl BK165 hb
            have n1_ := bs HB hb
            clear BK165
            clear HB
            have BK165 := n0_
            have HB := n1_
            clear n0_ n1_
            (try clear hb)
            (try clear hb2)
            (try clear hk)
            (try clear hi)
            refine hK.out _ _ (b11 BK165 ⟨(cl HB hw180_0), (cl HB hw180_1), (cl HB hw180_2), (cl HB hw182_0), (cl HB hw182_1), (cl HB hw182_2), (cl HB hw184_0), (cl HB hw184_1), (cl HB hw184_2)⟩) (fun hHeld => ?_)
            clear hK K
            refine nm (h := ?_)
            refine pu HT_ 6 139 127 (h := ?_)
            refine pu HT_ 7 140 255 (h := ?_)
            refine pu HT_ 9 142 767 (h := ?_)
            refine tk HT_ HW_ hHeld 8 141 1023 (h := ?_)
            refine pu HT_ 10 143 2047 (h := ?_)
            refine tk HT_ HW_ hHeld 11 144 4095 (h := ?_)
            refine on HT_ 12 (some 145) 8191 (h := fun K hK => ?_)
            refine gS Tryd.func68 #[.agg #[.int .i64 ((rd_Elem l0_7 x5_3).f0), .int .i64 ((rd_Elem l0_7 x5_3).f1), .int .i64 ((rd_Elem l0_7 x5_3).f2)]] (h := ?_)
            with_reducible refine (lectionaryref4_Elem.calls ((rd_Elem l0_7 x5_3).f0) ((rd_Elem l0_7 x5_3).f1) ((rd_Elem l0_7 x5_3).f2) true _ A108.out).mono ?_
            rintro e w115 ⟨rfl, hb⟩
            refine ⟨_, rfl, ?_⟩
            have n0_ := bl BK165 hb
            have n1_ := bs HB hb
            clear BK165
            clear HB
            have BK165 := n0_
            have HB := n1_
            clear n0_ n1_
            (try clear hb)
            (try clear hb2)
            (try clear hk)
            (try clear hi)
            refine hK.out _ _ (b11 BK165 ⟨(cl HB hw180_0), (cl HB hw180_1), (cl HB hw180_2), (cl HB hw182_0), (cl HB hw182_1), (cl HB hw182_2), (cl HB hw184_0), (cl HB hw184_1), (cl HB hw184_2)⟩) (fun hHeld => ?_)
            clear hK K
            refine nm (h := ?_)
            refine pu HT_ 13 146 16383 (h := ?_)
            refine pu HT_ 14 147 32767 (h := ?_)
            refine pu HT_ 15 148 65535 (h := ?_)
            refine pu HT_ 17 150 196607 (h := ?_)
            refine pu HT_ 19 152 720895 (h := ?_)
            refine tk HT_ HW_ hHeld 16 149 786431 (h := ?_)
            refine tk HT_ HW_ hHeld 18 151 1048575 (h := ?_)
            refine pu HT_ 20 153 2097151 (h := ?_)
            refine tk HT_ HW_ hHeld 21 154 4194303 (h := ?_)
            refine on HT_ 22 (some 155) 8388607 (h := fun K hK => ?_)
            refine gS Tryd.func114 #[.agg #[.int .i64 a0_0, .int .i64 a0_1, .int .i64 a0_2, .int .i64 a0_3, .int .i64 a0_4, .int .i64 a0_5, .string a0_6, .slice (some ad180) l0_7.length c0_7, .int .i64 a0_8, .int .i64 a0_9, .int .i64 a0_10], .agg #[.int .i64 ((rd_Elem l0_7 x5_3).f0), .int .i64 ((rd_Elem l0_7 x5_3).f1), .int .i64 ((rd_Elem l0_7 x5_3).f2)]] (h := ?_)
            with_reducible refine (lectionaryref4_own.calls a0_0 a0_1 a0_2 a0_3 a0_4 a0_5 a0_6 _ _ l0_7 a0_8 a0_9 a0_10 ((rd_Elem l0_7 x5_3).f0) ((rd_Elem l0_7 x5_3).f1) ((rd_Elem l0_7 x5_3).f2) true _ ?side1 ?side2 A110.out).mono ?_
            (case side1 => repeat (first | exact (Kd.C_below HR0_7.out HB.out) | (with_reducible refine Kd.C_alloc ?_ _) | (with_reducible refine Kd.C_drewN ?_ _) | (with_reducible refine Kd.C_drew ?_)))
            (case side2 => exact HC0_7.out)
            rintro e w116 ⟨rfl, hb⟩
            refine ⟨_, rfl, ?_⟩
            have n0_ := bl BK165 hb
            have n1_ := bs HB hb
            clear BK165
            clear HB
            have BK165 := n0_
            have HB := n1_
            clear n0_ n1_
            (try clear hb)
            (try clear hb2)
            (try clear hk)
            (try clear hi)
            refine hK.out _ _ (b11 BK165 ⟨(cl HB hw180_0), (cl HB hw180_1), (cl HB hw180_2), (cl HB hw182_0), (cl HB hw182_1), (cl HB hw182_2), (cl HB hw184_0), (cl HB hw184_1), (cl HB hw184_2)⟩) (fun hHeld => ?_)
            clear hK K
            refine nm (h := ?_)
            refine pu HT_ 23 156 16777215 (h := ?_)
            refine pu HT_ 24 157 33554431 (h := ?_)
            refine off HT_ 25 158 67108863 (h := ?_)
            refine off HT_ 26 159 134217727 (h := ?_)
            refine off HT_ 27 160 268435455 (h := ?_)
            refine off HT_ 28 161 536870911 (h := ?_)
            refine off HT_ 29 162 1073741823 (h := ?_)
            refine off HT_ 30 163 2147483647 (h := ?_)
            refine off HT_ 31 164 4294967295 (h := ?_)
            refine off HT_ 32 165 8589934591 (h := ?_)
            refine off HT_ 33 166 17179869183 (h := ?_)
            refine off HT_ 34 167 34359738367 (h := ?_)
            refine off HT_ 35 168 68719476735 (h := ?_)
            refine off HT_ 36 169 137438953471 (h := ?_)
            refine off HT_ 37 170 274877906943 (h := ?_)
            refine off HT_ 38 171 549755813887 (h := ?_)
            refine off HT_ 39 172 1099511627775 (h := ?_)
            refine off HT_ 40 173 2199023255551 (h := ?_)
            refine off HT_ 41 174 4398046511103 (h := ?_)
            refine pu HT_ 42 175 8796093022207 (h := ?_)
            refine dn HT_ (h := ?_)
            try go_wp2
            go_ret
            exact ⟨re, bw HB⟩
           replace c111 := Bool.eq_false_iff.mpr c111
           subst c111
           have H1 : (if x5_3 > 0 then (if 0 ≤ (wrap64 (x5_3 - 1)) then (if (wrap64 (x5_3 - 1)) < (l0_7.length : Int) then ((lectionaryref4_Less.f ((rd_Elem l0_7 (wrap64 (x5_3 - 1))).f0) ((rd_Elem l0_7 (wrap64 (x5_3 - 1))).f1) ((rd_Elem l0_7 (wrap64 (x5_3 - 1))).f2) ((rd_Elem l0_7 x5_3).f0) ((rd_Elem l0_7 x5_3).f1) ((rd_Elem l0_7 x5_3).f2)).bind fun t188 => (if t188 = true then (lectionaryref4_Op.l0 k3 (wrap64 (x5_3 + 1)) a0_0 a0_1 a0_2 a0_3 a0_4 a0_5 a0_6 l0_7 a0_8 a0_9 a0_10) else (some false))) else (none)) else (none)) else (lectionaryref4_Op.l0 k3 (wrap64 (x5_3 + 1)) a0_0 a0_1 a0_2 a0_3 a0_4 a0_5 a0_6 l0_7 a0_8 a0_9 a0_10)) = some r := by rw [if_neg (show ¬ (false = true) by decide)] at H; exact H
           clear H
           have H := H1
           clear H1
           by_cases c117 : x5_3 > 0
           ·as_aux_lemma =>
            rw [if_pos c117] at H
            have c117b0 : decide (0 < x5_3) = true := decide_eq_true c117
            clear c117
            obtain ⟨ji118, hji118⟩ : ∃ j_ : Int, (wrap64 (x5_3 - 1)) = j_ := ⟨_, rfl⟩
            replace H : (if 0 ≤ (ji118) then (if (ji118) < (l0_7.length : Int) then ((lectionaryref4_Less.f ((rd_Elem l0_7 (ji118)).f0) ((rd_Elem l0_7 (ji118)).f1) ((rd_Elem l0_7 (ji118)).f2) ((rd_Elem l0_7 x5_3).f0) ((rd_Elem l0_7 x5_3).f1) ((rd_Elem l0_7 x5_3).f2)).bind fun t188 => (if t188 = true then (lectionaryref4_Op.l0 k3 (wrap64 (x5_3 + 1)) a0_0 a0_1 a0_2 a0_3 a0_4 a0_5 a0_6 l0_7 a0_8 a0_9 a0_10) else (some false))) else (none)) else (none)) = some r := by first | (rw [hji118] at H; exact H) | (simp only [hji118] at H ⊢; exact H)
            (try rw [hji118] at A103)
            (try rw [hji118] at A108)
            (try rw [hji118] at A110)
            have hji118w : (IntKind.i64.wrap (x5_3 - 1)) = ji118 := (i64_w _).trans hji118
            by_cases c119 : 0 ≤ (ji118)
            ·as_aux_lemma =>
             rw [if_pos c119] at H
             have c119b0 : decide (0 ≤ (ji118)) = true := decide_eq_true c119
             clear c119
             by_cases c120 : (ji118) < (l0_7.length : Int)
             ·as_aux_lemma =>
              rw [if_pos c120] at H
              have c120b0 : decide ((ji118) < (l0_7.length : Int)) = true := decide_eq_true c120
              clear c120
              replace H := Option.bind_eq_some_iff.mp H
              obtain ⟨t188, A1210, H⟩ := H
              replace H : (if t188 = true then (lectionaryref4_Op.l0 k3 (wrap64 (x5_3 + 1)) a0_0 a0_1 a0_2 a0_3 a0_4 a0_5 a0_6 l0_7 a0_8 a0_9 a0_10) else (some false)) = some r := H
              have A121 := Aside0.mk A1210
              clear A1210
              by_cases c122 : t188 = true
              ·as_aux_lemma =>
               subst c122
               have H1 : (lectionaryref4_Op.l0 k3 (wrap64 (x5_3 + 1)) a0_0 a0_1 a0_2 a0_3 a0_4 a0_5 a0_6 l0_7 a0_8 a0_9 a0_10) = some r := by rw [if_pos rfl] at H; exact H
               clear H
               have H := H1
               clear H1
               have H' := Aside0.mk H
               clear H
               obtain ⟨hcz123_0, hcz123_1, hcz123_2, hcz123_3, hcz123_4, hcz123_5, hcz123_6, hcz123_7, hcz123_8, hcz123_9, hcz123_10, hfz123_0, hfz123_1, hfz123_2, hfz123_3, hfz123_4, hfz123_5, hfz123_6, hfz123_7, hfz123_8, hfz123_9, hfz123_10⟩ := kc11 BK165
               try go_wp2
               have n0_ := Aside0.mk (blk_drew BK165.out)
               have n1_ := Aside0.mk (below_drew1 HB.out)
               clear BK165
               clear HB
               have BK165 := n0_
               have HB := n1_
               clear n0_ n1_
               have p180 : 0 ≤ (x5_3 : Int) := of_decide_eq_true (by first | (with_reducible assumption) | assumption)
               have q180 : x5_3 < (l0_7.length : Int) := of_decide_eq_true (by first | (with_reducible assumption) | assumption)
               obtain ⟨ad180, e180, hx180_0, hx180_1, hx180_2⟩ := at_Elem HR0_7.out x5_3 p180 q180
               have hw180_2 := hx180_2
               have hw180_1 := hx180_1
               have hw180_0 := hx180_0
               cases e180
               replace hx180_0 := cl HB hx180_0
               replace hx180_1 := cl HB hx180_1
               replace hx180_2 := cl HB hx180_2
               replace p180 := eq_true p180
               replace q180 := eq_true q180
               have p182 : 0 ≤ (x5_3 : Int) := of_decide_eq_true (by first | (with_reducible assumption) | assumption)
               have q182 : x5_3 < (l0_7.length : Int) := of_decide_eq_true (by first | (with_reducible assumption) | assumption)
               obtain ⟨ad182, e182, hx182_0, hx182_1, hx182_2⟩ := at_Elem HR0_7.out x5_3 p182 q182
               have hw182_2 := hx182_2
               have hw182_1 := hx182_1
               have hw182_0 := hx182_0
               obtain rfl : ad180 = ad182 := (by injection e182)
               replace hx182_0 := cl HB hx182_0
               replace hx182_1 := cl HB hx182_1
               replace hx182_2 := cl HB hx182_2
               replace p182 := eq_true p182
               replace q182 := eq_true q182
               have p184 : 0 ≤ (x5_3 : Int) := of_decide_eq_true (by first | (with_reducible assumption) | assumption)
               have q184 : x5_3 < (l0_7.length : Int) := of_decide_eq_true (by first | (with_reducible assumption) | assumption)
               obtain ⟨ad184, e184, hx184_0, hx184_1, hx184_2⟩ := at_Elem HR0_7.out x5_3 p184 q184
               have hw184_2 := hx184_2
               have hw184_1 := hx184_1
               have hw184_0 := hx184_0
               obtain rfl : ad180 = ad184 := (by injection e184)
               replace hx184_0 := cl HB hx184_0
               replace hx184_1 := cl HB hx184_1
               replace hx184_2 := cl HB hx184_2
               replace p184 := eq_true p184
               replace q184 := eq_true q184
               have p186 : 0 ≤ ((ji118) : Int) := of_decide_eq_true (by first | (with_reducible assumption) | assumption)
               have q186 : (ji118) < (l0_7.length : Int) := of_decide_eq_true (by first | (with_reducible assumption) | assumption)
               obtain ⟨ad186, e186, hx186_0, hx186_1, hx186_2⟩ := at_Elem HR0_7.out (ji118) p186 q186
               have hw186_2 := hx186_2
               have hw186_1 := hx186_1
               have hw186_0 := hx186_0
               obtain rfl : ad180 = ad186 := (by injection e186)
               replace hx186_0 := cl HB hx186_0
               replace hx186_1 := cl HB hx186_1
               replace hx186_2 := cl HB hx186_2
               replace p186 := eq_true p186
               replace q186 := eq_true q186
               have p187 : 0 ≤ (x5_3 : Int) := of_decide_eq_true (by first | (with_reducible assumption) | assumption)
               have q187 : x5_3 < (l0_7.length : Int) := of_decide_eq_true (by first | (with_reducible assumption) | assumption)
               obtain ⟨ad187, e187, hx187_0, hx187_1, hx187_2⟩ := at_Elem HR0_7.out x5_3 p187 q187
               have hw187_2 := hx187_2
               have hw187_1 := hx187_1
               have hw187_0 := hx187_0
               obtain rfl : ad180 = ad187 := (by injection e187)
               replace hx187_0 := cl HB hx187_0
               replace hx187_1 := cl HB hx187_1
               replace hx187_2 := cl HB hx187_2
               replace p187 := eq_true p187
               replace q187 := eq_true q187
               refine stP (fun w' => B11 w' gb165 (.int .i64 a0_0) (.int .i64 a0_1) (.int .i64 a0_2) (.int .i64 a0_3) (.int .i64 a0_4) (.int .i64 a0_5) (.string a0_6) (.slice (some ad180) l0_7.length c0_7) (.int .i64 a0_8) (.int .i64 a0_9) (.int .i64 a0_10) (w'.cell? (ad180.add ((x5_3).toNat * 3)) = some (.int .i64 ((rd_Elem l0_7 x5_3).f0)) ∧ w'.cell? ⟨(ad180.add ((x5_3).toNat * 3)).block, (ad180.add ((x5_3).toNat * 3)).off + 1, none⟩ = some (.int .i64 ((rd_Elem l0_7 x5_3).f1)) ∧ w'.cell? ⟨(ad180.add ((x5_3).toNat * 3)).block, (ad180.add ((x5_3).toNat * 3)).off + 2, none⟩ = some (.int .i64 ((rd_Elem l0_7 x5_3).f2)) ∧ w'.cell? (ad180.add ((x5_3).toNat * 3)) = some (.int .i64 ((rd_Elem l0_7 x5_3).f0)) ∧ w'.cell? ⟨(ad180.add ((x5_3).toNat * 3)).block, (ad180.add ((x5_3).toNat * 3)).off + 1, none⟩ = some (.int .i64 ((rd_Elem l0_7 x5_3).f1)) ∧ w'.cell? ⟨(ad180.add ((x5_3).toNat * 3)).block, (ad180.add ((x5_3).toNat * 3)).off + 2, none⟩ = some (.int .i64 ((rd_Elem l0_7 x5_3).f2)) ∧ w'.cell? (ad180.add ((x5_3).toNat * 3)) = some (.int .i64 ((rd_Elem l0_7 x5_3).f0)) ∧ w'.cell? ⟨(ad180.add ((x5_3).toNat * 3)).block, (ad180.add ((x5_3).toNat * 3)).off + 1, none⟩ = some (.int .i64 ((rd_Elem l0_7 x5_3).f1)) ∧ w'.cell? ⟨(ad180.add ((x5_3).toNat * 3)).block, (ad180.add ((x5_3).toNat * 3)).off + 2, none⟩ = some (.int .i64 ((rd_Elem l0_7 x5_3).f2)) ∧ w'.cell? (ad180.add (((ji118)).toNat * 3)) = some (.int .i64 ((rd_Elem l0_7 (ji118)).f0)) ∧ w'.cell? ⟨(ad180.add (((ji118)).toNat * 3)).block, (ad180.add (((ji118)).toNat * 3)).off + 1, none⟩ = some (.int .i64 ((rd_Elem l0_7 (ji118)).f1)) ∧ w'.cell? ⟨(ad180.add (((ji118)).toNat * 3)).block, (ad180.add (((ji118)).toNat * 3)).off + 2, none⟩ = some (.int .i64 ((rd_Elem l0_7 (ji118)).f2)) ∧ w'.cell? (ad180.add ((x5_3).toNat * 3)) = some (.int .i64 ((rd_Elem l0_7 x5_3).f0)) ∧ w'.cell? ⟨(ad180.add ((x5_3).toNat * 3)).block, (ad180.add ((x5_3).toNat * 3)).off + 1, none⟩ = some (.int .i64 ((rd_Elem l0_7 x5_3).f1)) ∧ w'.cell? ⟨(ad180.add ((x5_3).toNat * 3)).block, (ad180.add ((x5_3).toNat * 3)).off + 2, none⟩ = some (.int .i64 ((rd_Elem l0_7 x5_3).f2)))) 43 (b11 BK165 ⟨(cl HB hw180_0), (cl HB hw180_1), (cl HB hw180_2), (cl HB hw182_0), (cl HB hw182_1), (cl HB hw182_2), (cl HB hw184_0), (cl HB hw184_1), (cl HB hw184_2), (cl HB hw186_0), (cl HB hw186_1), (cl HB hw186_2), (cl HB hw187_0), (cl HB hw187_1), (cl HB hw187_2)⟩) (h := fun hHeld => ?_); refine with_tabW lectionaryref4_Op.tab13 lectionaryref4_Op.bits13 (fun HT_ HW_ => ?_)
               generalize wr.drew = w124 at BK165 HB hx180_0 hx180_1 hx180_2 hx182_0 hx182_1 hx182_2 hx184_0 hx184_1 hx184_2 hx186_0 hx186_1 hx186_2 hx187_0 hx187_1 hx187_2 hHeld ⊢
               refine pu HT_ 0 133 1 (h := ?_)
               refine pu HT_ 2 135 5 (h := ?_)
               refine tk HT_ HW_ hHeld 1 134 7 (h := ?_)
               refine pu HT_ 3 136 15 (h := ?_)
               refine tk HT_ HW_ hHeld 4 137 31 (h := ?_)
               refine on HT_ 5 (some 138) 63 (h := fun K hK => ?_)
               refine gS Tryd.func77 #[.agg #[.int .i64 ((rd_Elem l0_7 x5_3).f0), .int .i64 ((rd_Elem l0_7 x5_3).f1), .int .i64 ((rd_Elem l0_7 x5_3).f2)]] (h := ?_)
               with_reducible refine (lectionaryref4_Begin.calls ((rd_Elem l0_7 x5_3).f0) ((rd_Elem l0_7 x5_3).f1) ((rd_Elem l0_7 x5_3).f2) false _ A103.out).mono ?_
               rintro e w125 ⟨rfl, hb⟩
               refine ⟨_, rfl, ?_⟩
               have n0_ := bl BK165 hb
               have n1_ := bs HB hb
               clear BK165
               clear HB
               have BK165 := n0_
               have HB := n1_
               clear n0_ n1_
               (try clear hb)
               (try clear hb2)
               (try clear hk)
               (try clear hi)
               refine hK.out _ _ (b11 BK165 ⟨(cl HB hw180_0), (cl HB hw180_1), (cl HB hw180_2), (cl HB hw182_0), (cl HB hw182_1), (cl HB hw182_2), (cl HB hw184_0), (cl HB hw184_1), (cl HB hw184_2), (cl HB hw186_0), (cl HB hw186_1), (cl HB hw186_2), (cl HB hw187_0), (cl HB hw187_1), (cl HB hw187_2)⟩) (fun hHeld => ?_)
               clear hK K
               refine nm (h := ?_)
               refine pu HT_ 6 139 127 (h := ?_)
               refine pu HT_ 7 140 255 (h := ?_)
               refine pu HT_ 9 142 767 (h := ?_)
               refine tk HT_ HW_ hHeld 8 141 1023 (h := ?_)
               refine pu HT_ 10 143 2047 (h := ?_)
               refine tk HT_ HW_ hHeld 11 144 4095 (h := ?_)
               refine on HT_ 12 (some 145) 8191 (h := fun K hK => ?_)
               refine gS Tryd.func68 #[.agg #[.int .i64 ((rd_Elem l0_7 x5_3).f0), .int .i64 ((rd_Elem l0_7 x5_3).f1), .int .i64 ((rd_Elem l0_7 x5_3).f2)]] (h := ?_)
               with_reducible refine (lectionaryref4_Elem.calls ((rd_Elem l0_7 x5_3).f0) ((rd_Elem l0_7 x5_3).f1) ((rd_Elem l0_7 x5_3).f2) true _ A108.out).mono ?_
               rintro e w126 ⟨rfl, hb⟩
               refine ⟨_, rfl, ?_⟩
               have n0_ := bl BK165 hb
               have n1_ := bs HB hb
               clear BK165
               clear HB
               have BK165 := n0_
               have HB := n1_
               clear n0_ n1_
               (try clear hb)
               (try clear hb2)
               (try clear hk)
               (try clear hi)
               refine hK.out _ _ (b11 BK165 ⟨(cl HB hw180_0), (cl HB hw180_1), (cl HB hw180_2), (cl HB hw182_0), (cl HB hw182_1), (cl HB hw182_2), (cl HB hw184_0), (cl HB hw184_1), (cl HB hw184_2), (cl HB hw186_0), (cl HB hw186_1), (cl HB hw186_2), (cl HB hw187_0), (cl HB hw187_1), (cl HB hw187_2)⟩) (fun hHeld => ?_)
               clear hK K
               refine nm (h := ?_)
               refine pu HT_ 13 146 16383 (h := ?_)
               refine pu HT_ 14 147 32767 (h := ?_)
               refine pu HT_ 15 148 65535 (h := ?_)
               refine pu HT_ 17 150 196607 (h := ?_)
               refine pu HT_ 19 152 720895 (h := ?_)
               refine tk HT_ HW_ hHeld 16 149 786431 (h := ?_)
               refine tk HT_ HW_ hHeld 18 151 1048575 (h := ?_)
               refine pu HT_ 20 153 2097151 (h := ?_)
               refine tk HT_ HW_ hHeld 21 154 4194303 (h := ?_)
               refine on HT_ 22 (some 155) 8388607 (h := fun K hK => ?_)
               refine gS Tryd.func114 #[.agg #[.int .i64 a0_0, .int .i64 a0_1, .int .i64 a0_2, .int .i64 a0_3, .int .i64 a0_4, .int .i64 a0_5, .string a0_6, .slice (some ad180) l0_7.length c0_7, .int .i64 a0_8, .int .i64 a0_9, .int .i64 a0_10], .agg #[.int .i64 ((rd_Elem l0_7 x5_3).f0), .int .i64 ((rd_Elem l0_7 x5_3).f1), .int .i64 ((rd_Elem l0_7 x5_3).f2)]] (h := ?_)
               with_reducible refine (lectionaryref4_own.calls a0_0 a0_1 a0_2 a0_3 a0_4 a0_5 a0_6 _ _ l0_7 a0_8 a0_9 a0_10 ((rd_Elem l0_7 x5_3).f0) ((rd_Elem l0_7 x5_3).f1) ((rd_Elem l0_7 x5_3).f2) false _ ?side1 ?side2 A110.out).mono ?_
               (case side1 => repeat (first | exact (Kd.C_below HR0_7.out HB.out) | (with_reducible refine Kd.C_alloc ?_ _) | (with_reducible refine Kd.C_drewN ?_ _) | (with_reducible refine Kd.C_drew ?_)))
               (case side2 => exact HC0_7.out)
               rintro e w127 ⟨rfl, hb⟩
               refine ⟨_, rfl, ?_⟩
               have n0_ := bl BK165 hb
               have n1_ := bs HB hb
               clear BK165
               clear HB
               have BK165 := n0_
               have HB := n1_
               clear n0_ n1_
               (try clear hb)
               (try clear hb2)
               (try clear hk)
               (try clear hi)
               refine hK.out _ _ (b11 BK165 ⟨(cl HB hw180_0), (cl HB hw180_1), (cl HB hw180_2), (cl HB hw182_0), (cl HB hw182_1), (cl HB hw182_2), (cl HB hw184_0), (cl HB hw184_1), (cl HB hw184_2), (cl HB hw186_0), (cl HB hw186_1), (cl HB hw186_2), (cl HB hw187_0), (cl HB hw187_1), (cl HB hw187_2)⟩) (fun hHeld => ?_)
               clear hK K
               refine nm (h := ?_)
               refine pu HT_ 23 156 16777215 (h := ?_)
               refine pu HT_ 24 157 33554431 (h := ?_)
               refine pu HT_ 25 158 67108863 (h := ?_)
               refine pu HT_ 26 159 134217727 (h := ?_)
               refine pu HT_ 27 160 268435455 (h := ?_)
               refine pu HT_ 28 161 536870911 (h := ?_)
               refine pu HT_ 30 163 1610612735 (h := ?_)
               refine pu HT_ 31 164 3758096383 (h := ?_)
               refine pu HT_ 34 167 20937965567 (h := ?_)
               refine pu HT_ 36 169 89657442303 (h := ?_)
               refine tk HT_ HW_ hHeld 29 162 90194313215 (h := ?_)
               refine pu HT_ 32 165 94489280511 (h := ?_)
               refine tk HT_ HW_ hHeld 33 166 103079215103 (h := ?_)
               refine tk HT_ HW_ hHeld 35 168 137438953471 (h := ?_)
               refine pu HT_ 37 170 274877906943 (h := ?_)
               refine tk HT_ HW_ hHeld 38 171 549755813887 (h := ?_)
               refine on HT_ 39 (some 172) 1099511627775 (h := fun K hK => ?_)
               refine goes_ Tryd.func70 (by kernel_rfl) rfl #[.agg #[.int .i64 ((rd_Elem l0_7 (ji118)).f0), .int .i64 ((rd_Elem l0_7 (ji118)).f1), .int .i64 ((rd_Elem l0_7 (ji118)).f2)], .agg #[.int .i64 ((rd_Elem l0_7 x5_3).f0), .int .i64 ((rd_Elem l0_7 x5_3).f1), .int .i64 ((rd_Elem l0_7 x5_3).f2)]] (by rfl) rfl rfl (by (try simp only [List.map_toArray, List.map_cons, List.map_nil]); first | done | (simp only [hji118]; rfl) | rfl | (simp only [List.length_drop, List.length_take]; rfl)) ?_
               with_reducible refine (lectionaryref4_Less.calls ((rd_Elem l0_7 (ji118)).f0) ((rd_Elem l0_7 (ji118)).f1) ((rd_Elem l0_7 (ji118)).f2) ((rd_Elem l0_7 x5_3).f0) ((rd_Elem l0_7 x5_3).f1) ((rd_Elem l0_7 x5_3).f2) true _ A121.out).mono ?_
               rintro e w128 ⟨rfl, hb⟩
               refine ⟨_, rfl, ?_⟩
               have n0_ := bl BK165 hb
               have n1_ := bs HB hb
               clear BK165
               clear HB
               have BK165 := n0_
               have HB := n1_
               clear n0_ n1_
               (try clear hb)
               (try clear hb2)
               (try clear hk)
               (try clear hi)
               refine hK.out _ _ (b11 BK165 ⟨(cl HB hw180_0), (cl HB hw180_1), (cl HB hw180_2), (cl HB hw182_0), (cl HB hw182_1), (cl HB hw182_2), (cl HB hw184_0), (cl HB hw184_1), (cl HB hw184_2), (cl HB hw186_0), (cl HB hw186_1), (cl HB hw186_2), (cl HB hw187_0), (cl HB hw187_1), (cl HB hw187_2)⟩) (fun hHeld => ?_)
               clear hK K
               refine nm (h := ?_)
               refine pu HT_ 40 173 2199023255551 (h := ?_)
               refine pu HT_ 41 174 4398046511103 (h := ?_)
               refine pu HT_ 42 175 8796093022207 (h := ?_)
               refine dn HT_ (h := ?_)
               try go_wp2
               go_roundg k3
               case measure => have := HJ48.out; have := HJ66.out; have := HK3.out; omega
               case rel => exact ⟨(wrap64 (x5_3 + 1)), rf, H', ⟨by have := HJ48.out; have := HJ66.out; have := HK3.out; omega⟩, ⟨kk BK165⟩, ⟨bw HB⟩⟩
              replace c122 := Bool.eq_false_iff.mpr c122
              subst c122
              have H1 : (some false) = some r := by rw [if_neg (show ¬ (false = true) by decide)] at H; exact H
              clear H
              have H := H1
              clear H1
              obtain rfl := Option.some.inj H
              obtain ⟨hcz129_0, hcz129_1, hcz129_2, hcz129_3, hcz129_4, hcz129_5, hcz129_6, hcz129_7, hcz129_8, hcz129_9, hcz129_10, hfz129_0, hfz129_1, hfz129_2, hfz129_3, hfz129_4, hfz129_5, hfz129_6, hfz129_7, hfz129_8, hfz129_9, hfz129_10⟩ := kc11 BK165
              try go_wp2
              have n0_ := Aside0.mk (blk_drew BK165.out)
              have n1_ := Aside0.mk (below_drew1 HB.out)
              clear BK165
              clear HB
              have BK165 := n0_
              have HB := n1_
              clear n0_ n1_
              have p180 : 0 ≤ (x5_3 : Int) := of_decide_eq_true (by first | (with_reducible assumption) | assumption)
              have q180 : x5_3 < (l0_7.length : Int) := of_decide_eq_true (by first | (with_reducible assumption) | assumption)
              obtain ⟨ad180, e180, hx180_0, hx180_1, hx180_2⟩ := at_Elem HR0_7.out x5_3 p180 q180
              have hw180_2 := hx180_2
              have hw180_1 := hx180_1
              have hw180_0 := hx180_0
              cases e180
              replace hx180_0 := cl HB hx180_0
              replace hx180_1 := cl HB hx180_1
              replace hx180_2 := cl HB hx180_2
              replace p180 := eq_true p180
              replace q180 := eq_true q180
              have p182 : 0 ≤ (x5_3 : Int) := of_decide_eq_true (by first | (with_reducible assumption) | assumption)
              have q182 : x5_3 < (l0_7.length : Int) := of_decide_eq_true (by first | (with_reducible assumption) | assumption)
              obtain ⟨ad182, e182, hx182_0, hx182_1, hx182_2⟩ := at_Elem HR0_7.out x5_3 p182 q182
              have hw182_2 := hx182_2
              have hw182_1 := hx182_1
              have hw182_0 := hx182_0
              obtain rfl : ad180 = ad182 := (by injection e182)
              replace hx182_0 := cl HB hx182_0
              replace hx182_1 := cl HB hx182_1
              replace hx182_2 := cl HB hx182_2
              replace p182 := eq_true p182
              replace q182 := eq_true q182
              have p184 : 0 ≤ (x5_3 : Int) := of_decide_eq_true (by first | (with_reducible assumption) | assumption)
              have q184 : x5_3 < (l0_7.length : Int) := of_decide_eq_true (by first | (with_reducible assumption) | assumption)
              obtain ⟨ad184, e184, hx184_0, hx184_1, hx184_2⟩ := at_Elem HR0_7.out x5_3 p184 q184
              have hw184_2 := hx184_2
              have hw184_1 := hx184_1
              have hw184_0 := hx184_0
              obtain rfl : ad180 = ad184 := (by injection e184)
              replace hx184_0 := cl HB hx184_0
              replace hx184_1 := cl HB hx184_1
              replace hx184_2 := cl HB hx184_2
              replace p184 := eq_true p184
              replace q184 := eq_true q184
              have p186 : 0 ≤ ((ji118) : Int) := of_decide_eq_true (by first | (with_reducible assumption) | assumption)
              have q186 : (ji118) < (l0_7.length : Int) := of_decide_eq_true (by first | (with_reducible assumption) | assumption)
              obtain ⟨ad186, e186, hx186_0, hx186_1, hx186_2⟩ := at_Elem HR0_7.out (ji118) p186 q186
              have hw186_2 := hx186_2
              have hw186_1 := hx186_1
              have hw186_0 := hx186_0
              obtain rfl : ad180 = ad186 := (by injection e186)
              replace hx186_0 := cl HB hx186_0
              replace hx186_1 := cl HB hx186_1
              replace hx186_2 := cl HB hx186_2
              replace p186 := eq_true p186
              replace q186 := eq_true q186
              have p187 : 0 ≤ (x5_3 : Int) := of_decide_eq_true (by first | (with_reducible assumption) | assumption)
              have q187 : x5_3 < (l0_7.length : Int) := of_decide_eq_true (by first | (with_reducible assumption) | assumption)
              obtain ⟨ad187, e187, hx187_0, hx187_1, hx187_2⟩ := at_Elem HR0_7.out x5_3 p187 q187
              have hw187_2 := hx187_2
              have hw187_1 := hx187_1
              have hw187_0 := hx187_0
              obtain rfl : ad180 = ad187 := (by injection e187)
              replace hx187_0 := cl HB hx187_0
              replace hx187_1 := cl HB hx187_1
              replace hx187_2 := cl HB hx187_2
              replace p187 := eq_true p187
              replace q187 := eq_true q187
              refine stP (fun w' => B11 w' gb165 (.int .i64 a0_0) (.int .i64 a0_1) (.int .i64 a0_2) (.int .i64 a0_3) (.int .i64 a0_4) (.int .i64 a0_5) (.string a0_6) (.slice (some ad180) l0_7.length c0_7) (.int .i64 a0_8) (.int .i64 a0_9) (.int .i64 a0_10) (w'.cell? (ad180.add ((x5_3).toNat * 3)) = some (.int .i64 ((rd_Elem l0_7 x5_3).f0)) ∧ w'.cell? ⟨(ad180.add ((x5_3).toNat * 3)).block, (ad180.add ((x5_3).toNat * 3)).off + 1, none⟩ = some (.int .i64 ((rd_Elem l0_7 x5_3).f1)) ∧ w'.cell? ⟨(ad180.add ((x5_3).toNat * 3)).block, (ad180.add ((x5_3).toNat * 3)).off + 2, none⟩ = some (.int .i64 ((rd_Elem l0_7 x5_3).f2)) ∧ w'.cell? (ad180.add ((x5_3).toNat * 3)) = some (.int .i64 ((rd_Elem l0_7 x5_3).f0)) ∧ w'.cell? ⟨(ad180.add ((x5_3).toNat * 3)).block, (ad180.add ((x5_3).toNat * 3)).off + 1, none⟩ = some (.int .i64 ((rd_Elem l0_7 x5_3).f1)) ∧ w'.cell? ⟨(ad180.add ((x5_3).toNat * 3)).block, (ad180.add ((x5_3).toNat * 3)).off + 2, none⟩ = some (.int .i64 ((rd_Elem l0_7 x5_3).f2)) ∧ w'.cell? (ad180.add ((x5_3).toNat * 3)) = some (.int .i64 ((rd_Elem l0_7 x5_3).f0)) ∧ w'.cell? ⟨(ad180.add ((x5_3).toNat * 3)).block, (ad180.add ((x5_3).toNat * 3)).off + 1, none⟩ = some (.int .i64 ((rd_Elem l0_7 x5_3).f1)) ∧ w'.cell? ⟨(ad180.add ((x5_3).toNat * 3)).block, (ad180.add ((x5_3).toNat * 3)).off + 2, none⟩ = some (.int .i64 ((rd_Elem l0_7 x5_3).f2)) ∧ w'.cell? (ad180.add (((ji118)).toNat * 3)) = some (.int .i64 ((rd_Elem l0_7 (ji118)).f0)) ∧ w'.cell? ⟨(ad180.add (((ji118)).toNat * 3)).block, (ad180.add (((ji118)).toNat * 3)).off + 1, none⟩ = some (.int .i64 ((rd_Elem l0_7 (ji118)).f1)) ∧ w'.cell? ⟨(ad180.add (((ji118)).toNat * 3)).block, (ad180.add (((ji118)).toNat * 3)).off + 2, none⟩ = some (.int .i64 ((rd_Elem l0_7 (ji118)).f2)) ∧ w'.cell? (ad180.add ((x5_3).toNat * 3)) = some (.int .i64 ((rd_Elem l0_7 x5_3).f0)) ∧ w'.cell? ⟨(ad180.add ((x5_3).toNat * 3)).block, (ad180.add ((x5_3).toNat * 3)).off + 1, none⟩ = some (.int .i64 ((rd_Elem l0_7 x5_3).f1)) ∧ w'.cell? ⟨(ad180.add ((x5_3).toNat * 3)).block, (ad180.add ((x5_3).toNat * 3)).off + 2, none⟩ = some (.int .i64 ((rd_Elem l0_7 x5_3).f2)))) 43 (b11 BK165 ⟨(cl HB hw180_0), (cl HB hw180_1), (cl HB hw180_2), (cl HB hw182_0), (cl HB hw182_1), (cl HB hw182_2), (cl HB hw184_0), (cl HB hw184_1), (cl HB hw184_2), (cl HB hw186_0), (cl HB hw186_1), (cl HB hw186_2), (cl HB hw187_0), (cl HB hw187_1), (cl HB hw187_2)⟩) (h := fun hHeld => ?_); refine with_tabW lectionaryref4_Op.tab13 lectionaryref4_Op.bits13 (fun HT_ HW_ => ?_)
              generalize wr.drew = w130 at BK165 HB hx180_0 hx180_1 hx180_2 hx182_0 hx182_1 hx182_2 hx184_0 hx184_1 hx184_2 hx186_0 hx186_1 hx186_2 hx187_0 hx187_1 hx187_2 hHeld ⊢
              refine pu HT_ 0 133 1 (h := ?_)
              refine pu HT_ 2 135 5 (h := ?_)
              refine tk HT_ HW_ hHeld 1 134 7 (h := ?_)
              refine pu HT_ 3 136 15 (h := ?_)
              refine tk HT_ HW_ hHeld 4 137 31 (h := ?_)
              refine on HT_ 5 (some 138) 63 (h := fun K hK => ?_)
              refine gS Tryd.func77 #[.agg #[.int .i64 ((rd_Elem l0_7 x5_3).f0), .int .i64 ((rd_Elem l0_7 x5_3).f1), .int .i64 ((rd_Elem l0_7 x5_3).f2)]] (h := ?_)
              with_reducible refine (lectionaryref4_Begin.calls ((rd_Elem l0_7 x5_3).f0) ((rd_Elem l0_7 x5_3).f1) ((rd_Elem l0_7 x5_3).f2) false _ A103.out).mono ?_
              rintro e w131 ⟨rfl, hb⟩
              refine ⟨_, rfl, ?_⟩
              have n0_ := bl BK165 hb
              have n1_ := bs HB hb
              clear BK165
              clear HB
              have BK165 := n0_
              have HB := n1_
              clear n0_ n1_
              (try clear hb)
              (try clear hb2)
              (try clear hk)
              (try clear hi)
              refine hK.out _ _ (b11 BK165 ⟨(cl HB hw180_0), (cl HB hw180_1), (cl HB hw180_2), (cl HB hw182_0), (cl HB hw182_1), (cl HB hw182_2), (cl HB hw184_0), (cl HB hw184_1), (cl HB hw184_2), (cl HB hw186_0), (cl HB hw186_1), (cl HB hw186_2), (cl HB hw187_0), (cl HB hw187_1), (cl HB hw187_2)⟩) (fun hHeld => ?_)
              clear hK K
              refine nm (h := ?_)
              refine pu HT_ 6 139 127 (h := ?_)
              refine pu HT_ 7 140 255 (h := ?_)
              refine pu HT_ 9 142 767 (h := ?_)
              refine tk HT_ HW_ hHeld 8 141 1023 (h := ?_)
              refine pu HT_ 10 143 2047 (h := ?_)
              refine tk HT_ HW_ hHeld 11 144 4095 (h := ?_)
              refine on HT_ 12 (some 145) 8191 (h := fun K hK => ?_)
              refine gS Tryd.func68 #[.agg #[.int .i64 ((rd_Elem l0_7 x5_3).f0), .int .i64 ((rd_Elem l0_7 x5_3).f1), .int .i64 ((rd_Elem l0_7 x5_3).f2)]] (h := ?_)
              with_reducible refine (lectionaryref4_Elem.calls ((rd_Elem l0_7 x5_3).f0) ((rd_Elem l0_7 x5_3).f1) ((rd_Elem l0_7 x5_3).f2) true _ A108.out).mono ?_
              rintro e w132 ⟨rfl, hb⟩
              refine ⟨_, rfl, ?_⟩
              have n0_ := bl BK165 hb
              have n1_ := bs HB hb
              clear BK165
              clear HB
              have BK165 := n0_
              have HB := n1_
              clear n0_ n1_
              (try clear hb)
              (try clear hb2)
              (try clear hk)
              (try clear hi)
              refine hK.out _ _ (b11 BK165 ⟨(cl HB hw180_0), (cl HB hw180_1), (cl HB hw180_2), (cl HB hw182_0), (cl HB hw182_1), (cl HB hw182_2), (cl HB hw184_0), (cl HB hw184_1), (cl HB hw184_2), (cl HB hw186_0), (cl HB hw186_1), (cl HB hw186_2), (cl HB hw187_0), (cl HB hw187_1), (cl HB hw187_2)⟩) (fun hHeld => ?_)
              clear hK K
              refine nm (h := ?_)
              refine pu HT_ 13 146 16383 (h := ?_)
              refine pu HT_ 14 147 32767 (h := ?_)
              refine pu HT_ 15 148 65535 (h := ?_)
              refine pu HT_ 17 150 196607 (h := ?_)
              refine pu HT_ 19 152 720895 (h := ?_)
              refine tk HT_ HW_ hHeld 16 149 786431 (h := ?_)
              refine tk HT_ HW_ hHeld 18 151 1048575 (h := ?_)
              refine pu HT_ 20 153 2097151 (h := ?_)
              refine tk HT_ HW_ hHeld 21 154 4194303 (h := ?_)
              refine on HT_ 22 (some 155) 8388607 (h := fun K hK => ?_)
              refine gS Tryd.func114 #[.agg #[.int .i64 a0_0, .int .i64 a0_1, .int .i64 a0_2, .int .i64 a0_3, .int .i64 a0_4, .int .i64 a0_5, .string a0_6, .slice (some ad180) l0_7.length c0_7, .int .i64 a0_8, .int .i64 a0_9, .int .i64 a0_10], .agg #[.int .i64 ((rd_Elem l0_7 x5_3).f0), .int .i64 ((rd_Elem l0_7 x5_3).f1), .int .i64 ((rd_Elem l0_7 x5_3).f2)]] (h := ?_)
              with_reducible refine (lectionaryref4_own.calls a0_0 a0_1 a0_2 a0_3 a0_4 a0_5 a0_6 _ _ l0_7 a0_8 a0_9 a0_10 ((rd_Elem l0_7 x5_3).f0) ((rd_Elem l0_7 x5_3).f1) ((rd_Elem l0_7 x5_3).f2) false _ ?side1 ?side2 A110.out).mono ?_
              (case side1 => repeat (first | exact (Kd.C_below HR0_7.out HB.out) | (with_reducible refine Kd.C_alloc ?_ _) | (with_reducible refine Kd.C_drewN ?_ _) | (with_reducible refine Kd.C_drew ?_)))
              (case side2 => exact HC0_7.out)
              rintro e w133 ⟨rfl, hb⟩
              refine ⟨_, rfl, ?_⟩
              have n0_ := bl BK165 hb
              have n1_ := bs HB hb
              clear BK165
              clear HB
              have BK165 := n0_
              have HB := n1_
              clear n0_ n1_
              (try clear hb)
              (try clear hb2)
              (try clear hk)
              (try clear hi)
              refine hK.out _ _ (b11 BK165 ⟨(cl HB hw180_0), (cl HB hw180_1), (cl HB hw180_2), (cl HB hw182_0), (cl HB hw182_1), (cl HB hw182_2), (cl HB hw184_0), (cl HB hw184_1), (cl HB hw184_2), (cl HB hw186_0), (cl HB hw186_1), (cl HB hw186_2), (cl HB hw187_0), (cl HB hw187_1), (cl HB hw187_2)⟩) (fun hHeld => ?_)
              clear hK K
              refine nm (h := ?_)
              refine pu HT_ 23 156 16777215 (h := ?_)
              refine pu HT_ 24 157 33554431 (h := ?_)
              refine pu HT_ 25 158 67108863 (h := ?_)
              refine pu HT_ 26 159 134217727 (h := ?_)
              refine pu HT_ 27 160 268435455 (h := ?_)
              refine pu HT_ 28 161 536870911 (h := ?_)
              refine pu HT_ 30 163 1610612735 (h := ?_)
              refine pu HT_ 31 164 3758096383 (h := ?_)
              refine pu HT_ 34 167 20937965567 (h := ?_)
              refine pu HT_ 36 169 89657442303 (h := ?_)
              refine tk HT_ HW_ hHeld 29 162 90194313215 (h := ?_)
              refine pu HT_ 32 165 94489280511 (h := ?_)
              refine tk HT_ HW_ hHeld 33 166 103079215103 (h := ?_)
              refine tk HT_ HW_ hHeld 35 168 137438953471 (h := ?_)
              refine pu HT_ 37 170 274877906943 (h := ?_)
              refine tk HT_ HW_ hHeld 38 171 549755813887 (h := ?_)
              refine on HT_ 39 (some 172) 1099511627775 (h := fun K hK => ?_)
              refine goes_ Tryd.func70 (by kernel_rfl) rfl #[.agg #[.int .i64 ((rd_Elem l0_7 (ji118)).f0), .int .i64 ((rd_Elem l0_7 (ji118)).f1), .int .i64 ((rd_Elem l0_7 (ji118)).f2)], .agg #[.int .i64 ((rd_Elem l0_7 x5_3).f0), .int .i64 ((rd_Elem l0_7 x5_3).f1), .int .i64 ((rd_Elem l0_7 x5_3).f2)]] (by rfl) rfl rfl (by (try simp only [List.map_toArray, List.map_cons, List.map_nil]); first | done | (simp only [hji118]; rfl) | rfl | (simp only [List.length_drop, List.length_take]; rfl)) ?_
              with_reducible refine (lectionaryref4_Less.calls ((rd_Elem l0_7 (ji118)).f0) ((rd_Elem l0_7 (ji118)).f1) ((rd_Elem l0_7 (ji118)).f2) ((rd_Elem l0_7 x5_3).f0) ((rd_Elem l0_7 x5_3).f1) ((rd_Elem l0_7 x5_3).f2) false _ A121.out).mono ?_
              rintro e w134 ⟨rfl, hb⟩
              refine ⟨_, rfl, ?_⟩
              have n0_ := bl BK165 hb
              have n1_ := bs HB hb
              clear BK165
              clear HB
              have BK165 := n0_
              have HB := n1_
              clear n0_ n1_
              (try clear hb)
              (try clear hb2)
              (try clear hk)
              (try clear hi)
              refine hK.out _ _ (b11 BK165 ⟨(cl HB hw180_0), (cl HB hw180_1), (cl HB hw180_2), (cl HB hw182_0), (cl HB hw182_1), (cl HB hw182_2), (cl HB hw184_0), (cl HB hw184_1), (cl HB hw184_2), (cl HB hw186_0), (cl HB hw186_1), (cl HB hw186_2), (cl HB hw187_0), (cl HB hw187_1), (cl HB hw187_2)⟩) (fun hHeld => ?_)
              clear hK K
              refine nm (h := ?_)
              refine pu HT_ 40 173 2199023255551 (h := ?_)
              refine pu HT_ 41 174 4398046511103 (h := ?_)
              refine pu HT_ 42 175 8796093022207 (h := ?_)
              refine dn HT_ (h := ?_)
              try go_wp2
              go_ret
              exact ⟨by first | rfl | (simp [errW_none, errW_some] <;> rfl) | (simp only [← hji118]; first | rfl | (simp [errW_none, errW_some] <;> rfl)) | (simp [*, errW_none, errW_some] <;> rfl), bw HB⟩
             rw [if_neg c120] at H
             exact absurd H (by simp)
            rw [if_neg c119] at H
            exact absurd H (by simp)
           rw [if_neg c117] at H
           have c117b0 : decide (0 < x5_3) = false := decide_eq_false c117
           clear c117
           have H' := Aside0.mk H
           clear H
           obtain ⟨hcz135_0, hcz135_1, hcz135_2, hcz135_3, hcz135_4, hcz135_5, hcz135_6, hcz135_7, hcz135_8, hcz135_9, hcz135_10, hfz135_0, hfz135_1, hfz135_2, hfz135_3, hfz135_4, hfz135_5, hfz135_6, hfz135_7, hfz135_8, hfz135_9, hfz135_10⟩ := kc11 BK165
           try go_wp2
           have n0_ := Aside0.mk (blk_drew BK165.out)
           have n1_ := Aside0.mk (below_drew1 HB.out)
           clear BK165
           clear HB
           have BK165 := n0_
           have HB := n1_
           clear n0_ n1_
           have p180 : 0 ≤ (x5_3 : Int) := of_decide_eq_true (by first | (with_reducible assumption) | assumption)
           have q180 : x5_3 < (l0_7.length : Int) := of_decide_eq_true (by first | (with_reducible assumption) | assumption)
           obtain ⟨ad180, e180, hx180_0, hx180_1, hx180_2⟩ := at_Elem HR0_7.out x5_3 p180 q180
           have hw180_2 := hx180_2
           have hw180_1 := hx180_1
           have hw180_0 := hx180_0
           cases e180
           replace hx180_0 := cl HB hx180_0
           replace hx180_1 := cl HB hx180_1
           replace hx180_2 := cl HB hx180_2
           replace p180 := eq_true p180
           replace q180 := eq_true q180
           have p182 : 0 ≤ (x5_3 : Int) := of_decide_eq_true (by first | (with_reducible assumption) | assumption)
           have q182 : x5_3 < (l0_7.length : Int) := of_decide_eq_true (by first | (with_reducible assumption) | assumption)
           obtain ⟨ad182, e182, hx182_0, hx182_1, hx182_2⟩ := at_Elem HR0_7.out x5_3 p182 q182
           have hw182_2 := hx182_2
           have hw182_1 := hx182_1
           have hw182_0 := hx182_0
           obtain rfl : ad180 = ad182 := (by injection e182)
           replace hx182_0 := cl HB hx182_0
           replace hx182_1 := cl HB hx182_1
           replace hx182_2 := cl HB hx182_2
           replace p182 := eq_true p182
           replace q182 := eq_true q182
           have p184 : 0 ≤ (x5_3 : Int) := of_decide_eq_true (by first | (with_reducible assumption) | assumption)
           have q184 : x5_3 < (l0_7.length : Int) := of_decide_eq_true (by first | (with_reducible assumption) | assumption)
           obtain ⟨ad184, e184, hx184_0, hx184_1, hx184_2⟩ := at_Elem HR0_7.out x5_3 p184 q184
           have hw184_2 := hx184_2
           have hw184_1 := hx184_1
           have hw184_0 := hx184_0
           obtain rfl : ad180 = ad184 := (by injection e184)
           replace hx184_0 := cl HB hx184_0
           replace hx184_1 := cl HB hx184_1
           replace hx184_2 := cl HB hx184_2
           replace p184 := eq_true p184
           replace q184 := eq_true q184
           refine stP (fun w' => B11 w' gb165 (.int .i64 a0_0) (.int .i64 a0_1) (.int .i64 a0_2) (.int .i64 a0_3) (.int .i64 a0_4) (.int .i64 a0_5) (.string a0_6) (.slice (some ad180) l0_7.length c0_7) (.int .i64 a0_8) (.int .i64 a0_9) (.int .i64 a0_10) (w'.cell? (ad180.add ((x5_3).toNat * 3)) = some (.int .i64 ((rd_Elem l0_7 x5_3).f0)) ∧ w'.cell? ⟨(ad180.add ((x5_3).toNat * 3)).block, (ad180.add ((x5_3).toNat * 3)).off + 1, none⟩ = some (.int .i64 ((rd_Elem l0_7 x5_3).f1)) ∧ w'.cell? ⟨(ad180.add ((x5_3).toNat * 3)).block, (ad180.add ((x5_3).toNat * 3)).off + 2, none⟩ = some (.int .i64 ((rd_Elem l0_7 x5_3).f2)) ∧ w'.cell? (ad180.add ((x5_3).toNat * 3)) = some (.int .i64 ((rd_Elem l0_7 x5_3).f0)) ∧ w'.cell? ⟨(ad180.add ((x5_3).toNat * 3)).block, (ad180.add ((x5_3).toNat * 3)).off + 1, none⟩ = some (.int .i64 ((rd_Elem l0_7 x5_3).f1)) ∧ w'.cell? ⟨(ad180.add ((x5_3).toNat * 3)).block, (ad180.add ((x5_3).toNat * 3)).off + 2, none⟩ = some (.int .i64 ((rd_Elem l0_7 x5_3).f2)) ∧ w'.cell? (ad180.add ((x5_3).toNat * 3)) = some (.int .i64 ((rd_Elem l0_7 x5_3).f0)) ∧ w'.cell? ⟨(ad180.add ((x5_3).toNat * 3)).block, (ad180.add ((x5_3).toNat * 3)).off + 1, none⟩ = some (.int .i64 ((rd_Elem l0_7 x5_3).f1)) ∧ w'.cell? ⟨(ad180.add ((x5_3).toNat * 3)).block, (ad180.add ((x5_3).toNat * 3)).off + 2, none⟩ = some (.int .i64 ((rd_Elem l0_7 x5_3).f2)))) 43 (b11 BK165 ⟨(cl HB hw180_0), (cl HB hw180_1), (cl HB hw180_2), (cl HB hw182_0), (cl HB hw182_1), (cl HB hw182_2), (cl HB hw184_0), (cl HB hw184_1), (cl HB hw184_2)⟩) (h := fun hHeld => ?_); refine with_tabW lectionaryref4_Op.tab13 lectionaryref4_Op.bits13 (fun HT_ HW_ => ?_)
           generalize wr.drew = w136 at BK165 HB hx180_0 hx180_1 hx180_2 hx182_0 hx182_1 hx182_2 hx184_0 hx184_1 hx184_2 hHeld ⊢
           refine pu HT_ 0 133 1 (h := ?_)
           refine pu HT_ 2 135 5 (h := ?_)
           refine tk HT_ HW_ hHeld 1 134 7 (h := ?_)
           refine pu HT_ 3 136 15 (h := ?_)
           refine tk HT_ HW_ hHeld 4 137 31 (h := ?_)
           refine on HT_ 5 (some 138) 63 (h := fun K hK => ?_)
           refine gS Tryd.func77 #[.agg #[.int .i64 ((rd_Elem l0_7 x5_3).f0), .int .i64 ((rd_Elem l0_7 x5_3).f1), .int .i64 ((rd_Elem l0_7 x5_3).f2)]] (h := ?_)
           with_reducible refine (lectionaryref4_Begin.calls ((rd_Elem l0_7 x5_3).f0) ((rd_Elem l0_7 x5_3).f1) ((rd_Elem l0_7 x5_3).f2) false _ A103.out).mono ?_
           rintro e w137 ⟨rfl, hb⟩
           refine ⟨_, rfl, ?_⟩
           have n0_ := bl BK165 hb
           have n1_ := bs HB hb
           clear BK165
           clear HB
           have BK165 := n0_
           have HB := n1_
           clear n0_ n1_
           (try clear hb)
           (try clear hb2)
           (try clear hk)
           (try clear hi)
           refine hK.out _ _ (b11 BK165 ⟨(cl HB hw180_0), (cl HB hw180_1), (cl HB hw180_2), (cl HB hw182_0), (cl HB hw182_1), (cl HB hw182_2), (cl HB hw184_0), (cl HB hw184_1), (cl HB hw184_2)⟩) (fun hHeld => ?_)
           clear hK K
           refine nm (h := ?_)
           refine pu HT_ 6 139 127 (h := ?_)
           refine pu HT_ 7 140 255 (h := ?_)
           refine pu HT_ 9 142 767 (h := ?_)
           refine tk HT_ HW_ hHeld 8 141 1023 (h := ?_)
           refine pu HT_ 10 143 2047 (h := ?_)
           refine tk HT_ HW_ hHeld 11 144 4095 (h := ?_)
           refine on HT_ 12 (some 145) 8191 (h := fun K hK => ?_)
           refine gS Tryd.func68 #[.agg #[.int .i64 ((rd_Elem l0_7 x5_3).f0), .int .i64 ((rd_Elem l0_7 x5_3).f1), .int .i64 ((rd_Elem l0_7 x5_3).f2)]] (h := ?_)
           with_reducible refine (lectionaryref4_Elem.calls ((rd_Elem l0_7 x5_3).f0) ((rd_Elem l0_7 x5_3).f1) ((rd_Elem l0_7 x5_3).f2) true _ A108.out).mono ?_
           rintro e w138 ⟨rfl, hb⟩
           refine ⟨_, rfl, ?_⟩
           have n0_ := bl BK165 hb
           have n1_ := bs HB hb
           clear BK165
           clear HB
           have BK165 := n0_
           have HB := n1_
           clear n0_ n1_
           (try clear hb)
           (try clear hb2)
           (try clear hk)
           (try clear hi)
           refine hK.out _ _ (b11 BK165 ⟨(cl HB hw180_0), (cl HB hw180_1), (cl HB hw180_2), (cl HB hw182_0), (cl HB hw182_1), (cl HB hw182_2), (cl HB hw184_0), (cl HB hw184_1), (cl HB hw184_2)⟩) (fun hHeld => ?_)
           clear hK K
           refine nm (h := ?_)
           refine pu HT_ 13 146 16383 (h := ?_)
           refine pu HT_ 14 147 32767 (h := ?_)
           refine pu HT_ 15 148 65535 (h := ?_)
           refine pu HT_ 17 150 196607 (h := ?_)
           refine pu HT_ 19 152 720895 (h := ?_)
           refine tk HT_ HW_ hHeld 16 149 786431 (h := ?_)
           refine tk HT_ HW_ hHeld 18 151 1048575 (h := ?_)
           refine pu HT_ 20 153 2097151 (h := ?_)
           refine tk HT_ HW_ hHeld 21 154 4194303 (h := ?_)
           refine on HT_ 22 (some 155) 8388607 (h := fun K hK => ?_)
           refine gS Tryd.func114 #[.agg #[.int .i64 a0_0, .int .i64 a0_1, .int .i64 a0_2, .int .i64 a0_3, .int .i64 a0_4, .int .i64 a0_5, .string a0_6, .slice (some ad180) l0_7.length c0_7, .int .i64 a0_8, .int .i64 a0_9, .int .i64 a0_10], .agg #[.int .i64 ((rd_Elem l0_7 x5_3).f0), .int .i64 ((rd_Elem l0_7 x5_3).f1), .int .i64 ((rd_Elem l0_7 x5_3).f2)]] (h := ?_)
           with_reducible refine (lectionaryref4_own.calls a0_0 a0_1 a0_2 a0_3 a0_4 a0_5 a0_6 _ _ l0_7 a0_8 a0_9 a0_10 ((rd_Elem l0_7 x5_3).f0) ((rd_Elem l0_7 x5_3).f1) ((rd_Elem l0_7 x5_3).f2) false _ ?side1 ?side2 A110.out).mono ?_
           (case side1 => repeat (first | exact (Kd.C_below HR0_7.out HB.out) | (with_reducible refine Kd.C_alloc ?_ _) | (with_reducible refine Kd.C_drewN ?_ _) | (with_reducible refine Kd.C_drew ?_)))
           (case side2 => exact HC0_7.out)
           rintro e w139 ⟨rfl, hb⟩
           refine ⟨_, rfl, ?_⟩
           have n0_ := bl BK165 hb
           have n1_ := bs HB hb
           clear BK165
           clear HB
           have BK165 := n0_
           have HB := n1_
           clear n0_ n1_
           (try clear hb)
           (try clear hb2)
           (try clear hk)
           (try clear hi)
           refine hK.out _ _ (b11 BK165 ⟨(cl HB hw180_0), (cl HB hw180_1), (cl HB hw180_2), (cl HB hw182_0), (cl HB hw182_1), (cl HB hw182_2), (cl HB hw184_0), (cl HB hw184_1), (cl HB hw184_2)⟩) (fun hHeld => ?_)
           clear hK K
           refine nm (h := ?_)
           refine pu HT_ 23 156 16777215 (h := ?_)
           refine pu HT_ 24 157 33554431 (h := ?_)
           refine pu HT_ 25 158 67108863 (h := ?_)
           refine pu HT_ 26 159 134217727 (h := ?_)
           refine pu HT_ 27 160 268435455 (h := ?_)
           refine off HT_ 28 161 536870911 (h := ?_)
           refine off HT_ 29 162 1073741823 (h := ?_)
           refine off HT_ 30 163 2147483647 (h := ?_)
           refine off HT_ 31 164 4294967295 (h := ?_)
           refine off HT_ 32 165 8589934591 (h := ?_)
           refine off HT_ 33 166 17179869183 (h := ?_)
           refine off HT_ 34 167 34359738367 (h := ?_)
           refine off HT_ 35 168 68719476735 (h := ?_)
           refine off HT_ 36 169 137438953471 (h := ?_)
           refine off HT_ 37 170 274877906943 (h := ?_)
           refine off HT_ 38 171 549755813887 (h := ?_)
           refine off HT_ 39 172 1099511627775 (h := ?_)
           refine off HT_ 40 173 2199023255551 (h := ?_)
           refine pu HT_ 41 174 4398046511103 (h := ?_)
           refine pu HT_ 42 175 8796093022207 (h := ?_)
           refine dn HT_ (h := ?_)
           try go_wp2
           go_roundg k3
           case measure => have := HJ48.out; have := HJ66.out; have := HK3.out; omega
           case rel => exact ⟨(wrap64 (x5_3 + 1)), rf, H', ⟨by have := HJ48.out; have := HJ66.out; have := HK3.out; omega⟩, ⟨kk BK165⟩, ⟨bw HB⟩⟩
          replace c109 := Bool.eq_false_iff.mpr c109
          subst c109
          have H1 : (some false) = some r := by rw [if_neg (show ¬ (false = true) by decide)] at H; exact H
          clear H
          have H := H1
          clear H1
          obtain rfl := Option.some.inj H
          obtain ⟨hcz140_0, hcz140_1, hcz140_2, hcz140_3, hcz140_4, hcz140_5, hcz140_6, hcz140_7, hcz140_8, hcz140_9, hcz140_10, hfz140_0, hfz140_1, hfz140_2, hfz140_3, hfz140_4, hfz140_5, hfz140_6, hfz140_7, hfz140_8, hfz140_9, hfz140_10⟩ := kc11 BK165
          try go_wp2
          have n0_ := Aside0.mk (blk_drew BK165.out)
          have n1_ := Aside0.mk (below_drew1 HB.out)
          clear BK165
          clear HB
          have BK165 := n0_
          have HB := n1_
          clear n0_ n1_
          have p180 : 0 ≤ (x5_3 : Int) := of_decide_eq_true (by first | (with_reducible assumption) | assumption)
          have q180 : x5_3 < (l0_7.length : Int) := of_decide_eq_true (by first | (with_reducible assumption) | assumption)
          obtain ⟨ad180, e180, hx180_0, hx180_1, hx180_2⟩ := at_Elem HR0_7.out x5_3 p180 q180
          have hw180_2 := hx180_2
          have hw180_1 := hx180_1
          have hw180_0 := hx180_0
          cases e180
          replace hx180_0 := cl HB hx180_0
          replace hx180_1 := cl HB hx180_1
          replace hx180_2 := cl HB hx180_2
          replace p180 := eq_true p180
          replace q180 := eq_true q180
          have p182 : 0 ≤ (x5_3 : Int) := of_decide_eq_true (by first | (with_reducible assumption) | assumption)
          have q182 : x5_3 < (l0_7.length : Int) := of_decide_eq_true (by first | (with_reducible assumption) | assumption)
          obtain ⟨ad182, e182, hx182_0, hx182_1, hx182_2⟩ := at_Elem HR0_7.out x5_3 p182 q182
          have hw182_2 := hx182_2
          have hw182_1 := hx182_1
          have hw182_0 := hx182_0
          obtain rfl : ad180 = ad182 := (by injection e182)
          replace hx182_0 := cl HB hx182_0
          replace hx182_1 := cl HB hx182_1
          replace hx182_2 := cl HB hx182_2
          replace p182 := eq_true p182
          replace q182 := eq_true q182
          refine stP (fun w' => B11 w' gb165 (.int .i64 a0_0) (.int .i64 a0_1) (.int .i64 a0_2) (.int .i64 a0_3) (.int .i64 a0_4) (.int .i64 a0_5) (.string a0_6) (.slice (some ad180) l0_7.length c0_7) (.int .i64 a0_8) (.int .i64 a0_9) (.int .i64 a0_10) (w'.cell? (ad180.add ((x5_3).toNat * 3)) = some (.int .i64 ((rd_Elem l0_7 x5_3).f0)) ∧ w'.cell? ⟨(ad180.add ((x5_3).toNat * 3)).block, (ad180.add ((x5_3).toNat * 3)).off + 1, none⟩ = some (.int .i64 ((rd_Elem l0_7 x5_3).f1)) ∧ w'.cell? ⟨(ad180.add ((x5_3).toNat * 3)).block, (ad180.add ((x5_3).toNat * 3)).off + 2, none⟩ = some (.int .i64 ((rd_Elem l0_7 x5_3).f2)) ∧ w'.cell? (ad180.add ((x5_3).toNat * 3)) = some (.int .i64 ((rd_Elem l0_7 x5_3).f0)) ∧ w'.cell? ⟨(ad180.add ((x5_3).toNat * 3)).block, (ad180.add ((x5_3).toNat * 3)).off + 1, none⟩ = some (.int .i64 ((rd_Elem l0_7 x5_3).f1)) ∧ w'.cell? ⟨(ad180.add ((x5_3).toNat * 3)).block, (ad180.add ((x5_3).toNat * 3)).off + 2, none⟩ = some (.int .i64 ((rd_Elem l0_7 x5_3).f2)))) 43 (b11 BK165 ⟨(cl HB hw180_0), (cl HB hw180_1), (cl HB hw180_2), (cl HB hw182_0), (cl HB hw182_1), (cl HB hw182_2)⟩) (h := fun hHeld => ?_); refine with_tabW lectionaryref4_Op.tab13 lectionaryref4_Op.bits13 (fun HT_ HW_ => ?_)
          generalize wr.drew = w141 at BK165 HB hx180_0 hx180_1 hx180_2 hx182_0 hx182_1 hx182_2 hHeld ⊢
          refine pu HT_ 0 133 1 (h := ?_)
          refine pu HT_ 2 135 5 (h := ?_)
          refine tk HT_ HW_ hHeld 1 134 7 (h := ?_)
          refine pu HT_ 3 136 15 (h := ?_)
          refine tk HT_ HW_ hHeld 4 137 31 (h := ?_)
          refine on HT_ 5 (some 138) 63 (h := fun K hK => ?_)
          refine gS Tryd.func77 #[.agg #[.int .i64 ((rd_Elem l0_7 x5_3).f0), .int .i64 ((rd_Elem l0_7 x5_3).f1), .int .i64 ((rd_Elem l0_7 x5_3).f2)]] (h := ?_)
          with_reducible refine (lectionaryref4_Begin.calls ((rd_Elem l0_7 x5_3).f0) ((rd_Elem l0_7 x5_3).f1) ((rd_Elem l0_7 x5_3).f2) false _ A103.out).mono ?_
          rintro e w142 ⟨rfl, hb⟩
          refine ⟨_, rfl, ?_⟩
          have n0_ := bl BK165 hb
          have n1_ := bs HB hb
          clear BK165
          clear HB
          have BK165 := n0_
          have HB := n1_
          clear n0_ n1_
          (try clear hb)
          (try clear hb2)
          (try clear hk)
          (try clear hi)
          refine hK.out _ _ (b11 BK165 ⟨(cl HB hw180_0), (cl HB hw180_1), (cl HB hw180_2), (cl HB hw182_0), (cl HB hw182_1), (cl HB hw182_2)⟩) (fun hHeld => ?_)
          clear hK K
          refine nm (h := ?_)
          refine pu HT_ 6 139 127 (h := ?_)
          refine pu HT_ 7 140 255 (h := ?_)
          refine pu HT_ 9 142 767 (h := ?_)
          refine tk HT_ HW_ hHeld 8 141 1023 (h := ?_)
          refine pu HT_ 10 143 2047 (h := ?_)
          refine tk HT_ HW_ hHeld 11 144 4095 (h := ?_)
          refine on HT_ 12 (some 145) 8191 (h := fun K hK => ?_)
          refine gS Tryd.func68 #[.agg #[.int .i64 ((rd_Elem l0_7 x5_3).f0), .int .i64 ((rd_Elem l0_7 x5_3).f1), .int .i64 ((rd_Elem l0_7 x5_3).f2)]] (h := ?_)
          with_reducible refine (lectionaryref4_Elem.calls ((rd_Elem l0_7 x5_3).f0) ((rd_Elem l0_7 x5_3).f1) ((rd_Elem l0_7 x5_3).f2) false _ A108.out).mono ?_
          rintro e w143 ⟨rfl, hb⟩
          refine ⟨_, rfl, ?_⟩
          have n0_ := bl BK165 hb
          have n1_ := bs HB hb
          clear BK165
          clear HB
          have BK165 := n0_
          have HB := n1_
          clear n0_ n1_
          (try clear hb)
          (try clear hb2)
          (try clear hk)
          (try clear hi)
          refine hK.out _ _ (b11 BK165 ⟨(cl HB hw180_0), (cl HB hw180_1), (cl HB hw180_2), (cl HB hw182_0), (cl HB hw182_1), (cl HB hw182_2)⟩) (fun hHeld => ?_)
          clear hK K
          refine nm (h := ?_)
          refine pu HT_ 13 146 16383 (h := ?_)
          refine pu HT_ 14 147 32767 (h := ?_)
          refine pu HT_ 15 148 65535 (h := ?_)
          refine off HT_ 16 149 131071 (h := ?_)
          refine off HT_ 17 150 262143 (h := ?_)
          refine off HT_ 18 151 524287 (h := ?_)
          refine off HT_ 19 152 1048575 (h := ?_)
          refine off HT_ 20 153 2097151 (h := ?_)
          refine off HT_ 21 154 4194303 (h := ?_)
          refine off HT_ 22 155 8388607 (h := ?_)
          refine pu HT_ 23 156 16777215 (h := ?_)
          refine pu HT_ 24 157 33554431 (h := ?_)
          refine off HT_ 25 158 67108863 (h := ?_)
          refine off HT_ 26 159 134217727 (h := ?_)
          refine off HT_ 27 160 268435455 (h := ?_)
          refine off HT_ 28 161 536870911 (h := ?_)
          refine off HT_ 29 162 1073741823 (h := ?_)
          refine off HT_ 30 163 2147483647 (h := ?_)
          refine off HT_ 31 164 4294967295 (h := ?_)
          refine off HT_ 32 165 8589934591 (h := ?_)
          refine off HT_ 33 166 17179869183 (h := ?_)
          refine off HT_ 34 167 34359738367 (h := ?_)
          refine off HT_ 35 168 68719476735 (h := ?_)
          refine off HT_ 36 169 137438953471 (h := ?_)
          refine off HT_ 37 170 274877906943 (h := ?_)
          refine off HT_ 38 171 549755813887 (h := ?_)
          refine off HT_ 39 172 1099511627775 (h := ?_)
          refine off HT_ 40 173 2199023255551 (h := ?_)
          refine off HT_ 41 174 4398046511103 (h := ?_)
          refine pu HT_ 42 175 8796093022207 (h := ?_)
          refine dn HT_ (h := ?_)
          try go_wp2
          go_ret
          exact ⟨re, bw HB⟩
         rw [if_neg c102] at H
         exact absurd H (by simp)
        rw [if_neg c101] at H
        have c101b0 : decide (x5_3 < (l0_7.length : Int)) = false := decide_eq_false c101
        clear c101
        obtain rfl := Option.some.inj H
        obtain ⟨hcz144_0, hcz144_1, hcz144_2, hcz144_3, hcz144_4, hcz144_5, hcz144_6, hcz144_7, hcz144_8, hcz144_9, hcz144_10, hfz144_0, hfz144_1, hfz144_2, hfz144_3, hfz144_4, hfz144_5, hfz144_6, hfz144_7, hfz144_8, hfz144_9, hfz144_10⟩ := kc11 BK165
        go_wp2
        go_ret
        exact ⟨re, bw HB⟩
 replace c3 := Bool.eq_false_iff.mpr c3
 subst c3
 have H1 : (some false) = some r := by rw [if_neg (show ¬ (false = true) by decide)] at H; exact H
 clear H
 have H := H1
 clear H1
 obtain rfl := Option.some.inj H
 go_enter Tryd.func57, Tryd.ntmps57
 go_wp2_with (first | ((with_reducible refine gate_dst (N := 1) rfl ?_); (try (refine gate_guard (by rfl) ?_; dsimp only)); refine bx 1 #[.int .i64 a0_0, .int .i64 a0_1, .int .i64 a0_2, .int .i64 a0_3, .int .i64 a0_4, .int .i64 a0_5, .string a0_6, .slice A0_7 l0_7.length c0_7, .int .i64 a0_8, .int .i64 a0_9, .int .i64 a0_10] 31 (h := ?_); intro gb165 hg w145 hbox hb; have BK165 := Aside0.mk (hbox); have GW165 := bz HB hg; have GE165 := bz HB hg; replace HB := bs HB hb; clear hb hbox hg; obtain ⟨hcz146_0, hcz146_1, hcz146_2, hcz146_3, hcz146_4, hcz146_5, hcz146_6, hcz146_7, hcz146_8, hcz146_9, hcz146_10, hfz146_0, hfz146_1, hfz146_2, hfz146_3, hfz146_4, hfz146_5, hfz146_6, hfz146_7, hfz146_8, hfz146_9, hfz146_10⟩ := kc11 BK165) | ((with_reducible refine gate_callee (f := 113) rfl ?_); refine gl (some 10) Tryd.func113 #[.int .i64 a0_0, .int .i64 a0_1] (h := ?_); (with_reducible refine (lectionaryref4_name.calls a0_0 a0_1 false _ A2.out).mono ?_); rintro e w' ⟨rfl, ⟨nd, rfl⟩⟩; refine ⟨_, rfl, ?_⟩))
 go_ret
 exact ⟨re, bw HB⟩
end Go.Proofs.YtdahgnalojekdaaDoor.L
end

section
namespace Go.Proofs.YtdahgnalojekdaaDoor.L
open Go.RowKit Go.Proofs.YtdahgnalojekdaaDoorW.PrintWords Go.Proofs.YtdahgnalojekdaaDoorW.PrintLast Go.Proofs.YtdahgnalojekdaaDoorW.PrintMore
attribute [local go_sem] max2_int min2_int max_two min_two max_three min_three max_four min_four
set_option linter.unusedVariables false
set_option linter.unusedSimpArgs false
def lectionaryref4_Edit.f (k : Nat) (l0 : List (SOp)) (a1 : Int) (a2 : Int) : Option (Bool) := (lectionaryref4_Find.f k l0 a1 a2).bind fun t202 => (if t202 ≥ 0 then (if 0 ≤ t202 then (if t202 < (l0.length : Int) then (some (((rd_Op l0 t202).f2) == 1)) else (none)) else (none)) else (some false))
set_option maxHeartbeats 8000000 in
set_option maxRecDepth 100000 in
theorem lectionaryref4_Edit.calls (k : Nat) (A0 : Option Addr) (c0 : Nat) (l0 : List (SOp)) (a1 : Int) (a2 : Int) (r : Bool) (w : World) (hr0 : Kd.C kOp w A0 l0.length l0) (hc0 : l0.length ≤ c0) (h : lectionaryref4_Edit.f k l0 a1 a2 = some r) :
  Calls Tryd.prog 96 #[.slice A0 l0.length c0, .int .i64 a1, .int .i64 a2] w fun e w' => e = .returned (.bool r) ∧ Drawn0 w w' := by
 have HR0 := Aside0.mk hr0
 have HC0 := Aside0.mk hc0
 clear hr0 hc0
 have H : ((lectionaryref4_Find.f k l0 a1 a2).bind fun t202 => (if t202 ≥ 0 then (if 0 ≤ t202 then (if t202 < (l0.length : Int) then (some (((rd_Op l0 t202).f2) == 1)) else (none)) else (none)) else (some false))) = some r := h
 clear h
 replace H := Option.bind_eq_some_iff.mp H
 obtain ⟨t202, A40, H⟩ := H
 replace H : (if t202 ≥ 0 then (if 0 ≤ t202 then (if t202 < (l0.length : Int) then (some (((rd_Op l0 t202).f2) == 1)) else (none)) else (none)) else (some false)) = some r := H
 have A4 := Aside0.mk A40
 clear A40
 by_cases c5 : t202 ≥ 0
 ·rw [if_pos c5] at H
  have c5b0 : decide (0 ≤ t202) = true := decide_eq_true c5
  clear c5
  by_cases c6 : 0 ≤ t202
  ·rw [if_pos c6] at H
   have c6b0 : decide (0 ≤ t202) = true := decide_eq_true c6
   clear c6
   by_cases c7 : t202 < (l0.length : Int)
   ·rw [if_pos c7] at H
    have c7b0 : decide (t202 < (l0.length : Int)) = true := decide_eq_true c7
    clear c7
    obtain rfl := Option.some.inj H
    go_enter Tryd.func96, Tryd.ntmps96
    go_wp2_with (first | ((with_reducible refine gate_callee (f := 91) rfl ?_); refine gl (some 11) Tryd.func91 #[.slice A0 l0.length c0, .int .i64 a1, .int .i64 a2] (h := ?_); (with_reducible refine (lectionaryref4_Find.calls k _ _ l0 a1 a2 t202 _ ?side1 ?side2 A4.out).mono ?_); (case side1 => repeat (first | exact HR0.out | (with_reducible refine Kd.C_alloc ?_ _) | (with_reducible refine Kd.C_drewN ?_ _) | (with_reducible refine Kd.C_drew ?_))); (case side2 => exact HC0.out); rintro e w' ⟨rfl, ⟨nd, rfl⟩⟩; refine ⟨_, rfl, ?_⟩; have p203 : 0 ≤ (t202 : Int) := of_decide_eq_true (by first | (with_reducible assumption) | assumption); have q203 : t202 < (l0.length : Int) := of_decide_eq_true (by first | (with_reducible assumption) | assumption); obtain ⟨ad203, A203_7, c203_7, e203, hx203_0, hx203_1, hx203_2, hx203_3, hx203_4, hx203_5, hx203_6, hx203_7, hx203_8, hx203_9, hx203_10, hl203_7, hi203_7⟩ := at_Op HR0.out t202 p203 q203; cases e203; have HR203_7 := Aside0.mk hi203_7; have HC203_7 := Aside0.mk hl203_7; clear hi203_7 hl203_7; replace p203 := eq_true p203; replace q203 := eq_true q203))
    go_ret
    exact ⟨rf, by repeat (first | exact Drawn0.refl _ | apply Drawn0.step)⟩
   rw [if_neg c7] at H
   exact absurd H (by simp)
  rw [if_neg c6] at H
  exact absurd H (by simp)
 rw [if_neg c5] at H
 have c5b0 : decide (0 ≤ t202) = false := decide_eq_false c5
 clear c5
 obtain rfl := Option.some.inj H
 go_enter Tryd.func96, Tryd.ntmps96
 go_wp2_with (first | ((with_reducible refine gate_callee (f := 91) rfl ?_); refine gl (some 11) Tryd.func91 #[.slice A0 l0.length c0, .int .i64 a1, .int .i64 a2] (h := ?_); (with_reducible refine (lectionaryref4_Find.calls k _ _ l0 a1 a2 t202 _ ?side1 ?side2 A4.out).mono ?_); (case side1 => repeat (first | exact HR0.out | (with_reducible refine Kd.C_alloc ?_ _) | (with_reducible refine Kd.C_drewN ?_ _) | (with_reducible refine Kd.C_drew ?_))); (case side2 => exact HC0.out); rintro e w' ⟨rfl, ⟨nd, rfl⟩⟩; refine ⟨_, rfl, ?_⟩))
 go_ret
 exact ⟨rf, by repeat (first | exact Drawn0.refl _ | apply Drawn0.step)⟩
end Go.Proofs.YtdahgnalojekdaaDoor.L
end
