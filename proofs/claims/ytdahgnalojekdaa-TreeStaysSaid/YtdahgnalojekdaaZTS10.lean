/- Part 10 of the proof that for every argument that fits in memory the law TreeStays answers true: with an op more no two elements that were there change their order, and what it writes stands side by side right behind what it was written behind; no condition is laid. -/
import Derived.Test.YtdahgnalojekdaaZTS9
section
namespace Go.Proofs.Ytdahgnalojekdaa.L
open Go.RowKit Go.Proofs.YtdahgnalojekdaaW.PrintWords Go.Proofs.YtdahgnalojekdaaW.PrintLast Go.Proofs.YtdahgnalojekdaaW.PrintMore
attribute [local go_sem] max2_int min2_int max_two min_two max_three min_three max_four min_four
set_option linter.unusedVariables false
set_option linter.unusedSimpArgs false
attribute [local go_sem high] eqAElem
mutual
def lectionarylaw5_TreeStays.l0 : Nat → Int → List (List (SOp)) → List (SElem) → List (SOp) → List Int → Option (Bool)
  | 0, _, _, _, _, _ => none
  | k + 1, x3, x135000, x135001, x135002, x135003 => if x3 < (x135000.length : Int) then (lectionarylaw5_TreeStays.j1 k x3 (decide (x3 < 4)) x135000 x135001 x135002 x135003) else (lectionarylaw5_TreeStays.j1 k x3 false x135000 x135001 x135002 x135003)
def lectionarylaw5_TreeStays.j1 : Nat → Int → Bool → List (List (SOp)) → List (SElem) → List (SOp) → List Int → Option (Bool)
  | 0, _, _, _, _, _, _ => none
  | k + 1, x3, x23, x135000, x135001, x135002, x135003 => if x23 = true then (if 0 ≤ x3 then (if x3 < (x135000.length : Int) then ((tree_Check.f (rd_LOp x135000 x3)).bind fun t138 => ((lectionarylaw5_num.f t138).bind fun t139 => (if t139 = 0 then (lectionarylaw5_TreeStays.l1 k x3 ([] : List (SElem)) 0 x135000 x135001 x135002 x135003) else (lectionarylaw5_TreeStays.l0 k (wrap64 (x3 + 1)) x135000 x135001 x135002 x135003)))) else (none)) else (none)) else ((lectionarylaw5_wakes.f).bind fun t136 => (some t136))
def lectionarylaw5_TreeStays.l1 : Nat → Int → List (SElem) → Int → List (List (SOp)) → List (SElem) → List (SOp) → List Int → Option (Bool)
  | 0, _, _, _, _, _, _, _ => none
  | k + 1, x3, x4, x5, x135000, x135001, x135002, x135003 => if 0 ≤ x3 then (if x3 < (x135000.length : Int) then (if x5 < ((rd_LOp x135000 x3).length : Int) then (if 0 ≤ (wrap64 (x5 + 1)) then (if (wrap64 (x5 + 1)) ≤ ((rd_LOp x135000 x3).length : Int) then ((tree_Order.f ((rd_LOp x135000 x3).take ((wrap64 (x5 + 1)) : Int).toNat)).bind fun bt146 => ((lectionarylaw5_num.f bt146.2).bind fun t150 => (if t150 = 0 then (lectionarylaw5_TreeStays.j3 k x3 x4 x5 bt146.1 (decide ((bt146.1.length : Int) < (x4.length : Int))) x135000 x135001 x135002 x135003) else (lectionarylaw5_TreeStays.j3 k x3 x4 x5 bt146.1 true x135000 x135001 x135002 x135003)))) else (none)) else (none)) else (lectionarylaw5_TreeStays.l0 k (wrap64 (x3 + 1)) x135000 x135001 x135002 x135003)) else (none)) else (none)
def lectionarylaw5_TreeStays.j3 : Nat → Int → List (SElem) → Int → List (SElem) → Bool → List (List (SOp)) → List (SElem) → List (SOp) → List Int → Option (Bool)
  | 0, _, _, _, _, _, _, _, _, _ => none
  | k + 1, x3, x4, x5, x6, x65, x135000, x135001, x135002, x135003 => if x65 = true then (some false) else (lectionarylaw5_TreeStays.l2 k x3 x4 x5 x6 ([] : List (SElem)) 0 x135000 x135001 x135002 x135003)
def lectionarylaw5_TreeStays.l2 : Nat → Int → List (SElem) → Int → List (SElem) → List (SElem) → Int → List (List (SOp)) → List (SElem) → List (SOp) → List Int → Option (Bool)
  | 0, _, _, _, _, _, _, _, _, _, _ => none
  | k + 1, x3, x4, x5, x6, x8, x9, x135000, x135001, x135002, x135003 => if x9 < (x6.length : Int) then (if 0 ≤ x9 then ((lectionaryref0_At.f k x4 ((rd_Elem x6 x9).f0) ((rd_Elem x6 x9).f1) ((rd_Elem x6 x9).f2)).bind fun t152 => (if t152 ≥ 0 then (if x8.length < 5864062014805 then (lectionarylaw5_TreeStays.l2 k x3 x4 x5 x6 (x8 ++ [(⟨(rd_Elem x6 x9).f0, (rd_Elem x6 x9).f1, (rd_Elem x6 x9).f2⟩ : SElem)]) (wrap64 (x9 + 1)) x135000 x135001 x135002 x135003) else (none)) else (lectionarylaw5_TreeStays.l2 k x3 x4 x5 x6 x8 (wrap64 (x9 + 1)) x135000 x135001 x135002 x135003))) else (none)) else ((lectionaryref0_EqElems.f k x8 x4).bind fun t157 => (if t157 = true then (if 0 ≤ x3 then (if x3 < (x135000.length : Int) then (if 0 ≤ x5 then (if x5 < ((rd_LOp x135000 x3).length : Int) then (if ((rd_Op (rd_LOp x135000 x3) x5).f4).toList = ([] : List UInt8) then (lectionarylaw5_TreeStays.l1 k x3 x6 (wrap64 (x5 + 1)) x135000 x135001 x135002 x135003) else (if (!(((rd_Op (rd_LOp x135000 x3) x5).f3.f0) == 0) || (!(((rd_Op (rd_LOp x135000 x3) x5).f3.f1) == 0) || (!(((rd_Op (rd_LOp x135000 x3) x5).f3.f2) == 0)))) = true then ((lectionaryref0_At.f k x6 ((rd_Op (rd_LOp x135000 x3) x5).f3.f0) ((rd_Op (rd_LOp x135000 x3) x5).f3.f1) ((rd_Op (rd_LOp x135000 x3) x5).f3.f2)).bind fun t161 => (if (wrap64 (t161 + 1)) = 0 then (some false) else (lectionarylaw5_TreeStays.j5 k x3 x4 x5 x6 (wrap64 (t161 + 1)) x135000 x135001 x135002 x135003 ((rd_Op (rd_LOp x135000 x3) x5).f0) ((rd_Op (rd_LOp x135000 x3) x5).f1) ((rd_Op (rd_LOp x135000 x3) x5).f2) ((rd_Op (rd_LOp x135000 x3) x5).f3.f0) ((rd_Op (rd_LOp x135000 x3) x5).f3.f1) ((rd_Op (rd_LOp x135000 x3) x5).f3.f2) ((rd_Op (rd_LOp x135000 x3) x5).f4) ((rd_Op (rd_LOp x135000 x3) x5).f5) ((rd_Op (rd_LOp x135000 x3) x5).f6) ((rd_Op (rd_LOp x135000 x3) x5).f7) ((rd_Op (rd_LOp x135000 x3) x5).f8)))) else (lectionarylaw5_TreeStays.j5 k x3 x4 x5 x6 0 x135000 x135001 x135002 x135003 ((rd_Op (rd_LOp x135000 x3) x5).f0) ((rd_Op (rd_LOp x135000 x3) x5).f1) ((rd_Op (rd_LOp x135000 x3) x5).f2) ((rd_Op (rd_LOp x135000 x3) x5).f3.f0) ((rd_Op (rd_LOp x135000 x3) x5).f3.f1) ((rd_Op (rd_LOp x135000 x3) x5).f3.f2) ((rd_Op (rd_LOp x135000 x3) x5).f4) ((rd_Op (rd_LOp x135000 x3) x5).f5) ((rd_Op (rd_LOp x135000 x3) x5).f6) ((rd_Op (rd_LOp x135000 x3) x5).f7) ((rd_Op (rd_LOp x135000 x3) x5).f8)))) else (none)) else (none)) else (none)) else (none)) else (some false)))
def lectionarylaw5_TreeStays.j5 : Nat → Int → List (SElem) → Int → List (SElem) → Int → List (List (SOp)) → List (SElem) → List (SOp) → List Int → Int → Int → Int → Int → Int → Int → ByteArray → List (SElem) → Int → Int → Int → Option (Bool)
  | 0, _, _, _, _, _, _, _, _, _, _, _, _, _, _, _, _, _, _, _, _ => none
  | k + 1, x3, x4, x5, x6, x11, x135000, x135001, x135002, x135003, x161000, x161001, x161002, x161003, x161004, x161005, x161006, x161007, x161008, x161009, x161010 => lectionarylaw5_TreeStays.l3 k x3 x4 x5 x6 x11 x11 x135000 x135001 x135002 x135003 x161000 x161001 x161002 x161003 x161004 x161005 x161006 x161007 x161008 x161009 x161010
def lectionarylaw5_TreeStays.l3 : Nat → Int → List (SElem) → Int → List (SElem) → Int → Int → List (List (SOp)) → List (SElem) → List (SOp) → List Int → Int → Int → Int → Int → Int → Int → ByteArray → List (SElem) → Int → Int → Int → Option (Bool)
  | 0, _, _, _, _, _, _, _, _, _, _, _, _, _, _, _, _, _, _, _, _, _ => none
  | k + 1, x3, x4, x5, x6, x11, x12, x135000, x135001, x135002, x135003, x161000, x161001, x161002, x161003, x161004, x161005, x161006, x161007, x161008, x161009, x161010 => if x12 < (wrap64 ((wrap64 (x11 + (x6.length : Int))) - (x4.length : Int))) then (if x12 ≥ (x6.length : Int) then (lectionarylaw5_TreeStays.j7 k x3 x4 x5 x6 x11 x12 true x135000 x135001 x135002 x135003 x161000 x161001 x161002 x161003 x161004 x161005 x161006 x161007 x161008 x161009 x161010) else (if 0 ≤ x12 then (if x12 < (x6.length : Int) then (if ((rd_Elem x6 x12).f0) = x161000 then (if ((rd_Elem x6 x12).f1) = x161001 then (lectionarylaw5_TreeStays.j7 k x3 x4 x5 x6 x11 x12 (((rd_Elem x6 x12).f2) != (wrap64 (x12 - x11))) x135000 x135001 x135002 x135003 x161000 x161001 x161002 x161003 x161004 x161005 x161006 x161007 x161008 x161009 x161010) else (lectionarylaw5_TreeStays.j7 k x3 x4 x5 x6 x11 x12 true x135000 x135001 x135002 x135003 x161000 x161001 x161002 x161003 x161004 x161005 x161006 x161007 x161008 x161009 x161010)) else (lectionarylaw5_TreeStays.j7 k x3 x4 x5 x6 x11 x12 true x135000 x135001 x135002 x135003 x161000 x161001 x161002 x161003 x161004 x161005 x161006 x161007 x161008 x161009 x161010)) else (none)) else (none))) else (lectionarylaw5_TreeStays.l1 k x3 x6 (wrap64 (x5 + 1)) x135000 x135001 x135002 x135003)
def lectionarylaw5_TreeStays.j7 : Nat → Int → List (SElem) → Int → List (SElem) → Int → Int → Bool → List (List (SOp)) → List (SElem) → List (SOp) → List Int → Int → Int → Int → Int → Int → Int → ByteArray → List (SElem) → Int → Int → Int → Option (Bool)
  | 0, _, _, _, _, _, _, _, _, _, _, _, _, _, _, _, _, _, _, _, _, _, _ => none
  | k + 1, x3, x4, x5, x6, x11, x12, x158, x135000, x135001, x135002, x135003, x161000, x161001, x161002, x161003, x161004, x161005, x161006, x161007, x161008, x161009, x161010 => if x158 = true then (some false) else (lectionarylaw5_TreeStays.l3 k x3 x4 x5 x6 x11 (wrap64 (x12 + 1)) x135000 x135001 x135002 x135003 x161000 x161001 x161002 x161003 x161004 x161005 x161006 x161007 x161008 x161009 x161010)
end
def lectionarylaw5_TreeStays.f (k : Nat) (l0_0 : List (List (SOp))) (l0_1 : List (SElem)) (l0_2 : List (SOp)) (l0_3 : List Int) : Option (Bool) := (lectionarylaw5_Heavy.f k l0_0 l0_1 l0_2 l0_3).bind fun t135 => (if t135 = true then (some true) else (lectionarylaw5_TreeStays.l0 k 0 l0_0 l0_1 l0_2 l0_3))
theorem lectionarylaw5_TreeStays.mono_l : ∀ k, (∀ y0 y1 y2 y3 y4, LeO (lectionarylaw5_TreeStays.l0 k y0 y1 y2 y3 y4) (lectionarylaw5_TreeStays.l0 (k + 1) y0 y1 y2 y3 y4)) ∧ (∀ y0 y1 y2 y3 y4 y5, LeO (lectionarylaw5_TreeStays.j1 k y0 y1 y2 y3 y4 y5) (lectionarylaw5_TreeStays.j1 (k + 1) y0 y1 y2 y3 y4 y5)) ∧ (∀ y0 y1 y2 y3 y4 y5 y6, LeO (lectionarylaw5_TreeStays.l1 k y0 y1 y2 y3 y4 y5 y6) (lectionarylaw5_TreeStays.l1 (k + 1) y0 y1 y2 y3 y4 y5 y6)) ∧ (∀ y0 y1 y2 y3 y4 y5 y6 y7 y8, LeO (lectionarylaw5_TreeStays.j3 k y0 y1 y2 y3 y4 y5 y6 y7 y8) (lectionarylaw5_TreeStays.j3 (k + 1) y0 y1 y2 y3 y4 y5 y6 y7 y8)) ∧ (∀ y0 y1 y2 y3 y4 y5 y6 y7 y8 y9, LeO (lectionarylaw5_TreeStays.l2 k y0 y1 y2 y3 y4 y5 y6 y7 y8 y9) (lectionarylaw5_TreeStays.l2 (k + 1) y0 y1 y2 y3 y4 y5 y6 y7 y8 y9)) ∧ (∀ y0 y1 y2 y3 y4 y5 y6 y7 y8 y9 y10 y11 y12 y13 y14 y15 y16 y17 y18 y19, LeO (lectionarylaw5_TreeStays.j5 k y0 y1 y2 y3 y4 y5 y6 y7 y8 y9 y10 y11 y12 y13 y14 y15 y16 y17 y18 y19) (lectionarylaw5_TreeStays.j5 (k + 1) y0 y1 y2 y3 y4 y5 y6 y7 y8 y9 y10 y11 y12 y13 y14 y15 y16 y17 y18 y19)) ∧ (∀ y0 y1 y2 y3 y4 y5 y6 y7 y8 y9 y10 y11 y12 y13 y14 y15 y16 y17 y18 y19 y20, LeO (lectionarylaw5_TreeStays.l3 k y0 y1 y2 y3 y4 y5 y6 y7 y8 y9 y10 y11 y12 y13 y14 y15 y16 y17 y18 y19 y20) (lectionarylaw5_TreeStays.l3 (k + 1) y0 y1 y2 y3 y4 y5 y6 y7 y8 y9 y10 y11 y12 y13 y14 y15 y16 y17 y18 y19 y20)) ∧ (∀ y0 y1 y2 y3 y4 y5 y6 y7 y8 y9 y10 y11 y12 y13 y14 y15 y16 y17 y18 y19 y20 y21, LeO (lectionarylaw5_TreeStays.j7 k y0 y1 y2 y3 y4 y5 y6 y7 y8 y9 y10 y11 y12 y13 y14 y15 y16 y17 y18 y19 y20 y21) (lectionarylaw5_TreeStays.j7 (k + 1) y0 y1 y2 y3 y4 y5 y6 y7 y8 y9 y10 y11 y12 y13 y14 y15 y16 y17 y18 y19 y20 y21))
  | 0 => ⟨fun _ _ _ _ _ r h => by simp [lectionarylaw5_TreeStays.l0] at h, fun _ _ _ _ _ _ r h => by simp [lectionarylaw5_TreeStays.j1] at h, fun _ _ _ _ _ _ _ r h => by simp [lectionarylaw5_TreeStays.l1] at h, fun _ _ _ _ _ _ _ _ _ r h => by simp [lectionarylaw5_TreeStays.j3] at h, fun _ _ _ _ _ _ _ _ _ _ r h => by simp [lectionarylaw5_TreeStays.l2] at h, fun _ _ _ _ _ _ _ _ _ _ _ _ _ _ _ _ _ _ _ _ r h => by simp [lectionarylaw5_TreeStays.j5] at h, fun _ _ _ _ _ _ _ _ _ _ _ _ _ _ _ _ _ _ _ _ _ r h => by simp [lectionarylaw5_TreeStays.l3] at h, fun _ _ _ _ _ _ _ _ _ _ _ _ _ _ _ _ _ _ _ _ _ _ r h => by simp [lectionarylaw5_TreeStays.j7] at h⟩
  | k + 1 => by
    obtain ⟨ih0, ih1, ih2, ih3, ih4, ih5, ih6, ih7⟩ := lectionarylaw5_TreeStays.mono_l k
    refine ⟨?_, ?_, ?_, ?_, ?_, ?_, ?_, ?_⟩
    · intro y0 y1 y2 y3 y4
      unfold lectionarylaw5_TreeStays.l0
      repeat' first
      | (with_reducible exact ih0 _ _ _ _ _)
      | (with_reducible exact ih1 _ _ _ _ _ _)
      | (with_reducible exact ih2 _ _ _ _ _ _ _)
      | (with_reducible exact ih3 _ _ _ _ _ _ _ _ _)
      | (with_reducible exact ih4 _ _ _ _ _ _ _ _ _ _)
      | (with_reducible exact ih5 _ _ _ _ _ _ _ _ _ _ _ _ _ _ _ _ _ _ _ _)
      | (with_reducible exact ih6 _ _ _ _ _ _ _ _ _ _ _ _ _ _ _ _ _ _ _ _ _)
      | (with_reducible exact ih7 _ _ _ _ _ _ _ _ _ _ _ _ _ _ _ _ _ _ _ _ _ _)
      | (with_reducible exact lectionarylaw5_Heavy.mono _ _ _ _ _)
      | (with_reducible exact lectionaryref0_At.mono _ _ _ _ _)
      | (with_reducible exact lectionaryref0_EqElems.mono _ _ _)
      | (with_reducible exact LeO.refl _)
      | (with_reducible exact LeO.none _)
      | (with_reducible refine LeO.ite ?_ ?_)
      | (with_reducible refine LeO.bind ?_ (fun _ => ?_))
      | exact ih0 _ _ _ _ _
      | exact ih1 _ _ _ _ _ _
      | exact ih2 _ _ _ _ _ _ _
      | exact ih3 _ _ _ _ _ _ _ _ _
      | exact ih4 _ _ _ _ _ _ _ _ _ _
      | exact ih5 _ _ _ _ _ _ _ _ _ _ _ _ _ _ _ _ _ _ _ _
      | exact ih6 _ _ _ _ _ _ _ _ _ _ _ _ _ _ _ _ _ _ _ _ _
      | exact ih7 _ _ _ _ _ _ _ _ _ _ _ _ _ _ _ _ _ _ _ _ _ _
      | exact lectionarylaw5_Heavy.mono _ _ _ _ _
      | exact lectionaryref0_At.mono _ _ _ _ _
      | exact lectionaryref0_EqElems.mono _ _ _
      | exact LeO.none _
      | refine LeO.ite ?_ ?_
      | refine LeO.bind ?_ (fun _ => ?_)
    · intro y0 y1 y2 y3 y4 y5
      unfold lectionarylaw5_TreeStays.j1
      repeat' first
      | (with_reducible exact ih0 _ _ _ _ _)
      | (with_reducible exact ih1 _ _ _ _ _ _)
      | (with_reducible exact ih2 _ _ _ _ _ _ _)
      | (with_reducible exact ih3 _ _ _ _ _ _ _ _ _)
      | (with_reducible exact ih4 _ _ _ _ _ _ _ _ _ _)
      | (with_reducible exact ih5 _ _ _ _ _ _ _ _ _ _ _ _ _ _ _ _ _ _ _ _)
      | (with_reducible exact ih6 _ _ _ _ _ _ _ _ _ _ _ _ _ _ _ _ _ _ _ _ _)
      | (with_reducible exact ih7 _ _ _ _ _ _ _ _ _ _ _ _ _ _ _ _ _ _ _ _ _ _)
      | (with_reducible exact lectionarylaw5_Heavy.mono _ _ _ _ _)
      | (with_reducible exact lectionaryref0_At.mono _ _ _ _ _)
      | (with_reducible exact lectionaryref0_EqElems.mono _ _ _)
      | (with_reducible exact LeO.refl _)
      | (with_reducible exact LeO.none _)
      | (with_reducible refine LeO.ite ?_ ?_)
      | (with_reducible refine LeO.bind ?_ (fun _ => ?_))
      | exact ih0 _ _ _ _ _
      | exact ih1 _ _ _ _ _ _
      | exact ih2 _ _ _ _ _ _ _
      | exact ih3 _ _ _ _ _ _ _ _ _
      | exact ih4 _ _ _ _ _ _ _ _ _ _
      | exact ih5 _ _ _ _ _ _ _ _ _ _ _ _ _ _ _ _ _ _ _ _
      | exact ih6 _ _ _ _ _ _ _ _ _ _ _ _ _ _ _ _ _ _ _ _ _
      | exact ih7 _ _ _ _ _ _ _ _ _ _ _ _ _ _ _ _ _ _ _ _ _ _
      | exact lectionarylaw5_Heavy.mono _ _ _ _ _
      | exact lectionaryref0_At.mono _ _ _ _ _
      | exact lectionaryref0_EqElems.mono _ _ _
      | exact LeO.none _
      | refine LeO.ite ?_ ?_
      | refine LeO.bind ?_ (fun _ => ?_)
    · intro y0 y1 y2 y3 y4 y5 y6
      unfold lectionarylaw5_TreeStays.l1
      repeat' first
      | (with_reducible exact ih0 _ _ _ _ _)
      | (with_reducible exact ih1 _ _ _ _ _ _)
      | (with_reducible exact ih2 _ _ _ _ _ _ _)
      | (with_reducible exact ih3 _ _ _ _ _ _ _ _ _)
      | (with_reducible exact ih4 _ _ _ _ _ _ _ _ _ _)
      | (with_reducible exact ih5 _ _ _ _ _ _ _ _ _ _ _ _ _ _ _ _ _ _ _ _)
      | (with_reducible exact ih6 _ _ _ _ _ _ _ _ _ _ _ _ _ _ _ _ _ _ _ _ _)
      | (with_reducible exact ih7 _ _ _ _ _ _ _ _ _ _ _ _ _ _ _ _ _ _ _ _ _ _)
      | (with_reducible exact lectionarylaw5_Heavy.mono _ _ _ _ _)
      | (with_reducible exact lectionaryref0_At.mono _ _ _ _ _)
      | (with_reducible exact lectionaryref0_EqElems.mono _ _ _)
      | (with_reducible exact LeO.refl _)
      | (with_reducible exact LeO.none _)
      | (with_reducible refine LeO.ite ?_ ?_)
      | (with_reducible refine LeO.bind ?_ (fun _ => ?_))
      | exact ih0 _ _ _ _ _
      | exact ih1 _ _ _ _ _ _
      | exact ih2 _ _ _ _ _ _ _
      | exact ih3 _ _ _ _ _ _ _ _ _
      | exact ih4 _ _ _ _ _ _ _ _ _ _
      | exact ih5 _ _ _ _ _ _ _ _ _ _ _ _ _ _ _ _ _ _ _ _
      | exact ih6 _ _ _ _ _ _ _ _ _ _ _ _ _ _ _ _ _ _ _ _ _
      | exact ih7 _ _ _ _ _ _ _ _ _ _ _ _ _ _ _ _ _ _ _ _ _ _
      | exact lectionarylaw5_Heavy.mono _ _ _ _ _
      | exact lectionaryref0_At.mono _ _ _ _ _
      | exact lectionaryref0_EqElems.mono _ _ _
      | exact LeO.none _
      | refine LeO.ite ?_ ?_
      | refine LeO.bind ?_ (fun _ => ?_)
    · intro y0 y1 y2 y3 y4 y5 y6 y7 y8
      unfold lectionarylaw5_TreeStays.j3
      repeat' first
      | (with_reducible exact ih0 _ _ _ _ _)
      | (with_reducible exact ih1 _ _ _ _ _ _)
      | (with_reducible exact ih2 _ _ _ _ _ _ _)
      | (with_reducible exact ih3 _ _ _ _ _ _ _ _ _)
      | (with_reducible exact ih4 _ _ _ _ _ _ _ _ _ _)
      | (with_reducible exact ih5 _ _ _ _ _ _ _ _ _ _ _ _ _ _ _ _ _ _ _ _)
      | (with_reducible exact ih6 _ _ _ _ _ _ _ _ _ _ _ _ _ _ _ _ _ _ _ _ _)
      | (with_reducible exact ih7 _ _ _ _ _ _ _ _ _ _ _ _ _ _ _ _ _ _ _ _ _ _)
      | (with_reducible exact lectionarylaw5_Heavy.mono _ _ _ _ _)
      | (with_reducible exact lectionaryref0_At.mono _ _ _ _ _)
      | (with_reducible exact lectionaryref0_EqElems.mono _ _ _)
      | (with_reducible exact LeO.refl _)
      | (with_reducible exact LeO.none _)
      | (with_reducible refine LeO.ite ?_ ?_)
      | (with_reducible refine LeO.bind ?_ (fun _ => ?_))
      | exact ih0 _ _ _ _ _
      | exact ih1 _ _ _ _ _ _
      | exact ih2 _ _ _ _ _ _ _
      | exact ih3 _ _ _ _ _ _ _ _ _
      | exact ih4 _ _ _ _ _ _ _ _ _ _
      | exact ih5 _ _ _ _ _ _ _ _ _ _ _ _ _ _ _ _ _ _ _ _
      | exact ih6 _ _ _ _ _ _ _ _ _ _ _ _ _ _ _ _ _ _ _ _ _
      | exact ih7 _ _ _ _ _ _ _ _ _ _ _ _ _ _ _ _ _ _ _ _ _ _
      | exact lectionarylaw5_Heavy.mono _ _ _ _ _
      | exact lectionaryref0_At.mono _ _ _ _ _
      | exact lectionaryref0_EqElems.mono _ _ _
      | exact LeO.none _
      | refine LeO.ite ?_ ?_
      | refine LeO.bind ?_ (fun _ => ?_)
    · intro y0 y1 y2 y3 y4 y5 y6 y7 y8 y9
      unfold lectionarylaw5_TreeStays.l2
      repeat' first
      | (with_reducible exact ih0 _ _ _ _ _)
      | (with_reducible exact ih1 _ _ _ _ _ _)
      | (with_reducible exact ih2 _ _ _ _ _ _ _)
      | (with_reducible exact ih3 _ _ _ _ _ _ _ _ _)
      | (with_reducible exact ih4 _ _ _ _ _ _ _ _ _ _)
      | (with_reducible exact ih5 _ _ _ _ _ _ _ _ _ _ _ _ _ _ _ _ _ _ _ _)
      | (with_reducible exact ih6 _ _ _ _ _ _ _ _ _ _ _ _ _ _ _ _ _ _ _ _ _)
      | (with_reducible exact ih7 _ _ _ _ _ _ _ _ _ _ _ _ _ _ _ _ _ _ _ _ _ _)
      | (with_reducible exact lectionarylaw5_Heavy.mono _ _ _ _ _)
      | (with_reducible exact lectionaryref0_At.mono _ _ _ _ _)
      | (with_reducible exact lectionaryref0_EqElems.mono _ _ _)
      | (with_reducible exact LeO.refl _)
      | (with_reducible exact LeO.none _)
      | (with_reducible refine LeO.ite ?_ ?_)
      | (with_reducible refine LeO.bind ?_ (fun _ => ?_))
      | exact ih0 _ _ _ _ _
      | exact ih1 _ _ _ _ _ _
      | exact ih2 _ _ _ _ _ _ _
      | exact ih3 _ _ _ _ _ _ _ _ _
      | exact ih4 _ _ _ _ _ _ _ _ _ _
      | exact ih5 _ _ _ _ _ _ _ _ _ _ _ _ _ _ _ _ _ _ _ _
      | exact ih6 _ _ _ _ _ _ _ _ _ _ _ _ _ _ _ _ _ _ _ _ _
      | exact ih7 _ _ _ _ _ _ _ _ _ _ _ _ _ _ _ _ _ _ _ _ _ _
      | exact lectionarylaw5_Heavy.mono _ _ _ _ _
      | exact lectionaryref0_At.mono _ _ _ _ _
      | exact lectionaryref0_EqElems.mono _ _ _
      | exact LeO.none _
      | refine LeO.ite ?_ ?_
      | refine LeO.bind ?_ (fun _ => ?_)
    · intro y0 y1 y2 y3 y4 y5 y6 y7 y8 y9 y10 y11 y12 y13 y14 y15 y16 y17 y18 y19
      unfold lectionarylaw5_TreeStays.j5
      repeat' first
      | (with_reducible exact ih0 _ _ _ _ _)
      | (with_reducible exact ih1 _ _ _ _ _ _)
      | (with_reducible exact ih2 _ _ _ _ _ _ _)
      | (with_reducible exact ih3 _ _ _ _ _ _ _ _ _)
      | (with_reducible exact ih4 _ _ _ _ _ _ _ _ _ _)
      | (with_reducible exact ih5 _ _ _ _ _ _ _ _ _ _ _ _ _ _ _ _ _ _ _ _)
      | (with_reducible exact ih6 _ _ _ _ _ _ _ _ _ _ _ _ _ _ _ _ _ _ _ _ _)
      | (with_reducible exact ih7 _ _ _ _ _ _ _ _ _ _ _ _ _ _ _ _ _ _ _ _ _ _)
      | (with_reducible exact lectionarylaw5_Heavy.mono _ _ _ _ _)
      | (with_reducible exact lectionaryref0_At.mono _ _ _ _ _)
      | (with_reducible exact lectionaryref0_EqElems.mono _ _ _)
      | (with_reducible exact LeO.refl _)
      | (with_reducible exact LeO.none _)
      | (with_reducible refine LeO.ite ?_ ?_)
      | (with_reducible refine LeO.bind ?_ (fun _ => ?_))
      | exact ih0 _ _ _ _ _
      | exact ih1 _ _ _ _ _ _
      | exact ih2 _ _ _ _ _ _ _
      | exact ih3 _ _ _ _ _ _ _ _ _
      | exact ih4 _ _ _ _ _ _ _ _ _ _
      | exact ih5 _ _ _ _ _ _ _ _ _ _ _ _ _ _ _ _ _ _ _ _
      | exact ih6 _ _ _ _ _ _ _ _ _ _ _ _ _ _ _ _ _ _ _ _ _
      | exact ih7 _ _ _ _ _ _ _ _ _ _ _ _ _ _ _ _ _ _ _ _ _ _
      | exact lectionarylaw5_Heavy.mono _ _ _ _ _
      | exact lectionaryref0_At.mono _ _ _ _ _
      | exact lectionaryref0_EqElems.mono _ _ _
      | exact LeO.none _
      | refine LeO.ite ?_ ?_
      | refine LeO.bind ?_ (fun _ => ?_)
    · intro y0 y1 y2 y3 y4 y5 y6 y7 y8 y9 y10 y11 y12 y13 y14 y15 y16 y17 y18 y19 y20
      unfold lectionarylaw5_TreeStays.l3
      repeat' first
      | (with_reducible exact ih0 _ _ _ _ _)
      | (with_reducible exact ih1 _ _ _ _ _ _)
      | (with_reducible exact ih2 _ _ _ _ _ _ _)
      | (with_reducible exact ih3 _ _ _ _ _ _ _ _ _)
      | (with_reducible exact ih4 _ _ _ _ _ _ _ _ _ _)
      | (with_reducible exact ih5 _ _ _ _ _ _ _ _ _ _ _ _ _ _ _ _ _ _ _ _)
      | (with_reducible exact ih6 _ _ _ _ _ _ _ _ _ _ _ _ _ _ _ _ _ _ _ _ _)
      | (with_reducible exact ih7 _ _ _ _ _ _ _ _ _ _ _ _ _ _ _ _ _ _ _ _ _ _)
      | (with_reducible exact lectionarylaw5_Heavy.mono _ _ _ _ _)
      | (with_reducible exact lectionaryref0_At.mono _ _ _ _ _)
      | (with_reducible exact lectionaryref0_EqElems.mono _ _ _)
      | (with_reducible exact LeO.refl _)
      | (with_reducible exact LeO.none _)
      | (with_reducible refine LeO.ite ?_ ?_)
      | (with_reducible refine LeO.bind ?_ (fun _ => ?_))
      | exact ih0 _ _ _ _ _
      | exact ih1 _ _ _ _ _ _
      | exact ih2 _ _ _ _ _ _ _
      | exact ih3 _ _ _ _ _ _ _ _ _
      | exact ih4 _ _ _ _ _ _ _ _ _ _
      | exact ih5 _ _ _ _ _ _ _ _ _ _ _ _ _ _ _ _ _ _ _ _
      | exact ih6 _ _ _ _ _ _ _ _ _ _ _ _ _ _ _ _ _ _ _ _ _
      | exact ih7 _ _ _ _ _ _ _ _ _ _ _ _ _ _ _ _ _ _ _ _ _ _
      | exact lectionarylaw5_Heavy.mono _ _ _ _ _
      | exact lectionaryref0_At.mono _ _ _ _ _
      | exact lectionaryref0_EqElems.mono _ _ _
      | exact LeO.none _
      | refine LeO.ite ?_ ?_
      | refine LeO.bind ?_ (fun _ => ?_)
    · intro y0 y1 y2 y3 y4 y5 y6 y7 y8 y9 y10 y11 y12 y13 y14 y15 y16 y17 y18 y19 y20 y21
      unfold lectionarylaw5_TreeStays.j7
      repeat' first
      | (with_reducible exact ih0 _ _ _ _ _)
      | (with_reducible exact ih1 _ _ _ _ _ _)
      | (with_reducible exact ih2 _ _ _ _ _ _ _)
      | (with_reducible exact ih3 _ _ _ _ _ _ _ _ _)
      | (with_reducible exact ih4 _ _ _ _ _ _ _ _ _ _)
      | (with_reducible exact ih5 _ _ _ _ _ _ _ _ _ _ _ _ _ _ _ _ _ _ _ _)
      | (with_reducible exact ih6 _ _ _ _ _ _ _ _ _ _ _ _ _ _ _ _ _ _ _ _ _)
      | (with_reducible exact ih7 _ _ _ _ _ _ _ _ _ _ _ _ _ _ _ _ _ _ _ _ _ _)
      | (with_reducible exact lectionarylaw5_Heavy.mono _ _ _ _ _)
      | (with_reducible exact lectionaryref0_At.mono _ _ _ _ _)
      | (with_reducible exact lectionaryref0_EqElems.mono _ _ _)
      | (with_reducible exact LeO.refl _)
      | (with_reducible exact LeO.none _)
      | (with_reducible refine LeO.ite ?_ ?_)
      | (with_reducible refine LeO.bind ?_ (fun _ => ?_))
      | exact ih0 _ _ _ _ _
      | exact ih1 _ _ _ _ _ _
      | exact ih2 _ _ _ _ _ _ _
      | exact ih3 _ _ _ _ _ _ _ _ _
      | exact ih4 _ _ _ _ _ _ _ _ _ _
      | exact ih5 _ _ _ _ _ _ _ _ _ _ _ _ _ _ _ _ _ _ _ _
      | exact ih6 _ _ _ _ _ _ _ _ _ _ _ _ _ _ _ _ _ _ _ _ _
      | exact ih7 _ _ _ _ _ _ _ _ _ _ _ _ _ _ _ _ _ _ _ _ _ _
      | exact lectionarylaw5_Heavy.mono _ _ _ _ _
      | exact lectionaryref0_At.mono _ _ _ _ _
      | exact lectionaryref0_EqElems.mono _ _ _
      | exact LeO.none _
      | refine LeO.ite ?_ ?_
      | refine LeO.bind ?_ (fun _ => ?_)
theorem lectionarylaw5_TreeStays.mono : ∀ a0 a1 a2 a3 k, LeO (lectionarylaw5_TreeStays.f k a0 a1 a2 a3) (lectionarylaw5_TreeStays.f (k + 1) a0 a1 a2 a3) := by
  intro a0 a1 a2 a3 k
  obtain ⟨ih0, ih1, ih2, ih3, ih4, ih5, ih6, ih7⟩ := lectionarylaw5_TreeStays.mono_l k
  unfold lectionarylaw5_TreeStays.f
  repeat' first
      | (with_reducible exact ih0 _ _ _ _ _)
      | (with_reducible exact ih1 _ _ _ _ _ _)
      | (with_reducible exact ih2 _ _ _ _ _ _ _)
      | (with_reducible exact ih3 _ _ _ _ _ _ _ _ _)
      | (with_reducible exact ih4 _ _ _ _ _ _ _ _ _ _)
      | (with_reducible exact ih5 _ _ _ _ _ _ _ _ _ _ _ _ _ _ _ _ _ _ _ _)
      | (with_reducible exact ih6 _ _ _ _ _ _ _ _ _ _ _ _ _ _ _ _ _ _ _ _ _)
      | (with_reducible exact ih7 _ _ _ _ _ _ _ _ _ _ _ _ _ _ _ _ _ _ _ _ _ _)
      | (with_reducible exact lectionarylaw5_Heavy.mono _ _ _ _ _)
      | (with_reducible exact lectionaryref0_At.mono _ _ _ _ _)
      | (with_reducible exact lectionaryref0_EqElems.mono _ _ _)
      | (with_reducible exact LeO.refl _)
      | (with_reducible exact LeO.none _)
      | (with_reducible refine LeO.ite ?_ ?_)
      | (with_reducible refine LeO.bind ?_ (fun _ => ?_))
      | exact ih0 _ _ _ _ _
      | exact ih1 _ _ _ _ _ _
      | exact ih2 _ _ _ _ _ _ _
      | exact ih3 _ _ _ _ _ _ _ _ _
      | exact ih4 _ _ _ _ _ _ _ _ _ _
      | exact ih5 _ _ _ _ _ _ _ _ _ _ _ _ _ _ _ _ _ _ _ _
      | exact ih6 _ _ _ _ _ _ _ _ _ _ _ _ _ _ _ _ _ _ _ _ _
      | exact ih7 _ _ _ _ _ _ _ _ _ _ _ _ _ _ _ _ _ _ _ _ _ _
      | exact lectionarylaw5_Heavy.mono _ _ _ _ _
      | exact lectionaryref0_At.mono _ _ _ _ _
      | exact lectionaryref0_EqElems.mono _ _ _
      | exact LeO.none _
      | refine LeO.ite ?_ ?_
      | refine LeO.bind ?_ (fun _ => ?_)
set_option maxHeartbeats 8000000 in
set_option maxRecDepth 100000 in
theorem lectionarylaw5_TreeStays.calls (k : Nat) (A0_0 : Option Addr) (c0_0 : Nat) (l0_0 : List (List (SOp))) (A0_1 : Option Addr) (c0_1 : Nat) (l0_1 : List (SElem)) (A0_2 : Option Addr) (c0_2 : Nat) (l0_2 : List (SOp)) (A0_3 : Option Addr) (c0_3 : Nat) (l0_3 : List Int) (r : Bool) (w : World) (hr0_0 : Kd.C (Kd.slice 39 kOp) w A0_0 l0_0.length l0_0) (hc0_0 : l0_0.length ≤ c0_0) (hr0_1 : Kd.C kElem w A0_1 l0_1.length l0_1) (hc0_1 : l0_1.length ≤ c0_1) (hr0_2 : Kd.C kOp w A0_2 l0_2.length l0_2) (hc0_2 : l0_2.length ≤ c0_2) (hr0_3 : Kd.C (Kd.int .i64) w A0_3 l0_3.length l0_3) (hc0_3 : l0_3.length ≤ c0_3) (h : lectionarylaw5_TreeStays.f k l0_0 l0_1 l0_2 l0_3 = some r) :
    Calls Try.prog 3 #[.agg #[.slice A0_0 l0_0.length c0_0, .slice A0_1 l0_1.length c0_1, .slice A0_2 l0_2.length c0_2, .slice A0_3 l0_3.length c0_3]] w fun e w' => e = .returned (.bool r) ∧ Below w.heap.size w w' := by
  have hu27 := Try.underlying27
  have hu36 := Try.underlying36
  have hu39 := Try.underlying39
  have HR0_0 := Aside0.mk hr0_0
  have HC0_0 := Aside0.mk hc0_0
  clear hr0_0 hc0_0
  have HR0_1 := Aside0.mk hr0_1
  have HC0_1 := Aside0.mk hc0_1
  clear hr0_1 hc0_1
  have HR0_2 := Aside0.mk hr0_2
  have HC0_2 := Aside0.mk hc0_2
  clear hr0_2 hc0_2
  have HR0_3 := Aside0.mk hr0_3
  have HC0_3 := Aside0.mk hc0_3
  clear hr0_3 hc0_3
  have HB := Aside0.mk (Below.refl w.heap.size w)
  have H : ((lectionarylaw5_Heavy.f k l0_0 l0_1 l0_2 l0_3).bind fun t135 => (if t135 = true then (some true) else (lectionarylaw5_TreeStays.l0 k 0 l0_0 l0_1 l0_2 l0_3))) = some r := h
  clear h
  replace H := Option.bind_eq_some_iff.mp H
  obtain ⟨t135, A20, H⟩ := H
  replace H : (if t135 = true then (some true) else (lectionarylaw5_TreeStays.l0 k 0 l0_0 l0_1 l0_2 l0_3)) = some r := H
  have A2 := Aside0.mk A20
  clear A20
  by_cases c3 : t135 = true
  · subst c3
    have H1 : (some true) = some r := by rw [if_pos rfl] at H; exact H
    clear H
    have H := H1
    clear H1
    obtain rfl := Option.some.inj H
    go_enter Try.func3, Try.ntmps3
    go_wp2_with (first | ((with_reducible refine gate_dst (N := 1) rfl ?_); (try (refine gate_guard (by rfl) ?_; dsimp only)); refine box_event ?hg (N := 1) ?hd (cs := #[.slice A0_0 l0_0.length c0_0, .slice A0_1 l0_1.length c0_1, .slice A0_2 l0_2.length c0_2, .slice A0_3 l0_3.length c0_3]) (t := 27) ?hr ?_; (case hd => rfl); (case hg => rfl); (case hr => first | (go_simp; done) | (go_simp; rfl)); intro gb134 hg w4 hbox hb; have n0_ := Aside0.mk (below_step (by repeat (first | (with_reducible first | exact HB.out | apply below_alloc | apply pw_below_drewN | apply below_drew1) | exact HB.out)) hb); have n1_ := Aside0.mk (hbox); have n2_ := Aside0.mk ((by rw [hg]; exact (below_size (by repeat (first | (with_reducible first | exact HB.out | apply below_alloc | apply pw_below_drewN | apply below_drew1) | exact HB.out))) : w.heap.size ≤ gb134)); have n3_ := Aside0.mk ((by rw [hg]; exact (below_size (by repeat (first | (with_reducible first | exact HB.out | apply below_alloc | apply pw_below_drewN | apply below_drew1) | exact HB.out))) : w.heap.size ≤ gb134)); clear HB; have HB := n0_; have BK134 := n1_; have GW134 := n2_; have GE134 := n3_; clear n0_ n1_ n2_ n3_; clear hb hbox hg; have hcz5_0 : w4.cell? ⟨gb134, 0, none⟩ = some (.slice A0_0 l0_0.length c0_0) := (blk_cell BK134.out 0).trans rfl; have hcz5_1 : w4.cell? ⟨gb134, 1, none⟩ = some (.slice A0_1 l0_1.length c0_1) := (blk_cell BK134.out 1).trans rfl; have hcz5_2 : w4.cell? ⟨gb134, 2, none⟩ = some (.slice A0_2 l0_2.length c0_2) := (blk_cell BK134.out 2).trans rfl; have hcz5_3 : w4.cell? ⟨gb134, 3, none⟩ = some (.slice A0_3 l0_3.length c0_3) := (blk_cell BK134.out 3).trans rfl; have hfz5_0 := blk_frozen BK134.out 0; have hfz5_1 := blk_frozen BK134.out 1; have hfz5_2 := blk_frozen BK134.out 2; have hfz5_3 := blk_frozen BK134.out 3) | (go_at_call 8; (with_reducible refine (lectionarylaw5_Heavy.calls k _ _ l0_0 _ _ l0_1 _ _ l0_2 _ _ l0_3 true _ ?side1 ?side2 ?side3 ?side4 ?side5 ?side6 ?side7 ?side8 A2.out).mono ?_); (case side1 => repeat (first | exact (Kd.C_below HR0_0.out HB.out) | (with_reducible refine Kd.C_alloc ?_ _) | (with_reducible refine Kd.C_drewN ?_ _) | (with_reducible refine Kd.C_drew ?_))); (case side2 => exact HC0_0.out); (case side3 => repeat (first | exact (Kd.C_below HR0_1.out HB.out) | (with_reducible refine Kd.C_alloc ?_ _) | (with_reducible refine Kd.C_drewN ?_ _) | (with_reducible refine Kd.C_drew ?_))); (case side4 => exact HC0_1.out); (case side5 => repeat (first | exact (Kd.C_below HR0_2.out HB.out) | (with_reducible refine Kd.C_alloc ?_ _) | (with_reducible refine Kd.C_drewN ?_ _) | (with_reducible refine Kd.C_drew ?_))); (case side6 => exact HC0_2.out); (case side7 => repeat (first | exact (Kd.C_below HR0_3.out HB.out) | (with_reducible refine Kd.C_alloc ?_ _) | (with_reducible refine Kd.C_drewN ?_ _) | (with_reducible refine Kd.C_drew ?_))); (case side8 => exact HC0_3.out); rintro e w6 ⟨rfl, hb⟩; have n0_ := Aside0.mk (blk_below (g := gb134) (o := .cells #[.slice A0_0 l0_0.length c0_0, .slice A0_1 l0_1.length c0_1, .slice A0_2 l0_2.length c0_2, .slice A0_3 l0_3.length c0_3] 27 (0, 0)) (by (with_reducible repeat (first | refine blk_drewN ?_ _ | refine blk_drew ?_ | refine blk_alloc ?_ _)); exact BK134.out) hb); have n1_ := Aside0.mk (below_step (by repeat (first | (with_reducible first | exact HB.out | apply below_alloc | apply pw_below_drewN | apply below_drew1 | refine below_set ?_ GE134.out) | exact HB.out)) hb); clear BK134; clear HB; have BK134 := n0_; have HB := n1_; clear n0_ n1_; (try clear hb); (try clear hb2); (try clear hk); (try clear hi)))
    go_ret
    exact ⟨by first | rfl | (simp [errW_none, errW_some] <;> rfl) | (simp [*, errW_none, errW_some] <;> rfl), by repeat (first | (with_reducible first | exact HB.out | apply below_alloc | apply pw_below_drewN | apply below_drew1 | refine below_set ?_ GE134.out) | exact HB.out)⟩
  · replace c3 := Bool.eq_false_iff.mpr c3
    subst c3
    have H1 : (lectionarylaw5_TreeStays.l0 k 0 l0_0 l0_1 l0_2 l0_3) = some r := by rw [if_neg (show ¬ (false = true) by decide)] at H; exact H
    clear H
    have H := H1
    clear H1
    have H' := Aside0.mk H
    clear H
    go_enter Try.func3, Try.ntmps3
    go_wp2_with (first | ((with_reducible refine gate_dst (N := 1) rfl ?_); (try (refine gate_guard (by rfl) ?_; dsimp only)); refine box_event ?hg (N := 1) ?hd (cs := #[.slice A0_0 l0_0.length c0_0, .slice A0_1 l0_1.length c0_1, .slice A0_2 l0_2.length c0_2, .slice A0_3 l0_3.length c0_3]) (t := 27) ?hr ?_; (case hd => rfl); (case hg => rfl); (case hr => first | (go_simp; done) | (go_simp; rfl)); intro gb134 hg w7 hbox hb; have n0_ := Aside0.mk (below_step (by repeat (first | (with_reducible first | exact HB.out | apply below_alloc | apply pw_below_drewN | apply below_drew1) | exact HB.out)) hb); have n1_ := Aside0.mk (hbox); have n2_ := Aside0.mk ((by rw [hg]; exact (below_size (by repeat (first | (with_reducible first | exact HB.out | apply below_alloc | apply pw_below_drewN | apply below_drew1) | exact HB.out))) : w.heap.size ≤ gb134)); have n3_ := Aside0.mk ((by rw [hg]; exact (below_size (by repeat (first | (with_reducible first | exact HB.out | apply below_alloc | apply pw_below_drewN | apply below_drew1) | exact HB.out))) : w.heap.size ≤ gb134)); clear HB; have HB := n0_; have BK134 := n1_; have GW134 := n2_; have GE134 := n3_; clear n0_ n1_ n2_ n3_; clear hb hbox hg; have hcz8_0 : w7.cell? ⟨gb134, 0, none⟩ = some (.slice A0_0 l0_0.length c0_0) := (blk_cell BK134.out 0).trans rfl; have hcz8_1 : w7.cell? ⟨gb134, 1, none⟩ = some (.slice A0_1 l0_1.length c0_1) := (blk_cell BK134.out 1).trans rfl; have hcz8_2 : w7.cell? ⟨gb134, 2, none⟩ = some (.slice A0_2 l0_2.length c0_2) := (blk_cell BK134.out 2).trans rfl; have hcz8_3 : w7.cell? ⟨gb134, 3, none⟩ = some (.slice A0_3 l0_3.length c0_3) := (blk_cell BK134.out 3).trans rfl; have hfz8_0 := blk_frozen BK134.out 0; have hfz8_1 := blk_frozen BK134.out 1; have hfz8_2 := blk_frozen BK134.out 2; have hfz8_3 := blk_frozen BK134.out 3) | (go_at_call 8; (with_reducible refine (lectionarylaw5_Heavy.calls k _ _ l0_0 _ _ l0_1 _ _ l0_2 _ _ l0_3 false _ ?side1 ?side2 ?side3 ?side4 ?side5 ?side6 ?side7 ?side8 A2.out).mono ?_); (case side1 => repeat (first | exact (Kd.C_below HR0_0.out HB.out) | (with_reducible refine Kd.C_alloc ?_ _) | (with_reducible refine Kd.C_drewN ?_ _) | (with_reducible refine Kd.C_drew ?_))); (case side2 => exact HC0_0.out); (case side3 => repeat (first | exact (Kd.C_below HR0_1.out HB.out) | (with_reducible refine Kd.C_alloc ?_ _) | (with_reducible refine Kd.C_drewN ?_ _) | (with_reducible refine Kd.C_drew ?_))); (case side4 => exact HC0_1.out); (case side5 => repeat (first | exact (Kd.C_below HR0_2.out HB.out) | (with_reducible refine Kd.C_alloc ?_ _) | (with_reducible refine Kd.C_drewN ?_ _) | (with_reducible refine Kd.C_drew ?_))); (case side6 => exact HC0_2.out); (case side7 => repeat (first | exact (Kd.C_below HR0_3.out HB.out) | (with_reducible refine Kd.C_alloc ?_ _) | (with_reducible refine Kd.C_drewN ?_ _) | (with_reducible refine Kd.C_drew ?_))); (case side8 => exact HC0_3.out); rintro e w9 ⟨rfl, hb⟩; have n0_ := Aside0.mk (blk_below (g := gb134) (o := .cells #[.slice A0_0 l0_0.length c0_0, .slice A0_1 l0_1.length c0_1, .slice A0_2 l0_2.length c0_2, .slice A0_3 l0_3.length c0_3] 27 (0, 0)) (by (with_reducible repeat (first | refine blk_drewN ?_ _ | refine blk_drew ?_ | refine blk_alloc ?_ _)); exact BK134.out) hb); have n1_ := Aside0.mk (below_step (by repeat (first | (with_reducible first | exact HB.out | apply below_alloc | apply pw_below_drewN | apply below_drew1 | refine below_set ?_ GE134.out) | exact HB.out)) hb); clear BK134; clear HB; have BK134 := n0_; have HB := n1_; clear n0_ n1_; (try clear hb); (try clear hb2); (try clear hk); (try clear hi)))
    go_loopg [3] k (fun kq v3 w' => ∃ (x3_1 : Int), v3 = .int .i64 x3_1 ∧ Aside0 (lectionarylaw5_TreeStays.l0 kq x3_1 l0_0 l0_1 l0_2 l0_3 = some r) ∧ Aside0 (kq ≤ k) ∧ Aside0 (w'.heap[gb134]? = some (.cells #[(.slice A0_0 l0_0.length c0_0), (.slice A0_1 l0_1.length c0_1), (.slice A0_2 l0_2.length c0_2), (.slice A0_3 l0_3.length c0_3)] 27 (0, 0))) ∧ Aside0 (Below w.heap.size w w'))
    case atStart => exact ⟨(0), (by first | rfl | (simp; done) | (simp [*]; done)), H', ⟨Nat.le_refl _⟩, ⟨by (with_reducible repeat (first | refine blk_drewN ?_ _ | refine blk_drew ?_ | refine blk_alloc ?_ _)); exact BK134.out⟩, ⟨by repeat (first | (with_reducible first | exact HB.out | apply below_alloc | apply pw_below_drewN | apply below_drew1 | refine below_set ?_ GE134.out) | exact HB.out)⟩⟩
    case round =>
      clear H'
      try clear c3; try clear hcz5_0; try clear hcz5_1; try clear hcz5_2; try clear hcz5_3; try clear hcz8_0; try clear hcz8_1; try clear hcz8_2; try clear hcz8_3; try clear hfz5_0; try clear hfz5_1; try clear hfz5_2; try clear hfz5_3; try clear hfz8_0; try clear hfz8_1; try clear hfz8_2; try clear hfz8_3
      obtain ⟨x3_1, rfl, HA, HK1, BK134, HB⟩ := hrel
      cases gk with
      | zero => exact absurd HA.out (by simp [lectionarylaw5_TreeStays.l0])
      | succ k1 =>
        have H := HA.out
        clear HA
        simp only [lectionarylaw5_TreeStays.l0] at H
        have HC10 := Aside0.mk H
        clear H
        go_upto_region 4 with (fail)
        go_cut [23] (fun v23 wc => ∃ (kq : Nat) (x23_9 : Bool), v23 = .bool x23_9 ∧ Aside0 (lectionarylaw5_TreeStays.j1 kq x3_1 x23_9 l0_0 l0_1 l0_2 l0_3 = some r) ∧ Aside0 (kq ≤ k1) ∧ Aside0 (wc.heap[gb134]? = some (.cells #[(.slice A0_0 l0_0.length c0_0), (.slice A0_1 l0_1.length c0_1), (.slice A0_2 l0_2.length c0_2), (.slice A0_3 l0_3.length c0_3)] 27 (0, 0))) ∧ Aside0 (Below w.heap.size w wc))
        case first =>
          have H := HC10.out
          clear HC10
          by_cases c11 : x3_1 < (l0_0.length : Int)
          · rw [if_pos c11] at H
            have c11b0 : decide (x3_1 < (l0_0.length : Int)) = true := decide_eq_true c11
            clear c11
            (first | rw [c11b0] | (simp only [i64_w, i32_w]; rw [c11b0]) | skip)
            have H' := Aside0.mk H
            clear H
            have hcz12_0 : wr.cell? ⟨gb134, 0, none⟩ = some (.slice A0_0 l0_0.length c0_0) := (blk_cell BK134.out 0).trans rfl
            have hcz12_1 : wr.cell? ⟨gb134, 1, none⟩ = some (.slice A0_1 l0_1.length c0_1) := (blk_cell BK134.out 1).trans rfl
            have hcz12_2 : wr.cell? ⟨gb134, 2, none⟩ = some (.slice A0_2 l0_2.length c0_2) := (blk_cell BK134.out 2).trans rfl
            have hcz12_3 : wr.cell? ⟨gb134, 3, none⟩ = some (.slice A0_3 l0_3.length c0_3) := (blk_cell BK134.out 3).trans rfl
            have hfz12_0 := blk_frozen BK134.out 0
            have hfz12_1 := blk_frozen BK134.out 1
            have hfz12_2 := blk_frozen BK134.out 2
            have hfz12_3 := blk_frozen BK134.out 3
            go_wp2
            go_meet
            case rel => exact ⟨_, (decide (x3_1 < 4)), (by first | rfl | (simp; done) | (simp [*]; done)), H', ⟨by have := HK1.out; first | omega | exact Nat.le_refl _⟩, ⟨by (with_reducible repeat (first | refine blk_drewN ?_ _ | refine blk_drew ?_ | refine blk_alloc ?_ _)); exact BK134.out⟩, ⟨by repeat (first | (with_reducible first | exact HB.out | apply below_alloc | apply pw_below_drewN | apply below_drew1 | refine below_set ?_ GE134.out) | exact HB.out)⟩⟩
          · rw [if_neg c11] at H
            have c11b0 : decide (x3_1 < (l0_0.length : Int)) = false := decide_eq_false c11
            clear c11
            (first | rw [c11b0] | (simp only [i64_w, i32_w]; rw [c11b0]) | skip)
            have H' := Aside0.mk H
            clear H
            have hcz13_0 : wr.cell? ⟨gb134, 0, none⟩ = some (.slice A0_0 l0_0.length c0_0) := (blk_cell BK134.out 0).trans rfl
            have hcz13_1 : wr.cell? ⟨gb134, 1, none⟩ = some (.slice A0_1 l0_1.length c0_1) := (blk_cell BK134.out 1).trans rfl
            have hcz13_2 : wr.cell? ⟨gb134, 2, none⟩ = some (.slice A0_2 l0_2.length c0_2) := (blk_cell BK134.out 2).trans rfl
            have hcz13_3 : wr.cell? ⟨gb134, 3, none⟩ = some (.slice A0_3 l0_3.length c0_3) := (blk_cell BK134.out 3).trans rfl
            have hfz13_0 := blk_frozen BK134.out 0
            have hfz13_1 := blk_frozen BK134.out 1
            have hfz13_2 := blk_frozen BK134.out 2
            have hfz13_3 := blk_frozen BK134.out 3
            go_wp2
            go_meet
            case rel => exact ⟨_, (false), (by first | rfl | (simp; done) | (simp [*]; done)), H', ⟨by have := HK1.out; first | omega | exact Nat.le_refl _⟩, ⟨by (with_reducible repeat (first | refine blk_drewN ?_ _ | refine blk_drew ?_ | refine blk_alloc ?_ _)); exact BK134.out⟩, ⟨by repeat (first | (with_reducible first | exact HB.out | apply below_alloc | apply pw_below_drewN | apply below_drew1 | refine below_set ?_ GE134.out) | exact HB.out)⟩⟩
        case rest =>
          clear HC10
          try clear c3; try clear c11; try clear c11b0; try clear hcz12_0; try clear hcz12_1; try clear hcz12_2; try clear hcz12_3; try clear hcz13_0; try clear hcz13_1; try clear hcz13_2; try clear hcz13_3; try clear hcz5_0; try clear hcz5_1; try clear hcz5_2; try clear hcz5_3; try clear hcz8_0; try clear hcz8_1; try clear hcz8_2; try clear hcz8_3; try clear hfz12_0; try clear hfz12_1; try clear hfz12_2; try clear hfz12_3; try clear hfz13_0; try clear hfz13_1; try clear hfz13_2; try clear hfz13_3; try clear hfz5_0; try clear hfz5_1; try clear hfz5_2; try clear hfz5_3; try clear hfz8_0; try clear hfz8_1; try clear hfz8_2; try clear hfz8_3
          obtain ⟨kq, x23_9, rfl, HA, HJ9, BK134, HB⟩ := hcut
          cases kq with
          | zero => exact absurd HA.out (by simp [lectionarylaw5_TreeStays.j1])
          | succ kj9 =>
            have H := HA.out
            clear HA
            simp only [lectionarylaw5_TreeStays.j1] at H
            by_cases c14 : x23_9 = true
            · subst c14
              have H1 : (if 0 ≤ x3_1 then (if x3_1 < (l0_0.length : Int) then ((tree_Check.f (rd_LOp l0_0 x3_1)).bind fun t138 => ((lectionarylaw5_num.f t138).bind fun t139 => (if t139 = 0 then (lectionarylaw5_TreeStays.l1 kj9 x3_1 ([] : List (SElem)) 0 l0_0 l0_1 l0_2 l0_3) else (lectionarylaw5_TreeStays.l0 kj9 (wrap64 (x3_1 + 1)) l0_0 l0_1 l0_2 l0_3)))) else (none)) else (none)) = some r := by rw [if_pos rfl] at H; exact H
              clear H
              have H := H1
              clear H1
              by_cases c15 : 0 ≤ x3_1
              · rw [if_pos c15] at H
                have c15b0 : decide (0 ≤ x3_1) = true := decide_eq_true c15
                clear c15
                by_cases c16 : x3_1 < (l0_0.length : Int)
                · rw [if_pos c16] at H
                  have c16b0 : decide (x3_1 < (l0_0.length : Int)) = true := decide_eq_true c16
                  clear c16
                  replace H := Option.bind_eq_some_iff.mp H
                  obtain ⟨t138, A170, H⟩ := H
                  replace H : ((lectionarylaw5_num.f t138).bind fun t139 => (if t139 = 0 then (lectionarylaw5_TreeStays.l1 kj9 x3_1 ([] : List (SElem)) 0 l0_0 l0_1 l0_2 l0_3) else (lectionarylaw5_TreeStays.l0 kj9 (wrap64 (x3_1 + 1)) l0_0 l0_1 l0_2 l0_3))) = some r := H
                  have A17 := Aside0.mk A170
                  clear A170
                  replace H := Option.bind_eq_some_iff.mp H
                  obtain ⟨t139, A180, H⟩ := H
                  replace H : (if t139 = 0 then (lectionarylaw5_TreeStays.l1 kj9 x3_1 ([] : List (SElem)) 0 l0_0 l0_1 l0_2 l0_3) else (lectionarylaw5_TreeStays.l0 kj9 (wrap64 (x3_1 + 1)) l0_0 l0_1 l0_2 l0_3)) = some r := H
                  have A18 := Aside0.mk A180
                  clear A180
                  by_cases c19 : t139 = 0
                  · rw [if_pos c19] at H
                    have c19b0 : (t139 == 0) = true := beq_iff_eq.mpr c19
                    have c19b1 : (t139 != 0) = false := bne_eq_false_iff_eq.mpr c19
                    clear c19
                    have H' := Aside0.mk H
                    clear H
                    have hcz20_0 : wc.cell? ⟨gb134, 0, none⟩ = some (.slice A0_0 l0_0.length c0_0) := (blk_cell BK134.out 0).trans rfl
                    have hcz20_1 : wc.cell? ⟨gb134, 1, none⟩ = some (.slice A0_1 l0_1.length c0_1) := (blk_cell BK134.out 1).trans rfl
                    have hcz20_2 : wc.cell? ⟨gb134, 2, none⟩ = some (.slice A0_2 l0_2.length c0_2) := (blk_cell BK134.out 2).trans rfl
                    have hcz20_3 : wc.cell? ⟨gb134, 3, none⟩ = some (.slice A0_3 l0_3.length c0_3) := (blk_cell BK134.out 3).trans rfl
                    have hfz20_0 := blk_frozen BK134.out 0
                    have hfz20_1 := blk_frozen BK134.out 1
                    have hfz20_2 := blk_frozen BK134.out 2
                    have hfz20_3 := blk_frozen BK134.out 3
                    have p137 : 0 ≤ (x3_1 : Int) := of_decide_eq_true (by first | (with_reducible assumption) | assumption)
                    have q137 : x3_1 < (l0_0.length : Int) := of_decide_eq_true (by first | (with_reducible assumption) | assumption)
                    obtain ⟨ad137, A137_0, c137_0, e137, hx137_0, hl137_0, hi137_0⟩ := at_LOp HR0_0.out x3_1 p137 q137
                    cases e137
                    replace hx137_0 := (HB.out.cell (World.block_lt_of_cell? w _ hx137_0)).trans hx137_0
                    have HR137_0 := Aside0.mk hi137_0
                    have HC137_0 := Aside0.mk hl137_0
                    clear hi137_0 hl137_0
                    replace p137 := eq_true p137
                    replace q137 := eq_true q137
                    go_wp2_with (first | (go_at_call 10; (with_reducible refine (tree_Check.calls _ _ (rd_LOp l0_0 x3_1) t138 _ ?side1 ?side2 A17.out).mono ?_); (case side1 => repeat (first | exact (Kd.C_below HR137_0.out HB.out) | (with_reducible refine Kd.C_alloc ?_ _) | (with_reducible refine Kd.C_drewN ?_ _) | (with_reducible refine Kd.C_drew ?_))); (case side2 => exact HC137_0.out); rintro e w21 ⟨rfl, hb⟩; have n0_ := Aside0.mk (blk_below (g := gb134) (o := .cells #[.slice (some ad137) l0_0.length c0_0, .slice A0_1 l0_1.length c0_1, .slice A0_2 l0_2.length c0_2, .slice A0_3 l0_3.length c0_3] 27 (0, 0)) (by (with_reducible repeat (first | refine blk_drewN ?_ _ | refine blk_drew ?_ | refine blk_alloc ?_ _)); exact BK134.out) hb); have n1_ := Aside0.mk (below_step (by repeat (first | (with_reducible first | exact HB.out | apply below_alloc | apply pw_below_drewN | apply below_drew1 | refine below_set ?_ GE134.out) | exact HB.out)) hb); clear BK134; clear HB; have BK134 := n0_; have HB := n1_; clear n0_ n1_; (try clear hb); (try clear hb2); (try clear hk); (try clear hi)) | (go_at_call 9; (with_reducible refine (lectionarylaw5_num.calls t138 t139 _ A18.out).mono ?_); rintro e w' ⟨rfl, ⟨nd, rfl⟩⟩; (try first | exact ⟨rfl, _, World.drewN_drewN _ _ _⟩ | exact ⟨rfl, _, Eq.trans (World.drewN_drewN _ _ _) (congrArg (World.drewN _) (Nat.add_assoc _ _ _))⟩)))
                    go_loopg [4, 5] kj9 (fun kq v4 v5 w' => ∃ (x4_3 : List (SElem)) (x5_3 : Int), v5 = .int .i64 x5_3 ∧ Aside0 (lectionarylaw5_TreeStays.l1 kq x3_1 x4_3 x5_3 l0_0 l0_1 l0_2 l0_3 = some r) ∧ Aside0 (kq ≤ kj9) ∧ Aside0 (Kd.R kElem 36 w' w.heap.size (fun _ => True) v4 x4_3) ∧ Aside0 (w'.heap[gb134]? = some (.cells #[(.slice (some ad137) l0_0.length c0_0), (.slice A0_1 l0_1.length c0_1), (.slice A0_2 l0_2.length c0_2), (.slice A0_3 l0_3.length c0_3)] 27 (0, 0))) ∧ Aside0 (Below w.heap.size w w'))
                    case atStart => exact ⟨(([] : List (SElem))), (0), (by first | rfl | (simp; done) | (simp [*]; done)), H', ⟨Nat.le_refl _⟩, ⟨by first | exact Kd.R_nil _ _ _ _ _ | exact Kd.N_nil _ _ _ _ _ | exact Kd.V_nil _ _ _ _ _ | exact Kd.Q_nil _ _ _ _ _ | exact Kd.S_nil _ _ _ _ _⟩, ⟨by (with_reducible repeat (first | refine blk_drewN ?_ _ | refine blk_drew ?_ | refine blk_alloc ?_ _)); exact BK134.out⟩, ⟨by repeat (first | (with_reducible first | exact HB.out | apply below_alloc | apply pw_below_drewN | apply below_drew1 | refine below_set ?_ GE134.out) | exact HB.out)⟩⟩
                    case round =>
                      clear H'
                      try clear c3; try clear c11; try clear c11b0; try clear c14; try clear c15; try clear c15b0; try clear c16; try clear c16b0; try clear c19; try clear c19b0; try clear c19b1; try clear hcz12_0; try clear hcz12_1; try clear hcz12_2; try clear hcz12_3; try clear hcz13_0; try clear hcz13_1; try clear hcz13_2; try clear hcz13_3; try clear hcz20_0; try clear hcz20_1; try clear hcz20_2; try clear hcz20_3; try clear hcz5_0; try clear hcz5_1; try clear hcz5_2; try clear hcz5_3; try clear hcz8_0; try clear hcz8_1; try clear hcz8_2; try clear hcz8_3; try clear hfz12_0; try clear hfz12_1; try clear hfz12_2; try clear hfz12_3; try clear hfz13_0; try clear hfz13_1; try clear hfz13_2; try clear hfz13_3; try clear hfz20_0; try clear hfz20_1; try clear hfz20_2; try clear hfz20_3; try clear hfz5_0; try clear hfz5_1; try clear hfz5_2; try clear hfz5_3; try clear hfz8_0; try clear hfz8_1; try clear hfz8_2; try clear hfz8_3; try clear hx137_0; try clear p137; try clear q137
                      obtain ⟨x4_3, x5_3, rfl, HA, HK3, HO_4, BK134, HB⟩ := hrel
                      cases gk with
                      | zero => exact absurd HA.out (by simp [lectionarylaw5_TreeStays.l1])
                      | succ k3 =>
                        have H := HA.out
                        clear HA
                        simp only [lectionarylaw5_TreeStays.l1] at H
                        by_cases c22 : 0 ≤ x3_1
                        · rw [if_pos c22] at H
                          have c22b0 : decide (0 ≤ x3_1) = true := decide_eq_true c22
                          clear c22
                          by_cases c23 : x3_1 < (l0_0.length : Int)
                          · rw [if_pos c23] at H
                            have c23b0 : decide (x3_1 < (l0_0.length : Int)) = true := decide_eq_true c23
                            clear c23
                            by_cases c24 : x5_3 < ((rd_LOp l0_0 x3_1).length : Int)
                            · rw [if_pos c24] at H
                              have c24b0 : decide (x5_3 < ((rd_LOp l0_0 x3_1).length : Int)) = true := decide_eq_true c24
                              clear c24
                              obtain ⟨ji25, hji25⟩ : ∃ j_ : Int, (wrap64 (x5_3 + 1)) = j_ := ⟨_, rfl⟩
                              replace H : (if 0 ≤ (ji25) then (if (ji25) ≤ ((rd_LOp l0_0 x3_1).length : Int) then ((tree_Order.f ((rd_LOp l0_0 x3_1).take ((ji25) : Int).toNat)).bind fun bt146 => ((lectionarylaw5_num.f bt146.2).bind fun t150 => (if t150 = 0 then (lectionarylaw5_TreeStays.j3 k3 x3_1 x4_3 x5_3 bt146.1 (decide ((bt146.1.length : Int) < (x4_3.length : Int))) l0_0 l0_1 l0_2 l0_3) else (lectionarylaw5_TreeStays.j3 k3 x3_1 x4_3 x5_3 bt146.1 true l0_0 l0_1 l0_2 l0_3)))) else (none)) else (none)) = some r := by first | (rw [hji25] at H; exact H) | (simp only [hji25] at H ⊢; exact H)
                              have hji25w : (IntKind.i64.wrap (x5_3 + 1)) = ji25 := (i64_w _).trans hji25
                              by_cases c26 : 0 ≤ (ji25)
                              · rw [if_pos c26] at H
                                have c26b0 := eq_true c26
                                have c26b1 : decide (0 ≤ (ji25)) = true := decide_eq_true c26
                                clear c26
                                by_cases c27 : (ji25) ≤ ((rd_LOp l0_0 x3_1).length : Int)
                                · rw [if_pos c27] at H
                                  have c27b0 := eq_true c27
                                  have c27b1 : decide ((ji25) ≤ ((rd_LOp l0_0 x3_1).length : Int)) = true := decide_eq_true c27
                                  clear c27
                                  obtain ⟨y142, hy142⟩ : ∃ y_ : List (SOp), y_ = ((rd_LOp l0_0 x3_1).take ((ji25) : Int).toNat) := ⟨_, rfl⟩
                                  replace H : ((tree_Order.f y142).bind fun bt146 => ((lectionarylaw5_num.f bt146.2).bind fun t150 => (if t150 = 0 then (lectionarylaw5_TreeStays.j3 k3 x3_1 x4_3 x5_3 bt146.1 (decide ((bt146.1.length : Int) < (x4_3.length : Int))) l0_0 l0_1 l0_2 l0_3) else (lectionarylaw5_TreeStays.j3 k3 x3_1 x4_3 x5_3 bt146.1 true l0_0 l0_1 l0_2 l0_3)))) = some r := by first | (rw [hy142]; with_reducible exact H) | (have H2_ := (Option.bind_some _ _).symm.trans H; rw [hy142]; with_reducible exact H2_) | (have H2_ := (Option.bind_some _ _).symm.trans H; with_reducible exact H2_) | with_reducible exact H | (rw [hy142]; exact H) | exact H
                                  have Ny142 := Aside0.mk hy142
                                  clear hy142
                                  replace H := Option.bind_eq_some_iff.mp H
                                  obtain ⟨⟨t146, t147⟩, A280, H⟩ := H
                                  replace H : ((lectionarylaw5_num.f t147).bind fun t150 => (if t150 = 0 then (lectionarylaw5_TreeStays.j3 k3 x3_1 x4_3 x5_3 t146 (decide ((t146.length : Int) < (x4_3.length : Int))) l0_0 l0_1 l0_2 l0_3) else (lectionarylaw5_TreeStays.j3 k3 x3_1 x4_3 x5_3 t146 true l0_0 l0_1 l0_2 l0_3))) = some r := H
                                  have A28 := Aside0.mk A280
                                  clear A280
                                  have HC29 := Aside0.mk H
                                  clear H
                                  have hcz30_0 : wr.cell? ⟨gb134, 0, none⟩ = some (.slice (some ad137) l0_0.length c0_0) := (blk_cell BK134.out 0).trans rfl
                                  have hcz30_1 : wr.cell? ⟨gb134, 1, none⟩ = some (.slice A0_1 l0_1.length c0_1) := (blk_cell BK134.out 1).trans rfl
                                  have hcz30_2 : wr.cell? ⟨gb134, 2, none⟩ = some (.slice A0_2 l0_2.length c0_2) := (blk_cell BK134.out 2).trans rfl
                                  have hcz30_3 : wr.cell? ⟨gb134, 3, none⟩ = some (.slice A0_3 l0_3.length c0_3) := (blk_cell BK134.out 3).trans rfl
                                  have hfz30_0 := blk_frozen BK134.out 0
                                  have hfz30_1 := blk_frozen BK134.out 1
                                  have hfz30_2 := blk_frozen BK134.out 2
                                  have hfz30_3 := blk_frozen BK134.out 3
                                  have p140 : 0 ≤ (x3_1 : Int) := of_decide_eq_true (by first | (with_reducible assumption) | assumption)
                                  have q140 : x3_1 < (l0_0.length : Int) := of_decide_eq_true (by first | (with_reducible assumption) | assumption)
                                  obtain ⟨ad140, A140_0, c140_0, e140, hx140_0, hl140_0, hi140_0⟩ := at_LOp HR0_0.out x3_1 p140 q140
                                  obtain rfl : ad137 = ad140 := (by injection e140)
                                  replace hx140_0 := (HB.out.cell (World.block_lt_of_cell? w _ hx140_0)).trans hx140_0
                                  have HR140_0 := Aside0.mk hi140_0
                                  have HC140_0 := Aside0.mk hl140_0
                                  clear hi140_0 hl140_0
                                  replace p140 := eq_true p140
                                  replace q140 := eq_true q140
                                  have p141 : 0 ≤ (x3_1 : Int) := of_decide_eq_true (by first | (with_reducible assumption) | assumption)
                                  have q141 : x3_1 < (l0_0.length : Int) := of_decide_eq_true (by first | (with_reducible assumption) | assumption)
                                  obtain ⟨ad141, A141_0, c141_0, e141, hx141_0, hl141_0, hi141_0⟩ := at_LOp HR0_0.out x3_1 p141 q141
                                  obtain rfl : ad137 = ad141 := (by injection e141)
                                  replace hx141_0 := (HB.out.cell (World.block_lt_of_cell? w _ hx141_0)).trans hx141_0
                                  have HR141_0 := Aside0.mk hi141_0
                                  have HC141_0 := Aside0.mk hl141_0
                                  clear hi141_0 hl141_0
                                  replace p141 := eq_true p141
                                  replace q141 := eq_true q141
                                  have ea_ := Option.some.inj (hx140_0.symm.trans hx141_0)
                                  injection ea_ with ea_ en_ ec_
                                  subst ea_
                                  subst ec_
                                  clear en_
                                  have q31 : ((ji25) : Int) ≤ (((rd_LOp l0_0 x3_1).length : Int) : Int) := of_decide_eq_true (by first | (with_reducible assumption) | assumption)
                                  obtain ⟨i031, hi031, _, hsz31, _⟩ := info_parts info39
                                  have hroom31 : (rd_LOp l0_0 x3_1).length ≤ c140_0 := HC141_0.out
                                  have hC31 : Kd.C kOp _ A140_0 (rd_LOp l0_0 x3_1).length (rd_LOp l0_0 x3_1) := HR141_0.out
                                  have hcut31 := cut_to (P := Try.prog) 24 39 .i64 Try.underlying24 hi031 A140_0 (rd_LOp l0_0 x3_1).length c140_0 (ji25) (of_decide_eq_true (by first | (with_reducible assumption) | assumption)) q31 hroom31
                                  have hr31 := Kd.C_take (m := ((ji25) : Int).toNat) hC31 (by omega)
                                  have hy31 : y142.length = ((ji25) : Int).toNat := (by rw [Ny142.out, List.length_take]; omega)
                                  rw [← Ny142.out] at hr31
                                  rw [← hy31] at hcut31
                                  have HR145 := Aside0.mk hr31
                                  have HC145 := Aside0.mk (show y142.length ≤ c140_0 from by omega)
                                  clear hr31 hC31 hroom31 hi031 hsz31
                                  have KY31 := Aside0.mk hy31
                                  clear hy31
                                  replace q31 := eq_true q31
                                  go_upto_region 12 with (first | (go_at_call 11; (with_reducible refine (tree_Order.calls _ _ y142 t146 t147 _ ?side1 ?side2 A28.out).mono ?_); (case side1 => repeat (first | exact (Kd.C_below HR145.out HB.out) | (with_reducible refine Kd.C_alloc ?_ _) | (with_reducible refine Kd.C_drewN ?_ _) | (with_reducible refine Kd.C_drew ?_))); (case side2 => exact HC145.out); rintro e w32 ⟨v148, rfl, ho0, hb⟩; have n0_ := Aside0.mk (Kd.R_elder' (by (with_reducible repeat (first | apply Kd.R_alloc | apply Kd.R_drewN | apply Kd.R_drew)); exact HO_4.out) (Kd.R_base ho0) hb); have n1_ := Aside0.mk (Kd.R_lower (Kd.R_new' ho0 (Kd.R_lt (by (with_reducible repeat (first | apply Kd.R_alloc | apply Kd.R_drewN | apply Kd.R_drew)); exact HO_4.out))) (below_size (by repeat (first | (with_reducible first | exact HB.out | apply below_alloc | apply pw_below_drewN | apply below_drew1 | refine below_set ?_ GE134.out) | exact HB.out)))); have n2_ := Aside0.mk (blk_below (g := gb134) (o := .cells #[.slice (some ad137) l0_0.length c0_0, .slice A0_1 l0_1.length c0_1, .slice A0_2 l0_2.length c0_2, .slice A0_3 l0_3.length c0_3] 27 (0, 0)) (by (with_reducible repeat (first | refine blk_drewN ?_ _ | refine blk_drew ?_ | refine blk_alloc ?_ _)); exact BK134.out) hb); have n3_ := Aside0.mk (below_step (by repeat (first | (with_reducible first | exact HB.out | apply below_alloc | apply pw_below_drewN | apply below_drew1 | refine below_set ?_ GE134.out) | exact HB.out)) hb); clear HO_4; clear BK134; clear HB; have HO_4 := n0_; have HO149 := n1_; have BK134 := n2_; have HB := n3_; clear n0_ n1_ n2_ n3_; (try clear hb); (try clear hb2); (try clear hk); (try clear hi); (try clear ho0)))
                                  (try simp only [Act.put, List.setIfInBounds_toArray, List.set_cons_zero, List.set_cons_succ])
                                  go_cut [65] (fun v65 wc => ∃ (kq : Nat) (x65_28 : Bool), v65 = .bool x65_28 ∧ Aside0 (lectionarylaw5_TreeStays.j3 kq x3_1 x4_3 x5_3 t146 x65_28 l0_0 l0_1 l0_2 l0_3 = some r) ∧ Aside0 (kq ≤ k3) ∧ Aside0 (Kd.R kElem 36 wc w.heap.size (fun k_ => some k_ ≠ (v148 : Value).ownBlock) u4 x4_3) ∧ Aside0 (Kd.R kElem 36 wc w.heap.size (fun k_ => some k_ ≠ (u4 : Value).ownBlock) v148 t146) ∧ Aside0 (wc.heap[gb134]? = some (.cells #[(.slice (some ad137) l0_0.length c0_0), (.slice A0_1 l0_1.length c0_1), (.slice A0_2 l0_2.length c0_2), (.slice A0_3 l0_3.length c0_3)] 27 (0, 0))) ∧ Aside0 (Below w.heap.size w wc))
                                  case first =>
                                    have H := HC29.out
                                    clear HC29
                                    replace H := Option.bind_eq_some_iff.mp H
                                    obtain ⟨t150, A330, H⟩ := H
                                    replace H : (if t150 = 0 then (lectionarylaw5_TreeStays.j3 k3 x3_1 x4_3 x5_3 t146 (decide ((t146.length : Int) < (x4_3.length : Int))) l0_0 l0_1 l0_2 l0_3) else (lectionarylaw5_TreeStays.j3 k3 x3_1 x4_3 x5_3 t146 true l0_0 l0_1 l0_2 l0_3)) = some r := H
                                    have A33 := Aside0.mk A330
                                    clear A330
                                    by_cases c34 : t150 = 0
                                    · rw [if_pos c34] at H
                                      have c34b0 : (t150 == 0) = true := beq_iff_eq.mpr c34
                                      have c34b1 : (t150 != 0) = false := bne_eq_false_iff_eq.mpr c34
                                      clear c34
                                      (first | rw [c34b0] | (simp only [i64_w, i32_w]; rw [c34b0]) | skip)
                                      have H' := Aside0.mk H
                                      clear H
                                      go_wp2_with (first | (go_at_call 9; (with_reducible refine (lectionarylaw5_num.calls t147 t150 _ A33.out).mono ?_); rintro e w' ⟨rfl, ⟨nd, rfl⟩⟩; (try first | exact ⟨rfl, _, World.drewN_drewN _ _ _⟩ | exact ⟨rfl, _, Eq.trans (World.drewN_drewN _ _ _) (congrArg (World.drewN _) (Nat.add_assoc _ _ _))⟩); obtain ⟨Ao35, co35, eo35⟩ := Kd.R_slice HO149.out; subst eo35; obtain ⟨Ao36, co36, eo36⟩ := Kd.R_slice HO_4.out; subst eo36))
                                      go_meet
                                      case rel => exact ⟨_, (decide ((t146.length : Int) < (x4_3.length : Int))), (by first | rfl | (simp; done) | (simp [*]; done)), H', ⟨by have := HK1.out; have := HJ9.out; have := HK3.out; first | omega | exact Nat.le_refl _⟩, ⟨by (with_reducible repeat (first | apply Kd.R_alloc | apply Kd.R_drewN | apply Kd.R_drew)); exact Kd.R_mono HO_4.out (fun _ hk => hk.2)⟩, ⟨by (with_reducible repeat (first | apply Kd.R_alloc | apply Kd.R_drewN | apply Kd.R_drew)); exact Kd.R_mono HO149.out (fun _ hk => hk.2)⟩, ⟨by (with_reducible repeat (first | refine blk_drewN ?_ _ | refine blk_drew ?_ | refine blk_alloc ?_ _)); exact BK134.out⟩, ⟨by repeat (first | (with_reducible first | exact HB.out | apply below_alloc | apply pw_below_drewN | apply below_drew1 | refine below_set ?_ GE134.out) | exact HB.out)⟩⟩
                                    · rw [if_neg c34] at H
                                      have c34b0 : (t150 == 0) = false := beq_eq_false_iff_ne.mpr c34
                                      have c34b1 : (t150 != 0) = true := bne_iff_ne.mpr c34
                                      (first | rw [c34b0] | (simp only [i64_w, i32_w]; rw [c34b0]) | skip)
                                      have H' := Aside0.mk H
                                      clear H
                                      go_wp2_with (first | (go_at_call 9; (with_reducible refine (lectionarylaw5_num.calls t147 t150 _ A33.out).mono ?_); rintro e w' ⟨rfl, ⟨nd, rfl⟩⟩; (try first | exact ⟨rfl, _, World.drewN_drewN _ _ _⟩ | exact ⟨rfl, _, Eq.trans (World.drewN_drewN _ _ _) (congrArg (World.drewN _) (Nat.add_assoc _ _ _))⟩)))
                                      go_meet
                                      case rel => exact ⟨_, (true), (by first | rfl | (simp; done) | (simp [*]; done)), H', ⟨by have := HK1.out; have := HJ9.out; have := HK3.out; first | omega | exact Nat.le_refl _⟩, ⟨by (with_reducible repeat (first | apply Kd.R_alloc | apply Kd.R_drewN | apply Kd.R_drew)); exact Kd.R_mono HO_4.out (fun _ hk => hk.2)⟩, ⟨by (with_reducible repeat (first | apply Kd.R_alloc | apply Kd.R_drewN | apply Kd.R_drew)); exact Kd.R_mono HO149.out (fun _ hk => hk.2)⟩, ⟨by (with_reducible repeat (first | refine blk_drewN ?_ _ | refine blk_drew ?_ | refine blk_alloc ?_ _)); exact BK134.out⟩, ⟨by repeat (first | (with_reducible first | exact HB.out | apply below_alloc | apply pw_below_drewN | apply below_drew1 | refine below_set ?_ GE134.out) | exact HB.out)⟩⟩
                                  case rest =>
                                    clear HC29
                                    try clear c3; try clear c11; try clear c11b0; try clear c14; try clear c15; try clear c15b0; try clear c16; try clear c16b0; try clear c19; try clear c19b0; try clear c19b1; try clear c22; try clear c22b0; try clear c23; try clear c23b0; try clear c24; try clear c24b0; try clear c26; try clear c26b0; try clear c26b1; try clear c27; try clear c27b0; try clear c27b1; try clear q31; try clear c34; try clear c34b0; try clear c34b1; try clear hcz12_0; try clear hcz12_1; try clear hcz12_2; try clear hcz12_3; try clear hcz13_0; try clear hcz13_1; try clear hcz13_2; try clear hcz13_3; try clear hcz20_0; try clear hcz20_1; try clear hcz20_2; try clear hcz20_3; try clear hcz30_0; try clear hcz30_1; try clear hcz30_2; try clear hcz30_3; try clear hcz5_0; try clear hcz5_1; try clear hcz5_2; try clear hcz5_3; try clear hcz8_0; try clear hcz8_1; try clear hcz8_2; try clear hcz8_3; try clear hfz12_0; try clear hfz12_1; try clear hfz12_2; try clear hfz12_3; try clear hfz13_0; try clear hfz13_1; try clear hfz13_2; try clear hfz13_3; try clear hfz20_0; try clear hfz20_1; try clear hfz20_2; try clear hfz20_3; try clear hfz30_0; try clear hfz30_1; try clear hfz30_2; try clear hfz30_3; try clear hfz5_0; try clear hfz5_1; try clear hfz5_2; try clear hfz5_3; try clear hfz8_0; try clear hfz8_1; try clear hfz8_2; try clear hfz8_3; try clear hx137_0; try clear hx140_0; try clear hx141_0; try clear p137; try clear p140; try clear p141; try clear q137; try clear q140; try clear q141; try clear q31
                                    obtain ⟨kq, x65_28, rfl, HA, HJ28, HO_4, HO_6, BK134, HB⟩ := hcut
                                    cases kq with
                                    | zero => exact absurd HA.out (by simp [lectionarylaw5_TreeStays.j3])
                                    | succ kj28 =>
                                      have H := HA.out
                                      clear HA
                                      simp only [lectionarylaw5_TreeStays.j3] at H
                                      by_cases c37 : x65_28 = true
                                      · subst c37
                                        have H1 : (some false) = some r := by rw [if_pos rfl] at H; exact H
                                        clear H
                                        have H := H1
                                        clear H1
                                        obtain rfl := Option.some.inj H
                                        go_wp2
                                        go_ret
                                        exact ⟨by first | rfl | (simp [errW_none, errW_some] <;> rfl) | (simp only [← hji25]; first | rfl | (simp [errW_none, errW_some] <;> rfl)) | (simp [*, errW_none, errW_some] <;> rfl), by repeat (first | (with_reducible first | exact HB.out | apply below_alloc | apply pw_below_drewN | apply below_drew1 | refine below_set ?_ GE134.out) | exact HB.out)⟩
                                      · replace c37 := Bool.eq_false_iff.mpr c37
                                        subst c37
                                        have H1 : (lectionarylaw5_TreeStays.l2 kj28 x3_1 x4_3 x5_3 t146 ([] : List (SElem)) 0 l0_0 l0_1 l0_2 l0_3) = some r := by rw [if_neg (show ¬ (false = true) by decide)] at H; exact H
                                        clear H
                                        have H := H1
                                        clear H1
                                        have H' := Aside0.mk H
                                        clear H
                                        go_wp2
                                        go_loopg [8, 9] kj28 (fun kq v8 v9 w' => ∃ (x8_5 : List (SElem)) (x9_5 : Int), v9 = .int .i64 x9_5 ∧ Aside0 (lectionarylaw5_TreeStays.l2 kq x3_1 x4_3 x5_3 t146 x8_5 x9_5 l0_0 l0_1 l0_2 l0_3 = some r) ∧ Aside0 (kq ≤ kj28) ∧ Aside0 (Kd.R kElem 36 w' w.heap.size (fun k_ => some k_ ≠ (v148 : Value).ownBlock ∧ some k_ ≠ (v8 : Value).ownBlock) u4 x4_3) ∧ Aside0 (Kd.R kElem 36 w' w.heap.size (fun k_ => some k_ ≠ (u4 : Value).ownBlock ∧ some k_ ≠ (v8 : Value).ownBlock) v148 t146) ∧ Aside0 (Kd.R kElem 36 w' w.heap.size (fun k_ => some k_ ≠ (u4 : Value).ownBlock ∧ some k_ ≠ (v148 : Value).ownBlock) v8 x8_5) ∧ Aside0 (w'.heap[gb134]? = some (.cells #[(.slice (some ad137) l0_0.length c0_0), (.slice A0_1 l0_1.length c0_1), (.slice A0_2 l0_2.length c0_2), (.slice A0_3 l0_3.length c0_3)] 27 (0, 0))) ∧ Aside0 (Below w.heap.size w w'))
                                        case atStart => exact ⟨(([] : List (SElem))), (0), (by first | rfl | (simp; done) | (simp [*]; done)), H', ⟨Nat.le_refl _⟩, ⟨by (with_reducible repeat (first | apply Kd.R_alloc | apply Kd.R_drewN | apply Kd.R_drew)); exact Kd.R_mono HO_4.out (fun _ hk => ⟨hk, (by simp [Value.ownBlock])⟩)⟩, ⟨by (with_reducible repeat (first | apply Kd.R_alloc | apply Kd.R_drewN | apply Kd.R_drew)); exact Kd.R_mono HO_6.out (fun _ hk => ⟨hk, (by simp [Value.ownBlock])⟩)⟩, ⟨by first | exact Kd.R_nil _ _ _ _ _ | exact Kd.N_nil _ _ _ _ _ | exact Kd.V_nil _ _ _ _ _ | exact Kd.Q_nil _ _ _ _ _ | exact Kd.S_nil _ _ _ _ _⟩, ⟨by (with_reducible repeat (first | refine blk_drewN ?_ _ | refine blk_drew ?_ | refine blk_alloc ?_ _)); exact BK134.out⟩, ⟨by repeat (first | (with_reducible first | exact HB.out | apply below_alloc | apply pw_below_drewN | apply below_drew1 | refine below_set ?_ GE134.out) | exact HB.out)⟩⟩
                                        case round =>
                                          clear H'
                                          try clear c3; try clear c11; try clear c11b0; try clear c14; try clear c15; try clear c15b0; try clear c16; try clear c16b0; try clear c19; try clear c19b0; try clear c19b1; try clear c22; try clear c22b0; try clear c23; try clear c23b0; try clear c24; try clear c24b0; try clear c26; try clear c26b0; try clear c26b1; try clear c27; try clear c27b0; try clear c27b1; try clear q31; try clear c34; try clear c34b0; try clear c34b1; try clear c37; try clear hcz12_0; try clear hcz12_1; try clear hcz12_2; try clear hcz12_3; try clear hcz13_0; try clear hcz13_1; try clear hcz13_2; try clear hcz13_3; try clear hcz20_0; try clear hcz20_1; try clear hcz20_2; try clear hcz20_3; try clear hcz30_0; try clear hcz30_1; try clear hcz30_2; try clear hcz30_3; try clear hcz5_0; try clear hcz5_1; try clear hcz5_2; try clear hcz5_3; try clear hcz8_0; try clear hcz8_1; try clear hcz8_2; try clear hcz8_3; try clear hfz12_0; try clear hfz12_1; try clear hfz12_2; try clear hfz12_3; try clear hfz13_0; try clear hfz13_1; try clear hfz13_2; try clear hfz13_3; try clear hfz20_0; try clear hfz20_1; try clear hfz20_2; try clear hfz20_3; try clear hfz30_0; try clear hfz30_1; try clear hfz30_2; try clear hfz30_3; try clear hfz5_0; try clear hfz5_1; try clear hfz5_2; try clear hfz5_3; try clear hfz8_0; try clear hfz8_1; try clear hfz8_2; try clear hfz8_3; try clear hx137_0; try clear hx140_0; try clear hx141_0; try clear p137; try clear p140; try clear p141; try clear q137; try clear q140; try clear q141; try clear q31
                                          obtain ⟨x8_5, x9_5, rfl, HA, HK5, HO_4, HO_6, HO_8, BK134, HB⟩ := hrel
                                          cases gk with
                                          | zero => exact absurd HA.out (by simp [lectionarylaw5_TreeStays.l2])
                                          | succ k5 =>
                                            have H := HA.out
                                            clear HA
                                            simp only [lectionarylaw5_TreeStays.l2] at H
                                            by_cases c38 : x9_5 < (t146.length : Int)
                                            · rw [if_pos c38] at H
                                              have c38b0 : decide (x9_5 < (t146.length : Int)) = true := decide_eq_true c38
                                              clear c38
                                              by_cases c39 : 0 ≤ x9_5
                                              · rw [if_pos c39] at H
                                                have c39b0 : decide (0 ≤ x9_5) = true := decide_eq_true c39
                                                clear c39
                                                replace H := Option.bind_eq_some_iff.mp H
                                                obtain ⟨t152, A400, H⟩ := H
                                                replace H : (if t152 ≥ 0 then (if x8_5.length < 5864062014805 then (lectionarylaw5_TreeStays.l2 k5 x3_1 x4_3 x5_3 t146 (x8_5 ++ [(⟨(rd_Elem t146 x9_5).f0, (rd_Elem t146 x9_5).f1, (rd_Elem t146 x9_5).f2⟩ : SElem)]) (wrap64 (x9_5 + 1)) l0_0 l0_1 l0_2 l0_3) else (none)) else (lectionarylaw5_TreeStays.l2 k5 x3_1 x4_3 x5_3 t146 x8_5 (wrap64 (x9_5 + 1)) l0_0 l0_1 l0_2 l0_3)) = some r := H
                                                have A40 := Aside0.mk A400
                                                clear A400
                                                by_cases c41 : t152 ≥ 0
                                                · rw [if_pos c41] at H
                                                  have c41b0 : decide (0 ≤ t152) = true := decide_eq_true c41
                                                  clear c41
                                                  by_cases c42 : x8_5.length < 5864062014805
                                                  · rw [if_pos c42] at H
                                                    have LMc42 := Aside0.mk c42
                                                    clear c42
                                                    obtain ⟨y154, hy154⟩ : ∃ y_ : List (SElem), y_ = (x8_5 ++ [(⟨(rd_Elem t146 x9_5).f0, (rd_Elem t146 x9_5).f1, (rd_Elem t146 x9_5).f2⟩ : SElem)]) := ⟨_, rfl⟩
                                                    replace H : (lectionarylaw5_TreeStays.l2 k5 x3_1 x4_3 x5_3 t146 y154 (wrap64 (x9_5 + 1)) l0_0 l0_1 l0_2 l0_3) = some r := by first | (rw [hy154]; with_reducible exact H) | (have H2_ := (Option.bind_some _ _).symm.trans H; rw [hy154]; with_reducible exact H2_) | (have H2_ := (Option.bind_some _ _).symm.trans H; with_reducible exact H2_) | with_reducible exact H | (rw [hy154]; exact H) | exact H
                                                    have Ny154 := Aside0.mk hy154
                                                    clear hy154
                                                    have H' := Aside0.mk H
                                                    clear H
                                                    obtain ⟨Ao43, co43, eo43⟩ := Kd.R_slice HO_6.out
                                                    subst eo43
                                                    have p151 : 0 ≤ (x9_5 : Int) := of_decide_eq_true (by first | (with_reducible assumption) | assumption)
                                                    have q151 : x9_5 < (t146.length : Int) := of_decide_eq_true (by first | (with_reducible assumption) | assumption)
                                                    obtain ⟨ad151, e151, hx151_0, hx151_1, hx151_2⟩ := at_Elem (Kd.R_reads' HO_6.out).2.2 x9_5 p151 q151
                                                    cases e151
                                                    replace p151 := eq_true p151
                                                    replace q151 := eq_true q151
                                                    obtain ⟨Ao44, co44, eo44⟩ := Kd.R_slice HO_4.out
                                                    subst eo44
                                                    go_wp2_with (first | (go_at_call 12; (with_reducible refine (lectionaryref0_At.calls k5 _ _ x4_3 ((rd_Elem t146 x9_5).f0) ((rd_Elem t146 x9_5).f1) ((rd_Elem t146 x9_5).f2) t152 _ ?side1 ?side2 A40.out).mono ?_); (case side1 => repeat (first | exact (Kd.R_reads' HO_4.out).2.2 | (with_reducible refine Kd.C_alloc ?_ _) | (with_reducible refine Kd.C_drewN ?_ _) | (with_reducible refine Kd.C_drew ?_))); (case side2 => exact (Kd.R_reads' HO_4.out).2.1); rintro e w45 ⟨rfl, hb⟩; have n0_ := Aside0.mk (Kd.R_below (by (with_reducible repeat (first | apply Kd.R_alloc | apply Kd.R_drewN | apply Kd.R_drew)); exact HO_4.out) hb); have n1_ := Aside0.mk (Kd.R_below (by (with_reducible repeat (first | apply Kd.R_alloc | apply Kd.R_drewN | apply Kd.R_drew)); exact HO_6.out) hb); have n2_ := Aside0.mk (Kd.R_below (by (with_reducible repeat (first | apply Kd.R_alloc | apply Kd.R_drewN | apply Kd.R_drew)); exact HO_8.out) hb); have n3_ := Aside0.mk (blk_below (g := gb134) (o := .cells #[.slice (some ad137) l0_0.length c0_0, .slice A0_1 l0_1.length c0_1, .slice A0_2 l0_2.length c0_2, .slice A0_3 l0_3.length c0_3] 27 (0, 0)) (by (with_reducible repeat (first | refine blk_drewN ?_ _ | refine blk_drew ?_ | refine blk_alloc ?_ _)); exact BK134.out) hb); have n4_ := Aside0.mk (below_step (by repeat (first | (with_reducible first | exact HB.out | apply below_alloc | apply pw_below_drewN | apply below_drew1 | refine below_set ?_ GE134.out) | exact HB.out)) hb); clear HO_4; clear HO_6; clear HO_8; clear BK134; clear HB; have HO_4 := n0_; have HO_6 := n1_; have HO_8 := n2_; have BK134 := n3_; have HB := n4_; clear n0_ n1_ n2_ n3_ n4_; (try clear hb); (try clear hb2); (try clear hk); (try clear hi); have p153 : 0 ≤ (x9_5 : Int) := of_decide_eq_true (by first | (with_reducible assumption) | assumption); have q153 : x9_5 < (t146.length : Int) := of_decide_eq_true (by first | (with_reducible assumption) | assumption); obtain ⟨ad153, e153, hx153_0, hx153_1, hx153_2⟩ := at_Elem (Kd.R_reads' HO_6.out).2.2 x9_5 p153 q153; obtain rfl : ad151 = ad153 := (by injection e153); replace p153 := eq_true p153; replace q153 := eq_true q153) | ((with_reducible refine gate_builtin (b := .append) (xs := #[.tmp 79, .tmp 84]) rfl ?_); (try (refine gate_guard (by rfl) ?_; dsimp only)); at_builtin; refine Kd.R_append kElem (w0 := w) w.heap.size rfl (.tmp 79) (.tmp 84) 23 36 (.agg #[(.int .i64 0), (.int .i64 0), (.int .i64 0)]) 24 rfl Try.underlying23 info36 rfl (by decide) (by omega) u8 x8_5 (⟨(rd_Elem t146 x9_5).f0, (rd_Elem t146 x9_5).f1, (rd_Elem t146 x9_5).f2⟩ : SElem) [.int .i64 ((rd_Elem t146 x9_5).f0), .int .i64 ((rd_Elem t146 x9_5).f1), .int .i64 ((rd_Elem t146 x9_5).f2)] (fun k_ => some k_ ≠ (.slice Ao44 x4_3.length co44 : Value).ownBlock ∧ some k_ ≠ (.slice (some ad151) t146.length co43 : Value).ownBlock) (fun _ => False) rfl rfl ?aP (fun _ hk => hk.elim) ?aF ?aO ?aB ?aS ?aL ?_; (case aP => exact kElem_mkM _ _ _ (⟨(rd_Elem t146 x9_5).f0, (rd_Elem t146 x9_5).f1, (rd_Elem t146 x9_5).f2⟩ : SElem)); (case aB => exact (by repeat (first | (with_reducible first | exact HB.out | apply below_alloc | apply pw_below_drewN | apply below_drew1 | refine below_set ?_ GE134.out) | exact HB.out))); (case aF => exact (fun k_ hk => ⟨Kd.fresh' (Kd.R_lt (by (with_reducible repeat (first | apply Kd.R_alloc | apply Kd.R_drewN | apply Kd.R_drew)); exact HO_4.out)) k_ hk, Kd.fresh' (Kd.R_lt (by (with_reducible repeat (first | apply Kd.R_alloc | apply Kd.R_drewN | apply Kd.R_drew)); exact HO_6.out)) k_ hk⟩)); (case aO => exact (by (with_reducible repeat (first | apply Kd.R_alloc | apply Kd.R_drewN | apply Kd.R_drew)); exact HO_8.out)); (case aS => exact (below_size (by repeat (first | (with_reducible first | exact HB.out | apply below_alloc | apply pw_below_drewN | apply below_drew1 | refine below_set ?_ GE134.out) | exact HB.out)))); (case aL => have := LMc42.out; omega); intro v155 w46 ho hb hg hat; rw [← Ny154.out] at ho; have n0_ := Aside0.mk (Kd.R_after (ok := (fun k_ => some k_ ≠ (.slice (some ad151) t146.length co43 : Value).ownBlock)) (by (with_reducible repeat (first | apply Kd.R_alloc | apply Kd.R_drewN | apply Kd.R_drew)); exact HO_4.out) hg hat); have n1_ := Aside0.mk (Kd.R_after (ok := (fun k_ => some k_ ≠ (.slice Ao44 x4_3.length co44 : Value).ownBlock)) (by (with_reducible repeat (first | apply Kd.R_alloc | apply Kd.R_drewN | apply Kd.R_drew)); exact HO_6.out) hg hat); have n2_ := Aside0.mk (blk_grown (g := gb134) (o := .cells #[.slice (some ad137) l0_0.length c0_0, .slice A0_1 l0_1.length c0_1, .slice A0_2 l0_2.length c0_2, .slice A0_3 l0_3.length c0_3] 27 (0, 0)) (by (with_reducible repeat (first | refine blk_drewN ?_ _ | refine blk_drew ?_ | refine blk_alloc ?_ _)); exact BK134.out) hg (Kd.R_ne HO_8.out BK134.out (by decide))); have n3_ := Aside0.mk (hb); have n4_ := Aside0.mk (ho); clear HO_4; clear HO_6; clear BK134; clear HB; clear HO_8; have HO_4 := n0_; have HO_6 := n1_; have BK134 := n2_; have HB := n3_; have HO156 := n4_; clear n0_ n1_ n2_ n3_ n4_; clear ho hb hg hat))
                                                    go_roundg k5
                                                    case measure => have := HK1.out; have := HJ9.out; have := HK3.out; have := HJ28.out; have := HK5.out; omega
                                                    case rel => exact ⟨(y154), (wrap64 (x9_5 + 1)), (by first | rfl | (simp; done) | (simp [*]; done)), H', ⟨by have := HK1.out; have := HJ9.out; have := HK3.out; have := HJ28.out; have := HK5.out; omega⟩, ⟨by (with_reducible repeat (first | apply Kd.R_alloc | apply Kd.R_drewN | apply Kd.R_drew)); exact HO_4.out⟩, ⟨by (with_reducible repeat (first | apply Kd.R_alloc | apply Kd.R_drewN | apply Kd.R_drew)); exact HO_6.out⟩, ⟨by (with_reducible repeat (first | apply Kd.R_alloc | apply Kd.R_drewN | apply Kd.R_drew)); exact HO156.out⟩, ⟨by (with_reducible repeat (first | refine blk_drewN ?_ _ | refine blk_drew ?_ | refine blk_alloc ?_ _)); exact BK134.out⟩, ⟨by repeat (first | (with_reducible first | exact HB.out | apply below_alloc | apply pw_below_drewN | apply below_drew1 | refine below_set ?_ GE134.out) | exact HB.out)⟩⟩
                                                  · rw [if_neg c42] at H
                                                    exact absurd H (by simp)
                                                · rw [if_neg c41] at H
                                                  have c41b0 : decide (0 ≤ t152) = false := decide_eq_false c41
                                                  clear c41
                                                  have H' := Aside0.mk H
                                                  clear H
                                                  obtain ⟨Ao47, co47, eo47⟩ := Kd.R_slice HO_6.out
                                                  subst eo47
                                                  have p151 : 0 ≤ (x9_5 : Int) := of_decide_eq_true (by first | (with_reducible assumption) | assumption)
                                                  have q151 : x9_5 < (t146.length : Int) := of_decide_eq_true (by first | (with_reducible assumption) | assumption)
                                                  obtain ⟨ad151, e151, hx151_0, hx151_1, hx151_2⟩ := at_Elem (Kd.R_reads' HO_6.out).2.2 x9_5 p151 q151
                                                  cases e151
                                                  replace p151 := eq_true p151
                                                  replace q151 := eq_true q151
                                                  obtain ⟨Ao48, co48, eo48⟩ := Kd.R_slice HO_4.out
                                                  subst eo48
                                                  go_wp2_with (first | (go_at_call 12; (with_reducible refine (lectionaryref0_At.calls k5 _ _ x4_3 ((rd_Elem t146 x9_5).f0) ((rd_Elem t146 x9_5).f1) ((rd_Elem t146 x9_5).f2) t152 _ ?side1 ?side2 A40.out).mono ?_); (case side1 => repeat (first | exact (Kd.R_reads' HO_4.out).2.2 | (with_reducible refine Kd.C_alloc ?_ _) | (with_reducible refine Kd.C_drewN ?_ _) | (with_reducible refine Kd.C_drew ?_))); (case side2 => exact (Kd.R_reads' HO_4.out).2.1); rintro e w49 ⟨rfl, hb⟩; have n0_ := Aside0.mk (Kd.R_below (by (with_reducible repeat (first | apply Kd.R_alloc | apply Kd.R_drewN | apply Kd.R_drew)); exact HO_4.out) hb); have n1_ := Aside0.mk (Kd.R_below (by (with_reducible repeat (first | apply Kd.R_alloc | apply Kd.R_drewN | apply Kd.R_drew)); exact HO_6.out) hb); have n2_ := Aside0.mk (Kd.R_below (by (with_reducible repeat (first | apply Kd.R_alloc | apply Kd.R_drewN | apply Kd.R_drew)); exact HO_8.out) hb); have n3_ := Aside0.mk (blk_below (g := gb134) (o := .cells #[.slice (some ad137) l0_0.length c0_0, .slice A0_1 l0_1.length c0_1, .slice A0_2 l0_2.length c0_2, .slice A0_3 l0_3.length c0_3] 27 (0, 0)) (by (with_reducible repeat (first | refine blk_drewN ?_ _ | refine blk_drew ?_ | refine blk_alloc ?_ _)); exact BK134.out) hb); have n4_ := Aside0.mk (below_step (by repeat (first | (with_reducible first | exact HB.out | apply below_alloc | apply pw_below_drewN | apply below_drew1 | refine below_set ?_ GE134.out) | exact HB.out)) hb); clear HO_4; clear HO_6; clear HO_8; clear BK134; clear HB; have HO_4 := n0_; have HO_6 := n1_; have HO_8 := n2_; have BK134 := n3_; have HB := n4_; clear n0_ n1_ n2_ n3_ n4_; (try clear hb); (try clear hb2); (try clear hk); (try clear hi)))
                                                  go_roundg k5
                                                  case measure => have := HK1.out; have := HJ9.out; have := HK3.out; have := HJ28.out; have := HK5.out; omega
                                                  case rel => exact ⟨(x8_5), (wrap64 (x9_5 + 1)), (by first | rfl | (simp; done) | (simp [*]; done)), H', ⟨by have := HK1.out; have := HJ9.out; have := HK3.out; have := HJ28.out; have := HK5.out; omega⟩, ⟨by (with_reducible repeat (first | apply Kd.R_alloc | apply Kd.R_drewN | apply Kd.R_drew)); exact HO_4.out⟩, ⟨by (with_reducible repeat (first | apply Kd.R_alloc | apply Kd.R_drewN | apply Kd.R_drew)); exact HO_6.out⟩, ⟨by (with_reducible repeat (first | apply Kd.R_alloc | apply Kd.R_drewN | apply Kd.R_drew)); exact HO_8.out⟩, ⟨by (with_reducible repeat (first | refine blk_drewN ?_ _ | refine blk_drew ?_ | refine blk_alloc ?_ _)); exact BK134.out⟩, ⟨by repeat (first | (with_reducible first | exact HB.out | apply below_alloc | apply pw_below_drewN | apply below_drew1 | refine below_set ?_ GE134.out) | exact HB.out)⟩⟩
                                              · rw [if_neg c39] at H
                                                exact absurd H (by simp)
                                            · rw [if_neg c38] at H
                                              have c38b0 : decide (x9_5 < (t146.length : Int)) = false := decide_eq_false c38
                                              clear c38
                                              replace H := Option.bind_eq_some_iff.mp H
                                              obtain ⟨t157, A500, H⟩ := H
                                              replace H : (if t157 = true then (if 0 ≤ x3_1 then (if x3_1 < (l0_0.length : Int) then (if 0 ≤ x5_3 then (if x5_3 < ((rd_LOp l0_0 x3_1).length : Int) then (if ((rd_Op (rd_LOp l0_0 x3_1) x5_3).f4).toList = ([] : List UInt8) then (lectionarylaw5_TreeStays.l1 k5 x3_1 t146 (wrap64 (x5_3 + 1)) l0_0 l0_1 l0_2 l0_3) else (if (!(((rd_Op (rd_LOp l0_0 x3_1) x5_3).f3.f0) == 0) || (!(((rd_Op (rd_LOp l0_0 x3_1) x5_3).f3.f1) == 0) || (!(((rd_Op (rd_LOp l0_0 x3_1) x5_3).f3.f2) == 0)))) = true then ((lectionaryref0_At.f k5 t146 ((rd_Op (rd_LOp l0_0 x3_1) x5_3).f3.f0) ((rd_Op (rd_LOp l0_0 x3_1) x5_3).f3.f1) ((rd_Op (rd_LOp l0_0 x3_1) x5_3).f3.f2)).bind fun t161 => (if (wrap64 (t161 + 1)) = 0 then (some false) else (lectionarylaw5_TreeStays.j5 k5 x3_1 x4_3 x5_3 t146 (wrap64 (t161 + 1)) l0_0 l0_1 l0_2 l0_3 ((rd_Op (rd_LOp l0_0 x3_1) x5_3).f0) ((rd_Op (rd_LOp l0_0 x3_1) x5_3).f1) ((rd_Op (rd_LOp l0_0 x3_1) x5_3).f2) ((rd_Op (rd_LOp l0_0 x3_1) x5_3).f3.f0) ((rd_Op (rd_LOp l0_0 x3_1) x5_3).f3.f1) ((rd_Op (rd_LOp l0_0 x3_1) x5_3).f3.f2) ((rd_Op (rd_LOp l0_0 x3_1) x5_3).f4) ((rd_Op (rd_LOp l0_0 x3_1) x5_3).f5) ((rd_Op (rd_LOp l0_0 x3_1) x5_3).f6) ((rd_Op (rd_LOp l0_0 x3_1) x5_3).f7) ((rd_Op (rd_LOp l0_0 x3_1) x5_3).f8)))) else (lectionarylaw5_TreeStays.j5 k5 x3_1 x4_3 x5_3 t146 0 l0_0 l0_1 l0_2 l0_3 ((rd_Op (rd_LOp l0_0 x3_1) x5_3).f0) ((rd_Op (rd_LOp l0_0 x3_1) x5_3).f1) ((rd_Op (rd_LOp l0_0 x3_1) x5_3).f2) ((rd_Op (rd_LOp l0_0 x3_1) x5_3).f3.f0) ((rd_Op (rd_LOp l0_0 x3_1) x5_3).f3.f1) ((rd_Op (rd_LOp l0_0 x3_1) x5_3).f3.f2) ((rd_Op (rd_LOp l0_0 x3_1) x5_3).f4) ((rd_Op (rd_LOp l0_0 x3_1) x5_3).f5) ((rd_Op (rd_LOp l0_0 x3_1) x5_3).f6) ((rd_Op (rd_LOp l0_0 x3_1) x5_3).f7) ((rd_Op (rd_LOp l0_0 x3_1) x5_3).f8)))) else (none)) else (none)) else (none)) else (none)) else (some false)) = some r := H
                                              have A50 := Aside0.mk A500
                                              clear A500
                                              by_cases c51 : t157 = true
                                              · subst c51
                                                have H1 : (if 0 ≤ x3_1 then (if x3_1 < (l0_0.length : Int) then (if 0 ≤ x5_3 then (if x5_3 < ((rd_LOp l0_0 x3_1).length : Int) then (if ((rd_Op (rd_LOp l0_0 x3_1) x5_3).f4).toList = ([] : List UInt8) then (lectionarylaw5_TreeStays.l1 k5 x3_1 t146 (wrap64 (x5_3 + 1)) l0_0 l0_1 l0_2 l0_3) else (if (!(((rd_Op (rd_LOp l0_0 x3_1) x5_3).f3.f0) == 0) || (!(((rd_Op (rd_LOp l0_0 x3_1) x5_3).f3.f1) == 0) || (!(((rd_Op (rd_LOp l0_0 x3_1) x5_3).f3.f2) == 0)))) = true then ((lectionaryref0_At.f k5 t146 ((rd_Op (rd_LOp l0_0 x3_1) x5_3).f3.f0) ((rd_Op (rd_LOp l0_0 x3_1) x5_3).f3.f1) ((rd_Op (rd_LOp l0_0 x3_1) x5_3).f3.f2)).bind fun t161 => (if (wrap64 (t161 + 1)) = 0 then (some false) else (lectionarylaw5_TreeStays.j5 k5 x3_1 x4_3 x5_3 t146 (wrap64 (t161 + 1)) l0_0 l0_1 l0_2 l0_3 ((rd_Op (rd_LOp l0_0 x3_1) x5_3).f0) ((rd_Op (rd_LOp l0_0 x3_1) x5_3).f1) ((rd_Op (rd_LOp l0_0 x3_1) x5_3).f2) ((rd_Op (rd_LOp l0_0 x3_1) x5_3).f3.f0) ((rd_Op (rd_LOp l0_0 x3_1) x5_3).f3.f1) ((rd_Op (rd_LOp l0_0 x3_1) x5_3).f3.f2) ((rd_Op (rd_LOp l0_0 x3_1) x5_3).f4) ((rd_Op (rd_LOp l0_0 x3_1) x5_3).f5) ((rd_Op (rd_LOp l0_0 x3_1) x5_3).f6) ((rd_Op (rd_LOp l0_0 x3_1) x5_3).f7) ((rd_Op (rd_LOp l0_0 x3_1) x5_3).f8)))) else (lectionarylaw5_TreeStays.j5 k5 x3_1 x4_3 x5_3 t146 0 l0_0 l0_1 l0_2 l0_3 ((rd_Op (rd_LOp l0_0 x3_1) x5_3).f0) ((rd_Op (rd_LOp l0_0 x3_1) x5_3).f1) ((rd_Op (rd_LOp l0_0 x3_1) x5_3).f2) ((rd_Op (rd_LOp l0_0 x3_1) x5_3).f3.f0) ((rd_Op (rd_LOp l0_0 x3_1) x5_3).f3.f1) ((rd_Op (rd_LOp l0_0 x3_1) x5_3).f3.f2) ((rd_Op (rd_LOp l0_0 x3_1) x5_3).f4) ((rd_Op (rd_LOp l0_0 x3_1) x5_3).f5) ((rd_Op (rd_LOp l0_0 x3_1) x5_3).f6) ((rd_Op (rd_LOp l0_0 x3_1) x5_3).f7) ((rd_Op (rd_LOp l0_0 x3_1) x5_3).f8)))) else (none)) else (none)) else (none)) else (none)) = some r := by rw [if_pos rfl] at H; exact H
                                                clear H
                                                have H := H1
                                                clear H1
                                                by_cases c52 : 0 ≤ x3_1
                                                · rw [if_pos c52] at H
                                                  have c52b0 : decide (0 ≤ x3_1) = true := decide_eq_true c52
                                                  clear c52
                                                  by_cases c53 : x3_1 < (l0_0.length : Int)
                                                  · rw [if_pos c53] at H
                                                    have c53b0 : decide (x3_1 < (l0_0.length : Int)) = true := decide_eq_true c53
                                                    clear c53
                                                    by_cases c54 : 0 ≤ x5_3
                                                    · rw [if_pos c54] at H
                                                      have c54b0 : decide (0 ≤ x5_3) = true := decide_eq_true c54
                                                      clear c54
                                                      by_cases c55 : x5_3 < ((rd_LOp l0_0 x3_1).length : Int)
                                                      · rw [if_pos c55] at H
                                                        have c55b0 : decide (x5_3 < ((rd_LOp l0_0 x3_1).length : Int)) = true := decide_eq_true c55
                                                        clear c55
                                                        by_cases c56 : ((rd_Op (rd_LOp l0_0 x3_1) x5_3).f4).toList = ([] : List UInt8)
                                                        · rw [if_pos c56] at H
                                                          have c56b0 : (((rd_Op (rd_LOp l0_0 x3_1) x5_3).f4).toList == ([] : List UInt8)) = true := beq_iff_eq.mpr c56
                                                          have c56b1 : (((rd_Op (rd_LOp l0_0 x3_1) x5_3).f4).toList != ([] : List UInt8)) = false := bne_eq_false_iff_eq.mpr c56
                                                          clear c56
                                                          have H' := Aside0.mk H
                                                          clear H
                                                          obtain ⟨Ao57, co57, eo57⟩ := Kd.R_slice HO_6.out
                                                          subst eo57
                                                          obtain ⟨Ao58, co58, eo58⟩ := Kd.R_slice HO_8.out
                                                          subst eo58
                                                          obtain ⟨Ao59, co59, eo59⟩ := Kd.R_slice HO_4.out
                                                          subst eo59
                                                          go_wp2_with (first | (go_at_call 13; (with_reducible refine (lectionaryref0_EqElems.calls k5 _ _ x8_5 _ _ x4_3 true _ ?side1 ?side2 ?side3 ?side4 A50.out).mono ?_); (case side1 => repeat (first | exact (Kd.R_reads' HO_8.out).2.2 | (with_reducible refine Kd.C_alloc ?_ _) | (with_reducible refine Kd.C_drewN ?_ _) | (with_reducible refine Kd.C_drew ?_))); (case side2 => exact (Kd.R_reads' HO_8.out).2.1); (case side3 => repeat (first | exact (Kd.R_reads' HO_4.out).2.2 | (with_reducible refine Kd.C_alloc ?_ _) | (with_reducible refine Kd.C_drewN ?_ _) | (with_reducible refine Kd.C_drew ?_))); (case side4 => exact (Kd.R_reads' HO_4.out).2.1); rintro e w' ⟨rfl, ⟨nd, rfl⟩⟩; (try first | exact ⟨rfl, _, World.drewN_drewN _ _ _⟩ | exact ⟨rfl, _, Eq.trans (World.drewN_drewN _ _ _) (congrArg (World.drewN _) (Nat.add_assoc _ _ _))⟩); have hcz60_0 : wr.cell? ⟨gb134, 0, none⟩ = some (.slice (some ad137) l0_0.length c0_0) := (blk_cell BK134.out 0).trans rfl; have hcz60_1 : wr.cell? ⟨gb134, 1, none⟩ = some (.slice A0_1 l0_1.length c0_1) := (blk_cell BK134.out 1).trans rfl; have hcz60_2 : wr.cell? ⟨gb134, 2, none⟩ = some (.slice A0_2 l0_2.length c0_2) := (blk_cell BK134.out 2).trans rfl; have hcz60_3 : wr.cell? ⟨gb134, 3, none⟩ = some (.slice A0_3 l0_3.length c0_3) := (blk_cell BK134.out 3).trans rfl; have hfz60_0 := blk_frozen BK134.out 0; have hfz60_1 := blk_frozen BK134.out 1; have hfz60_2 := blk_frozen BK134.out 2; have hfz60_3 := blk_frozen BK134.out 3; have p158 : 0 ≤ (x3_1 : Int) := of_decide_eq_true (by first | (with_reducible assumption) | assumption); have q158 : x3_1 < (l0_0.length : Int) := of_decide_eq_true (by first | (with_reducible assumption) | assumption); obtain ⟨ad158, A158_0, c158_0, e158, hx158_0, hl158_0, hi158_0⟩ := at_LOp HR0_0.out x3_1 p158 q158; obtain rfl : ad137 = ad158 := (by injection e158); replace hx158_0 := (HB.out.cell (World.block_lt_of_cell? w _ hx158_0)).trans hx158_0; have HR158_0 := Aside0.mk hi158_0; have HC158_0 := Aside0.mk hl158_0; clear hi158_0 hl158_0; replace p158 := eq_true p158; replace q158 := eq_true q158; have p159 : 0 ≤ (x5_3 : Int) := of_decide_eq_true (by first | (with_reducible assumption) | assumption); have q159 : x5_3 < ((rd_LOp l0_0 x3_1).length : Int) := of_decide_eq_true (by first | (with_reducible assumption) | assumption); obtain ⟨ad159, A159_7, c159_7, e159, hx159_0, hx159_1, hx159_2, hx159_3, hx159_4, hx159_5, hx159_6, hx159_7, hx159_8, hx159_9, hx159_10, hl159_7, hi159_7⟩ := at_Op HR158_0.out x5_3 p159 q159; cases e159; replace hx159_0 := (HB.out.cell (World.block_lt_of_cell? w _ hx159_0)).trans hx159_0; replace hx159_1 := (HB.out.cell (World.block_lt_of_cell? w _ hx159_1)).trans hx159_1; replace hx159_2 := (HB.out.cell (World.block_lt_of_cell? w _ hx159_2)).trans hx159_2; replace hx159_3 := (HB.out.cell (World.block_lt_of_cell? w _ hx159_3)).trans hx159_3; replace hx159_4 := (HB.out.cell (World.block_lt_of_cell? w _ hx159_4)).trans hx159_4; replace hx159_5 := (HB.out.cell (World.block_lt_of_cell? w _ hx159_5)).trans hx159_5; replace hx159_6 := (HB.out.cell (World.block_lt_of_cell? w _ hx159_6)).trans hx159_6; replace hx159_7 := (HB.out.cell (World.block_lt_of_cell? w _ hx159_7)).trans hx159_7; replace hx159_8 := (HB.out.cell (World.block_lt_of_cell? w _ hx159_8)).trans hx159_8; replace hx159_9 := (HB.out.cell (World.block_lt_of_cell? w _ hx159_9)).trans hx159_9; replace hx159_10 := (HB.out.cell (World.block_lt_of_cell? w _ hx159_10)).trans hx159_10; have HR159_7 := Aside0.mk hi159_7; have HC159_7 := Aside0.mk hl159_7; clear hi159_7 hl159_7; replace p159 := eq_true p159; replace q159 := eq_true q159) | ((with_reducible refine gate_dst (N := 10) rfl ?_); (try (refine gate_guard (by rfl) ?_; dsimp only)); refine box_event ?hg (N := 10) ?hd (cs := #[.int .i64 0, .int .i64 0, .int .i64 0, .int .i64 0, .int .i64 0, .int .i64 0, .string (⟨#[]⟩ : ByteArray), .slice none 0 0, .int .i64 0, .int .i64 0, .int .i64 0]) (t := 39) ?hr ?_; (case hd => rfl); (case hg => rfl); (case hr => first | (go_simp; done) | (go_simp; rfl)); intro gb160 hg w61 hbox hb; have n0_ := Aside0.mk (Kd.R_below (by (with_reducible repeat (first | apply Kd.R_alloc | apply Kd.R_drewN | apply Kd.R_drew)); exact HO_4.out) hb); have n1_ := Aside0.mk (Kd.R_below (by (with_reducible repeat (first | apply Kd.R_alloc | apply Kd.R_drewN | apply Kd.R_drew)); exact HO_6.out) hb); have n2_ := Aside0.mk (Kd.R_below (by (with_reducible repeat (first | apply Kd.R_alloc | apply Kd.R_drewN | apply Kd.R_drew)); exact HO_8.out) hb); have n3_ := Aside0.mk (blk_below (g := gb134) (o := .cells #[.slice (some ad137) l0_0.length c0_0, .slice A0_1 l0_1.length c0_1, .slice A0_2 l0_2.length c0_2, .slice A0_3 l0_3.length c0_3] 27 (0, 0)) (by (with_reducible repeat (first | refine blk_drewN ?_ _ | refine blk_drew ?_ | refine blk_alloc ?_ _)); exact BK134.out) hb); have n4_ := Aside0.mk (below_step (by repeat (first | (with_reducible first | exact HB.out | apply below_alloc | apply pw_below_drewN | apply below_drew1 | refine below_set ?_ GE134.out) | exact HB.out)) hb); have n5_ := Aside0.mk (hbox); have n6_ := Aside0.mk ((by rw [hg]; exact (below_size (by repeat (first | (with_reducible first | exact HB.out | apply below_alloc | apply pw_below_drewN | apply below_drew1 | refine below_set ?_ GE134.out) | exact HB.out))) : w.heap.size ≤ gb160)); have n7_ := Aside0.mk ((by rw [hg]; exact (below_size (by repeat (first | (with_reducible first | exact HB.out | apply below_alloc | apply pw_below_drewN | apply below_drew1 | refine below_set ?_ GE134.out) | exact HB.out))) : w.heap.size ≤ gb160)); have n8_ := Aside0.mk ((by rw [hg]; exact Nat.ne_of_lt (blk_lt (g := gb134) (o := .cells #[.slice (some ad137) l0_0.length c0_0, .slice A0_1 l0_1.length c0_1, .slice A0_2 l0_2.length c0_2, .slice A0_3 l0_3.length c0_3] 27 (0, 0)) (by (with_reducible repeat (first | refine blk_drewN ?_ _ | refine blk_drew ?_ | refine blk_alloc ?_ _)); exact BK134.out)) : gb134 ≠ gb160)); have n9_ := Aside0.mk ((by rw [hg]; exact Nat.ne_of_gt (blk_lt (g := gb134) (o := .cells #[.slice (some ad137) l0_0.length c0_0, .slice A0_1 l0_1.length c0_1, .slice A0_2 l0_2.length c0_2, .slice A0_3 l0_3.length c0_3] 27 (0, 0)) (by (with_reducible repeat (first | refine blk_drewN ?_ _ | refine blk_drew ?_ | refine blk_alloc ?_ _)); exact BK134.out)) : gb160 ≠ gb134)); clear HO_4; clear HO_6; clear HO_8; clear BK134; clear HB; have HO_4 := n0_; have HO_6 := n1_; have HO_8 := n2_; have BK134 := n3_; have HB := n4_; have BK160 := n5_; have GW160 := n6_; have GE160 := n7_; have NB134_160 := n8_; have NB160_134 := n9_; clear n0_ n1_ n2_ n3_ n4_ n5_ n6_ n7_ n8_ n9_; clear hb hbox hg; have hnb62 := NB160_134.out; have hnc62 := NB134_160.out; have hcz63_0 : w61.cell? ⟨gb160, 0, none⟩ = some (.int .i64 0) := (blk_cell BK160.out 0).trans rfl; have hcz63_1 : w61.cell? ⟨gb160, 1, none⟩ = some (.int .i64 0) := (blk_cell BK160.out 1).trans rfl; have hcz63_2 : w61.cell? ⟨gb160, 2, none⟩ = some (.int .i64 0) := (blk_cell BK160.out 2).trans rfl; have hcz63_3 : w61.cell? ⟨gb160, 3, none⟩ = some (.int .i64 0) := (blk_cell BK160.out 3).trans rfl; have hcz63_4 : w61.cell? ⟨gb160, 4, none⟩ = some (.int .i64 0) := (blk_cell BK160.out 4).trans rfl; have hcz63_5 : w61.cell? ⟨gb160, 5, none⟩ = some (.int .i64 0) := (blk_cell BK160.out 5).trans rfl; have hcz63_6 : w61.cell? ⟨gb160, 6, none⟩ = some (.string (⟨#[]⟩ : ByteArray)) := (blk_cell BK160.out 6).trans rfl; have hcz63_7 : w61.cell? ⟨gb160, 7, none⟩ = some (.slice none 0 0) := (blk_cell BK160.out 7).trans rfl; have hcz63_8 : w61.cell? ⟨gb160, 8, none⟩ = some (.int .i64 0) := (blk_cell BK160.out 8).trans rfl; have hcz63_9 : w61.cell? ⟨gb160, 9, none⟩ = some (.int .i64 0) := (blk_cell BK160.out 9).trans rfl; have hcz63_10 : w61.cell? ⟨gb160, 10, none⟩ = some (.int .i64 0) := (blk_cell BK160.out 10).trans rfl; have hfz63_0 := blk_frozen BK160.out 0; have hfz63_1 := blk_frozen BK160.out 1; have hfz63_2 := blk_frozen BK160.out 2; have hfz63_3 := blk_frozen BK160.out 3; have hfz63_4 := blk_frozen BK160.out 4; have hfz63_5 := blk_frozen BK160.out 5; have hfz63_6 := blk_frozen BK160.out 6; have hfz63_7 := blk_frozen BK160.out 7; have hfz63_8 := blk_frozen BK160.out 8; have hfz63_9 := blk_frozen BK160.out 9; have hfz63_10 := blk_frozen BK160.out 10))
                                                          go_roundg k5
                                                          case measure => have := HK1.out; have := HJ9.out; have := HK3.out; have := HJ28.out; have := HK5.out; omega
                                                          case rel => exact ⟨(t146), (wrap64 (x5_3 + 1)), (by first | rfl | (simp; done) | (simp [*]; done)), H', ⟨by have := HK1.out; have := HJ9.out; have := HK3.out; have := HJ28.out; have := HK5.out; omega⟩, ⟨by (with_reducible repeat (first | apply Kd.R_alloc | apply Kd.R_drewN | apply Kd.R_drew)); exact Kd.R_mono (Kd.R_far (p := ⟨gb160, 10, none⟩) (Kd.R_far (p := ⟨gb160, 9, none⟩) (Kd.R_far (p := ⟨gb160, 8, none⟩) (Kd.R_far (p := ⟨gb160, 7, none⟩) (Kd.R_far (p := ⟨gb160, 6, none⟩) (Kd.R_far (p := ⟨gb160, 5, none⟩) (Kd.R_far (p := ⟨gb160, 4, none⟩) (Kd.R_far (p := ⟨gb160, 3, none⟩) (Kd.R_far (p := ⟨gb160, 2, none⟩) (Kd.R_far (p := ⟨gb160, 1, none⟩) (Kd.R_far (p := ⟨gb160, 0, none⟩) (Kd.R_types HO_6.out BK160.out (by decide)) (fun _ hk => hk.2) (.int .i64 ((rd_Op (rd_LOp l0_0 x3_1) x5_3).f0))) (fun _ hk => hk.2) (.int .i64 ((rd_Op (rd_LOp l0_0 x3_1) x5_3).f1))) (fun _ hk => hk.2) (.int .i64 ((rd_Op (rd_LOp l0_0 x3_1) x5_3).f2))) (fun _ hk => hk.2) (.int .i64 ((rd_Op (rd_LOp l0_0 x3_1) x5_3).f3.f0))) (fun _ hk => hk.2) (.int .i64 ((rd_Op (rd_LOp l0_0 x3_1) x5_3).f3.f1))) (fun _ hk => hk.2) (.int .i64 ((rd_Op (rd_LOp l0_0 x3_1) x5_3).f3.f2))) (fun _ hk => hk.2) (.string ((rd_Op (rd_LOp l0_0 x3_1) x5_3).f4))) (fun _ hk => hk.2) (.slice A159_7 ((rd_Op (rd_LOp l0_0 x3_1) x5_3).f5).length c159_7)) (fun _ hk => hk.2) (.int .i64 ((rd_Op (rd_LOp l0_0 x3_1) x5_3).f6))) (fun _ hk => hk.2) (.int .i64 ((rd_Op (rd_LOp l0_0 x3_1) x5_3).f7))) (fun _ hk => hk.2) (.int .i64 ((rd_Op (rd_LOp l0_0 x3_1) x5_3).f8))) (fun _ hk => trivial)⟩, ⟨by (with_reducible repeat (first | refine blk_drewN ?_ _ | refine blk_drew ?_ | refine blk_alloc ?_ _)); refine blk_far ?_ NB134_160.out _; (with_reducible repeat (first | refine blk_drewN ?_ _ | refine blk_drew ?_ | refine blk_alloc ?_ _)); refine blk_far ?_ NB134_160.out _; (with_reducible repeat (first | refine blk_drewN ?_ _ | refine blk_drew ?_ | refine blk_alloc ?_ _)); refine blk_far ?_ NB134_160.out _; (with_reducible repeat (first | refine blk_drewN ?_ _ | refine blk_drew ?_ | refine blk_alloc ?_ _)); refine blk_far ?_ NB134_160.out _; (with_reducible repeat (first | refine blk_drewN ?_ _ | refine blk_drew ?_ | refine blk_alloc ?_ _)); refine blk_far ?_ NB134_160.out _; (with_reducible repeat (first | refine blk_drewN ?_ _ | refine blk_drew ?_ | refine blk_alloc ?_ _)); refine blk_far ?_ NB134_160.out _; (with_reducible repeat (first | refine blk_drewN ?_ _ | refine blk_drew ?_ | refine blk_alloc ?_ _)); refine blk_far ?_ NB134_160.out _; (with_reducible repeat (first | refine blk_drewN ?_ _ | refine blk_drew ?_ | refine blk_alloc ?_ _)); refine blk_far ?_ NB134_160.out _; (with_reducible repeat (first | refine blk_drewN ?_ _ | refine blk_drew ?_ | refine blk_alloc ?_ _)); refine blk_far ?_ NB134_160.out _; (with_reducible repeat (first | refine blk_drewN ?_ _ | refine blk_drew ?_ | refine blk_alloc ?_ _)); refine blk_far ?_ NB134_160.out _; (with_reducible repeat (first | refine blk_drewN ?_ _ | refine blk_drew ?_ | refine blk_alloc ?_ _)); refine blk_far ?_ NB134_160.out _; (with_reducible repeat (first | refine blk_drewN ?_ _ | refine blk_drew ?_ | refine blk_alloc ?_ _)); exact BK134.out⟩, ⟨by repeat (first | (with_reducible first | exact HB.out | apply below_alloc | apply pw_below_drewN | apply below_drew1 | refine below_set ?_ GE134.out | refine below_set ?_ GE160.out) | exact HB.out)⟩⟩
                                                        · rw [if_neg c56] at H
                                                          have c56b0 : (((rd_Op (rd_LOp l0_0 x3_1) x5_3).f4).toList == ([] : List UInt8)) = false := beq_eq_false_iff_ne.mpr c56
                                                          have c56b1 : (((rd_Op (rd_LOp l0_0 x3_1) x5_3).f4).toList != ([] : List UInt8)) = true := bne_iff_ne.mpr c56
                                                          have HC64 := Aside0.mk H
                                                          clear H
                                                          obtain ⟨Ao65, co65, eo65⟩ := Kd.R_slice HO_6.out
                                                          subst eo65
                                                          obtain ⟨Ao66, co66, eo66⟩ := Kd.R_slice HO_8.out
                                                          subst eo66
                                                          obtain ⟨Ao67, co67, eo67⟩ := Kd.R_slice HO_4.out
                                                          subst eo67
                                                          go_upto_if 104 with (first | (go_at_call 13; (with_reducible refine (lectionaryref0_EqElems.calls k5 _ _ x8_5 _ _ x4_3 true _ ?side1 ?side2 ?side3 ?side4 A50.out).mono ?_); (case side1 => repeat (first | exact (Kd.R_reads' HO_8.out).2.2 | (with_reducible refine Kd.C_alloc ?_ _) | (with_reducible refine Kd.C_drewN ?_ _) | (with_reducible refine Kd.C_drew ?_))); (case side2 => exact (Kd.R_reads' HO_8.out).2.1); (case side3 => repeat (first | exact (Kd.R_reads' HO_4.out).2.2 | (with_reducible refine Kd.C_alloc ?_ _) | (with_reducible refine Kd.C_drewN ?_ _) | (with_reducible refine Kd.C_drew ?_))); (case side4 => exact (Kd.R_reads' HO_4.out).2.1); rintro e w' ⟨rfl, ⟨nd, rfl⟩⟩; (try first | exact ⟨rfl, _, World.drewN_drewN _ _ _⟩ | exact ⟨rfl, _, Eq.trans (World.drewN_drewN _ _ _) (congrArg (World.drewN _) (Nat.add_assoc _ _ _))⟩); have hcz68_0 : wr.cell? ⟨gb134, 0, none⟩ = some (.slice (some ad137) l0_0.length c0_0) := (blk_cell BK134.out 0).trans rfl; have hcz68_1 : wr.cell? ⟨gb134, 1, none⟩ = some (.slice A0_1 l0_1.length c0_1) := (blk_cell BK134.out 1).trans rfl; have hcz68_2 : wr.cell? ⟨gb134, 2, none⟩ = some (.slice A0_2 l0_2.length c0_2) := (blk_cell BK134.out 2).trans rfl; have hcz68_3 : wr.cell? ⟨gb134, 3, none⟩ = some (.slice A0_3 l0_3.length c0_3) := (blk_cell BK134.out 3).trans rfl; have hfz68_0 := blk_frozen BK134.out 0; have hfz68_1 := blk_frozen BK134.out 1; have hfz68_2 := blk_frozen BK134.out 2; have hfz68_3 := blk_frozen BK134.out 3; have p158 : 0 ≤ (x3_1 : Int) := of_decide_eq_true (by first | (with_reducible assumption) | assumption); have q158 : x3_1 < (l0_0.length : Int) := of_decide_eq_true (by first | (with_reducible assumption) | assumption); obtain ⟨ad158, A158_0, c158_0, e158, hx158_0, hl158_0, hi158_0⟩ := at_LOp HR0_0.out x3_1 p158 q158; obtain rfl : ad137 = ad158 := (by injection e158); replace hx158_0 := (HB.out.cell (World.block_lt_of_cell? w _ hx158_0)).trans hx158_0; have HR158_0 := Aside0.mk hi158_0; have HC158_0 := Aside0.mk hl158_0; clear hi158_0 hl158_0; replace p158 := eq_true p158; replace q158 := eq_true q158; have p159 : 0 ≤ (x5_3 : Int) := of_decide_eq_true (by first | (with_reducible assumption) | assumption); have q159 : x5_3 < ((rd_LOp l0_0 x3_1).length : Int) := of_decide_eq_true (by first | (with_reducible assumption) | assumption); obtain ⟨ad159, A159_7, c159_7, e159, hx159_0, hx159_1, hx159_2, hx159_3, hx159_4, hx159_5, hx159_6, hx159_7, hx159_8, hx159_9, hx159_10, hl159_7, hi159_7⟩ := at_Op HR158_0.out x5_3 p159 q159; cases e159; replace hx159_0 := (HB.out.cell (World.block_lt_of_cell? w _ hx159_0)).trans hx159_0; replace hx159_1 := (HB.out.cell (World.block_lt_of_cell? w _ hx159_1)).trans hx159_1; replace hx159_2 := (HB.out.cell (World.block_lt_of_cell? w _ hx159_2)).trans hx159_2; replace hx159_3 := (HB.out.cell (World.block_lt_of_cell? w _ hx159_3)).trans hx159_3; replace hx159_4 := (HB.out.cell (World.block_lt_of_cell? w _ hx159_4)).trans hx159_4; replace hx159_5 := (HB.out.cell (World.block_lt_of_cell? w _ hx159_5)).trans hx159_5; replace hx159_6 := (HB.out.cell (World.block_lt_of_cell? w _ hx159_6)).trans hx159_6; replace hx159_7 := (HB.out.cell (World.block_lt_of_cell? w _ hx159_7)).trans hx159_7; replace hx159_8 := (HB.out.cell (World.block_lt_of_cell? w _ hx159_8)).trans hx159_8; replace hx159_9 := (HB.out.cell (World.block_lt_of_cell? w _ hx159_9)).trans hx159_9; replace hx159_10 := (HB.out.cell (World.block_lt_of_cell? w _ hx159_10)).trans hx159_10; have HR159_7 := Aside0.mk hi159_7; have HC159_7 := Aside0.mk hl159_7; clear hi159_7 hl159_7; replace p159 := eq_true p159; replace q159 := eq_true q159) | ((with_reducible refine gate_dst (N := 10) rfl ?_); (try (refine gate_guard (by rfl) ?_; dsimp only)); refine box_event ?hg (N := 10) ?hd (cs := #[.int .i64 0, .int .i64 0, .int .i64 0, .int .i64 0, .int .i64 0, .int .i64 0, .string (⟨#[]⟩ : ByteArray), .slice none 0 0, .int .i64 0, .int .i64 0, .int .i64 0]) (t := 39) ?hr ?_; (case hd => rfl); (case hg => rfl); (case hr => first | (go_simp; done) | (go_simp; rfl)); intro gb160 hg w69 hbox hb; have n0_ := Aside0.mk (Kd.R_below (by (with_reducible repeat (first | apply Kd.R_alloc | apply Kd.R_drewN | apply Kd.R_drew)); exact HO_4.out) hb); have n1_ := Aside0.mk (Kd.R_below (by (with_reducible repeat (first | apply Kd.R_alloc | apply Kd.R_drewN | apply Kd.R_drew)); exact HO_6.out) hb); have n2_ := Aside0.mk (Kd.R_below (by (with_reducible repeat (first | apply Kd.R_alloc | apply Kd.R_drewN | apply Kd.R_drew)); exact HO_8.out) hb); have n3_ := Aside0.mk (blk_below (g := gb134) (o := .cells #[.slice (some ad137) l0_0.length c0_0, .slice A0_1 l0_1.length c0_1, .slice A0_2 l0_2.length c0_2, .slice A0_3 l0_3.length c0_3] 27 (0, 0)) (by (with_reducible repeat (first | refine blk_drewN ?_ _ | refine blk_drew ?_ | refine blk_alloc ?_ _)); exact BK134.out) hb); have n4_ := Aside0.mk (below_step (by repeat (first | (with_reducible first | exact HB.out | apply below_alloc | apply pw_below_drewN | apply below_drew1 | refine below_set ?_ GE134.out) | exact HB.out)) hb); have n5_ := Aside0.mk (hbox); have n6_ := Aside0.mk ((by rw [hg]; exact (below_size (by repeat (first | (with_reducible first | exact HB.out | apply below_alloc | apply pw_below_drewN | apply below_drew1 | refine below_set ?_ GE134.out) | exact HB.out))) : w.heap.size ≤ gb160)); have n7_ := Aside0.mk ((by rw [hg]; exact (below_size (by repeat (first | (with_reducible first | exact HB.out | apply below_alloc | apply pw_below_drewN | apply below_drew1 | refine below_set ?_ GE134.out) | exact HB.out))) : w.heap.size ≤ gb160)); have n8_ := Aside0.mk ((by rw [hg]; exact Nat.ne_of_lt (blk_lt (g := gb134) (o := .cells #[.slice (some ad137) l0_0.length c0_0, .slice A0_1 l0_1.length c0_1, .slice A0_2 l0_2.length c0_2, .slice A0_3 l0_3.length c0_3] 27 (0, 0)) (by (with_reducible repeat (first | refine blk_drewN ?_ _ | refine blk_drew ?_ | refine blk_alloc ?_ _)); exact BK134.out)) : gb134 ≠ gb160)); have n9_ := Aside0.mk ((by rw [hg]; exact Nat.ne_of_gt (blk_lt (g := gb134) (o := .cells #[.slice (some ad137) l0_0.length c0_0, .slice A0_1 l0_1.length c0_1, .slice A0_2 l0_2.length c0_2, .slice A0_3 l0_3.length c0_3] 27 (0, 0)) (by (with_reducible repeat (first | refine blk_drewN ?_ _ | refine blk_drew ?_ | refine blk_alloc ?_ _)); exact BK134.out)) : gb160 ≠ gb134)); clear HO_4; clear HO_6; clear HO_8; clear BK134; clear HB; have HO_4 := n0_; have HO_6 := n1_; have HO_8 := n2_; have BK134 := n3_; have HB := n4_; have BK160 := n5_; have GW160 := n6_; have GE160 := n7_; have NB134_160 := n8_; have NB160_134 := n9_; clear n0_ n1_ n2_ n3_ n4_ n5_ n6_ n7_ n8_ n9_; clear hb hbox hg; have hnb70 := NB160_134.out; have hnc70 := NB134_160.out; have hcz71_0 : w69.cell? ⟨gb160, 0, none⟩ = some (.int .i64 0) := (blk_cell BK160.out 0).trans rfl; have hcz71_1 : w69.cell? ⟨gb160, 1, none⟩ = some (.int .i64 0) := (blk_cell BK160.out 1).trans rfl; have hcz71_2 : w69.cell? ⟨gb160, 2, none⟩ = some (.int .i64 0) := (blk_cell BK160.out 2).trans rfl; have hcz71_3 : w69.cell? ⟨gb160, 3, none⟩ = some (.int .i64 0) := (blk_cell BK160.out 3).trans rfl; have hcz71_4 : w69.cell? ⟨gb160, 4, none⟩ = some (.int .i64 0) := (blk_cell BK160.out 4).trans rfl; have hcz71_5 : w69.cell? ⟨gb160, 5, none⟩ = some (.int .i64 0) := (blk_cell BK160.out 5).trans rfl; have hcz71_6 : w69.cell? ⟨gb160, 6, none⟩ = some (.string (⟨#[]⟩ : ByteArray)) := (blk_cell BK160.out 6).trans rfl; have hcz71_7 : w69.cell? ⟨gb160, 7, none⟩ = some (.slice none 0 0) := (blk_cell BK160.out 7).trans rfl; have hcz71_8 : w69.cell? ⟨gb160, 8, none⟩ = some (.int .i64 0) := (blk_cell BK160.out 8).trans rfl; have hcz71_9 : w69.cell? ⟨gb160, 9, none⟩ = some (.int .i64 0) := (blk_cell BK160.out 9).trans rfl; have hcz71_10 : w69.cell? ⟨gb160, 10, none⟩ = some (.int .i64 0) := (blk_cell BK160.out 10).trans rfl; have hfz71_0 := blk_frozen BK160.out 0; have hfz71_1 := blk_frozen BK160.out 1; have hfz71_2 := blk_frozen BK160.out 2; have hfz71_3 := blk_frozen BK160.out 3; have hfz71_4 := blk_frozen BK160.out 4; have hfz71_5 := blk_frozen BK160.out 5; have hfz71_6 := blk_frozen BK160.out 6; have hfz71_7 := blk_frozen BK160.out 7; have hfz71_8 := blk_frozen BK160.out 8; have hfz71_9 := blk_frozen BK160.out 9; have hfz71_10 := blk_frozen BK160.out 10))
                                                          (try simp only [Act.put, List.setIfInBounds_toArray, List.set_cons_zero, List.set_cons_succ])
                                                          go_cut [11] (fun v11 wc => ∃ (kq : Nat) (x11_63 : Int), v11 = .int .i64 x11_63 ∧ Aside0 (lectionarylaw5_TreeStays.j5 kq x3_1 x4_3 x5_3 t146 x11_63 l0_0 l0_1 l0_2 l0_3 ((rd_Op (rd_LOp l0_0 x3_1) x5_3).f0) ((rd_Op (rd_LOp l0_0 x3_1) x5_3).f1) ((rd_Op (rd_LOp l0_0 x3_1) x5_3).f2) ((rd_Op (rd_LOp l0_0 x3_1) x5_3).f3.f0) ((rd_Op (rd_LOp l0_0 x3_1) x5_3).f3.f1) ((rd_Op (rd_LOp l0_0 x3_1) x5_3).f3.f2) ((rd_Op (rd_LOp l0_0 x3_1) x5_3).f4) ((rd_Op (rd_LOp l0_0 x3_1) x5_3).f5) ((rd_Op (rd_LOp l0_0 x3_1) x5_3).f6) ((rd_Op (rd_LOp l0_0 x3_1) x5_3).f7) ((rd_Op (rd_LOp l0_0 x3_1) x5_3).f8) = some r) ∧ Aside0 (kq ≤ k5) ∧ Aside0 (Kd.R kElem 36 wc w.heap.size (fun k_ => some k_ ≠ ((.slice Ao65 t146.length co65) : Value).ownBlock) (.slice Ao67 x4_3.length co67) x4_3) ∧ Aside0 (Kd.R kElem 36 wc w.heap.size (fun k_ => some k_ ≠ ((.slice Ao67 x4_3.length co67) : Value).ownBlock) (.slice Ao65 t146.length co65) t146) ∧ Aside0 (wc.heap[gb134]? = some (.cells #[(.slice (some ad137) l0_0.length c0_0), (.slice A0_1 l0_1.length c0_1), (.slice A0_2 l0_2.length c0_2), (.slice A0_3 l0_3.length c0_3)] 27 (0, 0))) ∧ Aside0 (wc.heap[gb160]? = some (.cells #[.int .i64 ((rd_Op (rd_LOp l0_0 x3_1) x5_3).f0), .int .i64 ((rd_Op (rd_LOp l0_0 x3_1) x5_3).f1), .int .i64 ((rd_Op (rd_LOp l0_0 x3_1) x5_3).f2), .int .i64 ((rd_Op (rd_LOp l0_0 x3_1) x5_3).f3.f0), .int .i64 ((rd_Op (rd_LOp l0_0 x3_1) x5_3).f3.f1), .int .i64 ((rd_Op (rd_LOp l0_0 x3_1) x5_3).f3.f2), .string ((rd_Op (rd_LOp l0_0 x3_1) x5_3).f4), (.slice A159_7 ((rd_Op (rd_LOp l0_0 x3_1) x5_3).f5).length c159_7), .int .i64 ((rd_Op (rd_LOp l0_0 x3_1) x5_3).f6), .int .i64 ((rd_Op (rd_LOp l0_0 x3_1) x5_3).f7), .int .i64 ((rd_Op (rd_LOp l0_0 x3_1) x5_3).f8)] 39 (0, 0))) ∧ Aside0 (Below w.heap.size w wc))
                                                          case first =>
                                                            have H := HC64.out
                                                            clear HC64
                                                            by_cases c72 : (!(((rd_Op (rd_LOp l0_0 x3_1) x5_3).f3.f0) == 0) || (!(((rd_Op (rd_LOp l0_0 x3_1) x5_3).f3.f1) == 0) || (!(((rd_Op (rd_LOp l0_0 x3_1) x5_3).f3.f2) == 0)))) = true
                                                            · rw [if_pos c72] at H
                                                              have c72b0 : (!(((rd_Op (rd_LOp l0_0 x3_1) x5_3).f3.f0) == 0) || (!(((rd_Op (rd_LOp l0_0 x3_1) x5_3).f3.f1) == 0) || (!(((rd_Op (rd_LOp l0_0 x3_1) x5_3).f3.f2) == 0)))) = true := c72
                                                              clear c72
                                                              (first | rw [c72b0] | (simp only [i64_w, i32_w]; rw [c72b0]) | skip)
                                                              replace H := Option.bind_eq_some_iff.mp H
                                                              obtain ⟨t161, A730, H⟩ := H
                                                              replace H : (if (wrap64 (t161 + 1)) = 0 then (some false) else (lectionarylaw5_TreeStays.j5 k5 x3_1 x4_3 x5_3 t146 (wrap64 (t161 + 1)) l0_0 l0_1 l0_2 l0_3 ((rd_Op (rd_LOp l0_0 x3_1) x5_3).f0) ((rd_Op (rd_LOp l0_0 x3_1) x5_3).f1) ((rd_Op (rd_LOp l0_0 x3_1) x5_3).f2) ((rd_Op (rd_LOp l0_0 x3_1) x5_3).f3.f0) ((rd_Op (rd_LOp l0_0 x3_1) x5_3).f3.f1) ((rd_Op (rd_LOp l0_0 x3_1) x5_3).f3.f2) ((rd_Op (rd_LOp l0_0 x3_1) x5_3).f4) ((rd_Op (rd_LOp l0_0 x3_1) x5_3).f5) ((rd_Op (rd_LOp l0_0 x3_1) x5_3).f6) ((rd_Op (rd_LOp l0_0 x3_1) x5_3).f7) ((rd_Op (rd_LOp l0_0 x3_1) x5_3).f8))) = some r := H
                                                              have A73 := Aside0.mk A730
                                                              clear A730
                                                              by_cases c74 : (wrap64 (t161 + 1)) = 0
                                                              · rw [if_pos c74] at H
                                                                have c74b0 : ((wrap64 (t161 + 1)) == 0) = true := beq_iff_eq.mpr c74
                                                                have c74b1 : ((wrap64 (t161 + 1)) != 0) = false := bne_eq_false_iff_eq.mpr c74
                                                                clear c74
                                                                obtain rfl := Option.some.inj H
                                                                have hnb75 := NB160_134.out
                                                                have hnc75 := NB134_160.out
                                                                have hcz76_0 : w69.cell? ⟨gb160, 0, none⟩ = some (.int .i64 0) := (blk_cell BK160.out 0).trans rfl
                                                                have hcz76_1 : w69.cell? ⟨gb160, 1, none⟩ = some (.int .i64 0) := (blk_cell BK160.out 1).trans rfl
                                                                have hcz76_2 : w69.cell? ⟨gb160, 2, none⟩ = some (.int .i64 0) := (blk_cell BK160.out 2).trans rfl
                                                                have hcz76_3 : w69.cell? ⟨gb160, 3, none⟩ = some (.int .i64 0) := (blk_cell BK160.out 3).trans rfl
                                                                have hcz76_4 : w69.cell? ⟨gb160, 4, none⟩ = some (.int .i64 0) := (blk_cell BK160.out 4).trans rfl
                                                                have hcz76_5 : w69.cell? ⟨gb160, 5, none⟩ = some (.int .i64 0) := (blk_cell BK160.out 5).trans rfl
                                                                have hcz76_6 : w69.cell? ⟨gb160, 6, none⟩ = some (.string (⟨#[]⟩ : ByteArray)) := (blk_cell BK160.out 6).trans rfl
                                                                have hcz76_7 : w69.cell? ⟨gb160, 7, none⟩ = some (.slice none 0 0) := (blk_cell BK160.out 7).trans rfl
                                                                have hcz76_8 : w69.cell? ⟨gb160, 8, none⟩ = some (.int .i64 0) := (blk_cell BK160.out 8).trans rfl
                                                                have hcz76_9 : w69.cell? ⟨gb160, 9, none⟩ = some (.int .i64 0) := (blk_cell BK160.out 9).trans rfl
                                                                have hcz76_10 : w69.cell? ⟨gb160, 10, none⟩ = some (.int .i64 0) := (blk_cell BK160.out 10).trans rfl
                                                                have hfz76_0 := blk_frozen BK160.out 0
                                                                have hfz76_1 := blk_frozen BK160.out 1
                                                                have hfz76_2 := blk_frozen BK160.out 2
                                                                have hfz76_3 := blk_frozen BK160.out 3
                                                                have hfz76_4 := blk_frozen BK160.out 4
                                                                have hfz76_5 := blk_frozen BK160.out 5
                                                                have hfz76_6 := blk_frozen BK160.out 6
                                                                have hfz76_7 := blk_frozen BK160.out 7
                                                                have hfz76_8 := blk_frozen BK160.out 8
                                                                have hfz76_9 := blk_frozen BK160.out 9
                                                                have hfz76_10 := blk_frozen BK160.out 10
                                                                go_wp2_with (first | (go_at_call 12; (with_reducible refine (lectionaryref0_At.calls k5 _ _ t146 ((rd_Op (rd_LOp l0_0 x3_1) x5_3).f3.f0) ((rd_Op (rd_LOp l0_0 x3_1) x5_3).f3.f1) ((rd_Op (rd_LOp l0_0 x3_1) x5_3).f3.f2) t161 _ ?side1 ?side2 A73.out).mono ?_); (case side1 => refine (Kd.R_reads' (e := 36) (base := w.heap.size) (ok := fun k_ => (some k_ ≠ (.slice Ao67 x4_3.length co67 : Value).ownBlock ∧ some k_ ≠ (.slice Ao66 x8_5.length co66 : Value).ownBlock)) (n := t146.length) (c := co65) ?_).2.2; exact (by (with_reducible repeat (first | apply Kd.R_alloc | apply Kd.R_drewN | apply Kd.R_drew)); exact (Kd.R_mono (Kd.R_far (p := ⟨gb160, 10, none⟩) (Kd.R_far (p := ⟨gb160, 9, none⟩) (Kd.R_far (p := ⟨gb160, 8, none⟩) (Kd.R_far (p := ⟨gb160, 7, none⟩) (Kd.R_far (p := ⟨gb160, 6, none⟩) (Kd.R_far (p := ⟨gb160, 5, none⟩) (Kd.R_far (p := ⟨gb160, 4, none⟩) (Kd.R_far (p := ⟨gb160, 3, none⟩) (Kd.R_far (p := ⟨gb160, 2, none⟩) (Kd.R_far (p := ⟨gb160, 1, none⟩) (Kd.R_far (p := ⟨gb160, 0, none⟩) (Kd.R_types HO_6.out BK160.out (by decide)) (fun _ hk => hk.2) (.int .i64 ((rd_Op (rd_LOp l0_0 x3_1) x5_3).f0))) (fun _ hk => hk.2) (.int .i64 ((rd_Op (rd_LOp l0_0 x3_1) x5_3).f1))) (fun _ hk => hk.2) (.int .i64 ((rd_Op (rd_LOp l0_0 x3_1) x5_3).f2))) (fun _ hk => hk.2) (.int .i64 ((rd_Op (rd_LOp l0_0 x3_1) x5_3).f3.f0))) (fun _ hk => hk.2) (.int .i64 ((rd_Op (rd_LOp l0_0 x3_1) x5_3).f3.f1))) (fun _ hk => hk.2) (.int .i64 ((rd_Op (rd_LOp l0_0 x3_1) x5_3).f3.f2))) (fun _ hk => hk.2) (.string ((rd_Op (rd_LOp l0_0 x3_1) x5_3).f4))) (fun _ hk => hk.2) (.slice A159_7 ((rd_Op (rd_LOp l0_0 x3_1) x5_3).f5).length c159_7)) (fun _ hk => hk.2) (.int .i64 ((rd_Op (rd_LOp l0_0 x3_1) x5_3).f6))) (fun _ hk => hk.2) (.int .i64 ((rd_Op (rd_LOp l0_0 x3_1) x5_3).f7))) (fun _ hk => hk.2) (.int .i64 ((rd_Op (rd_LOp l0_0 x3_1) x5_3).f8))) (fun _ h_ => h_.1)))); (case side2 => exact (Kd.R_reads' HO_6.out).2.1); rintro e w77 ⟨rfl, hb⟩; have n0_ := Aside0.mk (Kd.R_below (by (with_reducible repeat (first | apply Kd.R_alloc | apply Kd.R_drewN | apply Kd.R_drew)); exact (Kd.R_mono (Kd.R_far (p := ⟨gb160, 10, none⟩) (Kd.R_far (p := ⟨gb160, 9, none⟩) (Kd.R_far (p := ⟨gb160, 8, none⟩) (Kd.R_far (p := ⟨gb160, 7, none⟩) (Kd.R_far (p := ⟨gb160, 6, none⟩) (Kd.R_far (p := ⟨gb160, 5, none⟩) (Kd.R_far (p := ⟨gb160, 4, none⟩) (Kd.R_far (p := ⟨gb160, 3, none⟩) (Kd.R_far (p := ⟨gb160, 2, none⟩) (Kd.R_far (p := ⟨gb160, 1, none⟩) (Kd.R_far (p := ⟨gb160, 0, none⟩) (Kd.R_types HO_4.out BK160.out (by decide)) (fun _ hk => hk.2) (.int .i64 ((rd_Op (rd_LOp l0_0 x3_1) x5_3).f0))) (fun _ hk => hk.2) (.int .i64 ((rd_Op (rd_LOp l0_0 x3_1) x5_3).f1))) (fun _ hk => hk.2) (.int .i64 ((rd_Op (rd_LOp l0_0 x3_1) x5_3).f2))) (fun _ hk => hk.2) (.int .i64 ((rd_Op (rd_LOp l0_0 x3_1) x5_3).f3.f0))) (fun _ hk => hk.2) (.int .i64 ((rd_Op (rd_LOp l0_0 x3_1) x5_3).f3.f1))) (fun _ hk => hk.2) (.int .i64 ((rd_Op (rd_LOp l0_0 x3_1) x5_3).f3.f2))) (fun _ hk => hk.2) (.string ((rd_Op (rd_LOp l0_0 x3_1) x5_3).f4))) (fun _ hk => hk.2) (.slice A159_7 ((rd_Op (rd_LOp l0_0 x3_1) x5_3).f5).length c159_7)) (fun _ hk => hk.2) (.int .i64 ((rd_Op (rd_LOp l0_0 x3_1) x5_3).f6))) (fun _ hk => hk.2) (.int .i64 ((rd_Op (rd_LOp l0_0 x3_1) x5_3).f7))) (fun _ hk => hk.2) (.int .i64 ((rd_Op (rd_LOp l0_0 x3_1) x5_3).f8))) (fun _ h_ => h_.1))) hb); have n1_ := Aside0.mk (Kd.R_below (by (with_reducible repeat (first | apply Kd.R_alloc | apply Kd.R_drewN | apply Kd.R_drew)); exact (Kd.R_mono (Kd.R_far (p := ⟨gb160, 10, none⟩) (Kd.R_far (p := ⟨gb160, 9, none⟩) (Kd.R_far (p := ⟨gb160, 8, none⟩) (Kd.R_far (p := ⟨gb160, 7, none⟩) (Kd.R_far (p := ⟨gb160, 6, none⟩) (Kd.R_far (p := ⟨gb160, 5, none⟩) (Kd.R_far (p := ⟨gb160, 4, none⟩) (Kd.R_far (p := ⟨gb160, 3, none⟩) (Kd.R_far (p := ⟨gb160, 2, none⟩) (Kd.R_far (p := ⟨gb160, 1, none⟩) (Kd.R_far (p := ⟨gb160, 0, none⟩) (Kd.R_types HO_6.out BK160.out (by decide)) (fun _ hk => hk.2) (.int .i64 ((rd_Op (rd_LOp l0_0 x3_1) x5_3).f0))) (fun _ hk => hk.2) (.int .i64 ((rd_Op (rd_LOp l0_0 x3_1) x5_3).f1))) (fun _ hk => hk.2) (.int .i64 ((rd_Op (rd_LOp l0_0 x3_1) x5_3).f2))) (fun _ hk => hk.2) (.int .i64 ((rd_Op (rd_LOp l0_0 x3_1) x5_3).f3.f0))) (fun _ hk => hk.2) (.int .i64 ((rd_Op (rd_LOp l0_0 x3_1) x5_3).f3.f1))) (fun _ hk => hk.2) (.int .i64 ((rd_Op (rd_LOp l0_0 x3_1) x5_3).f3.f2))) (fun _ hk => hk.2) (.string ((rd_Op (rd_LOp l0_0 x3_1) x5_3).f4))) (fun _ hk => hk.2) (.slice A159_7 ((rd_Op (rd_LOp l0_0 x3_1) x5_3).f5).length c159_7)) (fun _ hk => hk.2) (.int .i64 ((rd_Op (rd_LOp l0_0 x3_1) x5_3).f6))) (fun _ hk => hk.2) (.int .i64 ((rd_Op (rd_LOp l0_0 x3_1) x5_3).f7))) (fun _ hk => hk.2) (.int .i64 ((rd_Op (rd_LOp l0_0 x3_1) x5_3).f8))) (fun _ h_ => h_.1))) hb); have n2_ := Aside0.mk (Kd.R_below (by (with_reducible repeat (first | apply Kd.R_alloc | apply Kd.R_drewN | apply Kd.R_drew)); exact (Kd.R_mono (Kd.R_far (p := ⟨gb160, 10, none⟩) (Kd.R_far (p := ⟨gb160, 9, none⟩) (Kd.R_far (p := ⟨gb160, 8, none⟩) (Kd.R_far (p := ⟨gb160, 7, none⟩) (Kd.R_far (p := ⟨gb160, 6, none⟩) (Kd.R_far (p := ⟨gb160, 5, none⟩) (Kd.R_far (p := ⟨gb160, 4, none⟩) (Kd.R_far (p := ⟨gb160, 3, none⟩) (Kd.R_far (p := ⟨gb160, 2, none⟩) (Kd.R_far (p := ⟨gb160, 1, none⟩) (Kd.R_far (p := ⟨gb160, 0, none⟩) (Kd.R_types HO_8.out BK160.out (by decide)) (fun _ hk => hk.2) (.int .i64 ((rd_Op (rd_LOp l0_0 x3_1) x5_3).f0))) (fun _ hk => hk.2) (.int .i64 ((rd_Op (rd_LOp l0_0 x3_1) x5_3).f1))) (fun _ hk => hk.2) (.int .i64 ((rd_Op (rd_LOp l0_0 x3_1) x5_3).f2))) (fun _ hk => hk.2) (.int .i64 ((rd_Op (rd_LOp l0_0 x3_1) x5_3).f3.f0))) (fun _ hk => hk.2) (.int .i64 ((rd_Op (rd_LOp l0_0 x3_1) x5_3).f3.f1))) (fun _ hk => hk.2) (.int .i64 ((rd_Op (rd_LOp l0_0 x3_1) x5_3).f3.f2))) (fun _ hk => hk.2) (.string ((rd_Op (rd_LOp l0_0 x3_1) x5_3).f4))) (fun _ hk => hk.2) (.slice A159_7 ((rd_Op (rd_LOp l0_0 x3_1) x5_3).f5).length c159_7)) (fun _ hk => hk.2) (.int .i64 ((rd_Op (rd_LOp l0_0 x3_1) x5_3).f6))) (fun _ hk => hk.2) (.int .i64 ((rd_Op (rd_LOp l0_0 x3_1) x5_3).f7))) (fun _ hk => hk.2) (.int .i64 ((rd_Op (rd_LOp l0_0 x3_1) x5_3).f8))) (fun _ h_ => h_.1))) hb); have n3_ := Aside0.mk (blk_below (g := gb134) (o := .cells #[.slice (some ad137) l0_0.length c0_0, .slice A0_1 l0_1.length c0_1, .slice A0_2 l0_2.length c0_2, .slice A0_3 l0_3.length c0_3] 27 (0, 0)) (by (with_reducible repeat (first | refine blk_drewN ?_ _ | refine blk_drew ?_ | refine blk_alloc ?_ _)); refine blk_far ?_ NB134_160.out _; (with_reducible repeat (first | refine blk_drewN ?_ _ | refine blk_drew ?_ | refine blk_alloc ?_ _)); refine blk_far ?_ NB134_160.out _; (with_reducible repeat (first | refine blk_drewN ?_ _ | refine blk_drew ?_ | refine blk_alloc ?_ _)); refine blk_far ?_ NB134_160.out _; (with_reducible repeat (first | refine blk_drewN ?_ _ | refine blk_drew ?_ | refine blk_alloc ?_ _)); refine blk_far ?_ NB134_160.out _; (with_reducible repeat (first | refine blk_drewN ?_ _ | refine blk_drew ?_ | refine blk_alloc ?_ _)); refine blk_far ?_ NB134_160.out _; (with_reducible repeat (first | refine blk_drewN ?_ _ | refine blk_drew ?_ | refine blk_alloc ?_ _)); refine blk_far ?_ NB134_160.out _; (with_reducible repeat (first | refine blk_drewN ?_ _ | refine blk_drew ?_ | refine blk_alloc ?_ _)); refine blk_far ?_ NB134_160.out _; (with_reducible repeat (first | refine blk_drewN ?_ _ | refine blk_drew ?_ | refine blk_alloc ?_ _)); refine blk_far ?_ NB134_160.out _; (with_reducible repeat (first | refine blk_drewN ?_ _ | refine blk_drew ?_ | refine blk_alloc ?_ _)); refine blk_far ?_ NB134_160.out _; (with_reducible repeat (first | refine blk_drewN ?_ _ | refine blk_drew ?_ | refine blk_alloc ?_ _)); refine blk_far ?_ NB134_160.out _; (with_reducible repeat (first | refine blk_drewN ?_ _ | refine blk_drew ?_ | refine blk_alloc ?_ _)); refine blk_far ?_ NB134_160.out _; (with_reducible repeat (first | refine blk_drewN ?_ _ | refine blk_drew ?_ | refine blk_alloc ?_ _)); exact BK134.out) hb); have n4_ := Aside0.mk (blk_below (g := gb160) (o := .cells #[.int .i64 ((rd_Op (rd_LOp l0_0 x3_1) x5_3).f0), .int .i64 ((rd_Op (rd_LOp l0_0 x3_1) x5_3).f1), .int .i64 ((rd_Op (rd_LOp l0_0 x3_1) x5_3).f2), .int .i64 ((rd_Op (rd_LOp l0_0 x3_1) x5_3).f3.f0), .int .i64 ((rd_Op (rd_LOp l0_0 x3_1) x5_3).f3.f1), .int .i64 ((rd_Op (rd_LOp l0_0 x3_1) x5_3).f3.f2), .string ((rd_Op (rd_LOp l0_0 x3_1) x5_3).f4), .slice A159_7 ((rd_Op (rd_LOp l0_0 x3_1) x5_3).f5).length c159_7, .int .i64 ((rd_Op (rd_LOp l0_0 x3_1) x5_3).f6), .int .i64 ((rd_Op (rd_LOp l0_0 x3_1) x5_3).f7), .int .i64 ((rd_Op (rd_LOp l0_0 x3_1) x5_3).f8)] 39 (0, 0)) (by (with_reducible repeat (first | refine blk_drewN ?_ _ | refine blk_drew ?_ | refine blk_alloc ?_ _)); refine blk_put (cs := #[.int .i64 ((rd_Op (rd_LOp l0_0 x3_1) x5_3).f0), .int .i64 ((rd_Op (rd_LOp l0_0 x3_1) x5_3).f1), .int .i64 ((rd_Op (rd_LOp l0_0 x3_1) x5_3).f2), .int .i64 ((rd_Op (rd_LOp l0_0 x3_1) x5_3).f3.f0), .int .i64 ((rd_Op (rd_LOp l0_0 x3_1) x5_3).f3.f1), .int .i64 ((rd_Op (rd_LOp l0_0 x3_1) x5_3).f3.f2), .string ((rd_Op (rd_LOp l0_0 x3_1) x5_3).f4), .slice A159_7 ((rd_Op (rd_LOp l0_0 x3_1) x5_3).f5).length c159_7, .int .i64 ((rd_Op (rd_LOp l0_0 x3_1) x5_3).f6), .int .i64 ((rd_Op (rd_LOp l0_0 x3_1) x5_3).f7), .int .i64 0]) ?_ 10 _ rfl; (with_reducible repeat (first | refine blk_drewN ?_ _ | refine blk_drew ?_ | refine blk_alloc ?_ _)); refine blk_put (cs := #[.int .i64 ((rd_Op (rd_LOp l0_0 x3_1) x5_3).f0), .int .i64 ((rd_Op (rd_LOp l0_0 x3_1) x5_3).f1), .int .i64 ((rd_Op (rd_LOp l0_0 x3_1) x5_3).f2), .int .i64 ((rd_Op (rd_LOp l0_0 x3_1) x5_3).f3.f0), .int .i64 ((rd_Op (rd_LOp l0_0 x3_1) x5_3).f3.f1), .int .i64 ((rd_Op (rd_LOp l0_0 x3_1) x5_3).f3.f2), .string ((rd_Op (rd_LOp l0_0 x3_1) x5_3).f4), .slice A159_7 ((rd_Op (rd_LOp l0_0 x3_1) x5_3).f5).length c159_7, .int .i64 ((rd_Op (rd_LOp l0_0 x3_1) x5_3).f6), .int .i64 0, .int .i64 0]) ?_ 9 _ rfl; (with_reducible repeat (first | refine blk_drewN ?_ _ | refine blk_drew ?_ | refine blk_alloc ?_ _)); refine blk_put (cs := #[.int .i64 ((rd_Op (rd_LOp l0_0 x3_1) x5_3).f0), .int .i64 ((rd_Op (rd_LOp l0_0 x3_1) x5_3).f1), .int .i64 ((rd_Op (rd_LOp l0_0 x3_1) x5_3).f2), .int .i64 ((rd_Op (rd_LOp l0_0 x3_1) x5_3).f3.f0), .int .i64 ((rd_Op (rd_LOp l0_0 x3_1) x5_3).f3.f1), .int .i64 ((rd_Op (rd_LOp l0_0 x3_1) x5_3).f3.f2), .string ((rd_Op (rd_LOp l0_0 x3_1) x5_3).f4), .slice A159_7 ((rd_Op (rd_LOp l0_0 x3_1) x5_3).f5).length c159_7, .int .i64 0, .int .i64 0, .int .i64 0]) ?_ 8 _ rfl; (with_reducible repeat (first | refine blk_drewN ?_ _ | refine blk_drew ?_ | refine blk_alloc ?_ _)); refine blk_put (cs := #[.int .i64 ((rd_Op (rd_LOp l0_0 x3_1) x5_3).f0), .int .i64 ((rd_Op (rd_LOp l0_0 x3_1) x5_3).f1), .int .i64 ((rd_Op (rd_LOp l0_0 x3_1) x5_3).f2), .int .i64 ((rd_Op (rd_LOp l0_0 x3_1) x5_3).f3.f0), .int .i64 ((rd_Op (rd_LOp l0_0 x3_1) x5_3).f3.f1), .int .i64 ((rd_Op (rd_LOp l0_0 x3_1) x5_3).f3.f2), .string ((rd_Op (rd_LOp l0_0 x3_1) x5_3).f4), .slice none 0 0, .int .i64 0, .int .i64 0, .int .i64 0]) ?_ 7 _ rfl; (with_reducible repeat (first | refine blk_drewN ?_ _ | refine blk_drew ?_ | refine blk_alloc ?_ _)); refine blk_put (cs := #[.int .i64 ((rd_Op (rd_LOp l0_0 x3_1) x5_3).f0), .int .i64 ((rd_Op (rd_LOp l0_0 x3_1) x5_3).f1), .int .i64 ((rd_Op (rd_LOp l0_0 x3_1) x5_3).f2), .int .i64 ((rd_Op (rd_LOp l0_0 x3_1) x5_3).f3.f0), .int .i64 ((rd_Op (rd_LOp l0_0 x3_1) x5_3).f3.f1), .int .i64 ((rd_Op (rd_LOp l0_0 x3_1) x5_3).f3.f2), .string (⟨#[]⟩ : ByteArray), .slice none 0 0, .int .i64 0, .int .i64 0, .int .i64 0]) ?_ 6 _ rfl; (with_reducible repeat (first | refine blk_drewN ?_ _ | refine blk_drew ?_ | refine blk_alloc ?_ _)); refine blk_put (cs := #[.int .i64 ((rd_Op (rd_LOp l0_0 x3_1) x5_3).f0), .int .i64 ((rd_Op (rd_LOp l0_0 x3_1) x5_3).f1), .int .i64 ((rd_Op (rd_LOp l0_0 x3_1) x5_3).f2), .int .i64 ((rd_Op (rd_LOp l0_0 x3_1) x5_3).f3.f0), .int .i64 ((rd_Op (rd_LOp l0_0 x3_1) x5_3).f3.f1), .int .i64 0, .string (⟨#[]⟩ : ByteArray), .slice none 0 0, .int .i64 0, .int .i64 0, .int .i64 0]) ?_ 5 _ rfl; (with_reducible repeat (first | refine blk_drewN ?_ _ | refine blk_drew ?_ | refine blk_alloc ?_ _)); refine blk_put (cs := #[.int .i64 ((rd_Op (rd_LOp l0_0 x3_1) x5_3).f0), .int .i64 ((rd_Op (rd_LOp l0_0 x3_1) x5_3).f1), .int .i64 ((rd_Op (rd_LOp l0_0 x3_1) x5_3).f2), .int .i64 ((rd_Op (rd_LOp l0_0 x3_1) x5_3).f3.f0), .int .i64 0, .int .i64 0, .string (⟨#[]⟩ : ByteArray), .slice none 0 0, .int .i64 0, .int .i64 0, .int .i64 0]) ?_ 4 _ rfl; (with_reducible repeat (first | refine blk_drewN ?_ _ | refine blk_drew ?_ | refine blk_alloc ?_ _)); refine blk_put (cs := #[.int .i64 ((rd_Op (rd_LOp l0_0 x3_1) x5_3).f0), .int .i64 ((rd_Op (rd_LOp l0_0 x3_1) x5_3).f1), .int .i64 ((rd_Op (rd_LOp l0_0 x3_1) x5_3).f2), .int .i64 0, .int .i64 0, .int .i64 0, .string (⟨#[]⟩ : ByteArray), .slice none 0 0, .int .i64 0, .int .i64 0, .int .i64 0]) ?_ 3 _ rfl; (with_reducible repeat (first | refine blk_drewN ?_ _ | refine blk_drew ?_ | refine blk_alloc ?_ _)); refine blk_put (cs := #[.int .i64 ((rd_Op (rd_LOp l0_0 x3_1) x5_3).f0), .int .i64 ((rd_Op (rd_LOp l0_0 x3_1) x5_3).f1), .int .i64 0, .int .i64 0, .int .i64 0, .int .i64 0, .string (⟨#[]⟩ : ByteArray), .slice none 0 0, .int .i64 0, .int .i64 0, .int .i64 0]) ?_ 2 _ rfl; (with_reducible repeat (first | refine blk_drewN ?_ _ | refine blk_drew ?_ | refine blk_alloc ?_ _)); refine blk_put (cs := #[.int .i64 ((rd_Op (rd_LOp l0_0 x3_1) x5_3).f0), .int .i64 0, .int .i64 0, .int .i64 0, .int .i64 0, .int .i64 0, .string (⟨#[]⟩ : ByteArray), .slice none 0 0, .int .i64 0, .int .i64 0, .int .i64 0]) ?_ 1 _ rfl; (with_reducible repeat (first | refine blk_drewN ?_ _ | refine blk_drew ?_ | refine blk_alloc ?_ _)); refine blk_put (cs := #[.int .i64 0, .int .i64 0, .int .i64 0, .int .i64 0, .int .i64 0, .int .i64 0, .string (⟨#[]⟩ : ByteArray), .slice none 0 0, .int .i64 0, .int .i64 0, .int .i64 0]) ?_ 0 _ rfl; (with_reducible repeat (first | refine blk_drewN ?_ _ | refine blk_drew ?_ | refine blk_alloc ?_ _)); exact BK160.out) hb); have n5_ := Aside0.mk (below_step (by repeat (first | (with_reducible first | exact HB.out | apply below_alloc | apply pw_below_drewN | apply below_drew1 | refine below_set ?_ GE134.out | refine below_set ?_ GE160.out) | exact HB.out)) hb); clear HO_4; clear HO_6; clear HO_8; clear BK134; clear BK160; clear HB; have HO_4 := n0_; have HO_6 := n1_; have HO_8 := n2_; have BK134 := n3_; have BK160 := n4_; have HB := n5_; clear n0_ n1_ n2_ n3_ n4_ n5_; (try clear hb); (try clear hb2); (try clear hk); (try clear hi)))
                                                                go_ret
                                                                exact ⟨by first | rfl | (simp [errW_none, errW_some] <;> rfl) | (simp only [← hji25]; first | rfl | (simp [errW_none, errW_some] <;> rfl)) | (simp [*, errW_none, errW_some] <;> rfl), by repeat (first | (with_reducible first | exact HB.out | apply below_alloc | apply pw_below_drewN | apply below_drew1 | refine below_set ?_ GE134.out | refine below_set ?_ GE160.out) | exact HB.out)⟩
                                                              · rw [if_neg c74] at H
                                                                have c74b0 : ((wrap64 (t161 + 1)) == 0) = false := beq_eq_false_iff_ne.mpr c74
                                                                have c74b1 : ((wrap64 (t161 + 1)) != 0) = true := bne_iff_ne.mpr c74
                                                                have H' := Aside0.mk H
                                                                clear H
                                                                have hnb78 := NB160_134.out
                                                                have hnc78 := NB134_160.out
                                                                have hcz79_0 : w69.cell? ⟨gb160, 0, none⟩ = some (.int .i64 0) := (blk_cell BK160.out 0).trans rfl
                                                                have hcz79_1 : w69.cell? ⟨gb160, 1, none⟩ = some (.int .i64 0) := (blk_cell BK160.out 1).trans rfl
                                                                have hcz79_2 : w69.cell? ⟨gb160, 2, none⟩ = some (.int .i64 0) := (blk_cell BK160.out 2).trans rfl
                                                                have hcz79_3 : w69.cell? ⟨gb160, 3, none⟩ = some (.int .i64 0) := (blk_cell BK160.out 3).trans rfl
                                                                have hcz79_4 : w69.cell? ⟨gb160, 4, none⟩ = some (.int .i64 0) := (blk_cell BK160.out 4).trans rfl
                                                                have hcz79_5 : w69.cell? ⟨gb160, 5, none⟩ = some (.int .i64 0) := (blk_cell BK160.out 5).trans rfl
                                                                have hcz79_6 : w69.cell? ⟨gb160, 6, none⟩ = some (.string (⟨#[]⟩ : ByteArray)) := (blk_cell BK160.out 6).trans rfl
                                                                have hcz79_7 : w69.cell? ⟨gb160, 7, none⟩ = some (.slice none 0 0) := (blk_cell BK160.out 7).trans rfl
                                                                have hcz79_8 : w69.cell? ⟨gb160, 8, none⟩ = some (.int .i64 0) := (blk_cell BK160.out 8).trans rfl
                                                                have hcz79_9 : w69.cell? ⟨gb160, 9, none⟩ = some (.int .i64 0) := (blk_cell BK160.out 9).trans rfl
                                                                have hcz79_10 : w69.cell? ⟨gb160, 10, none⟩ = some (.int .i64 0) := (blk_cell BK160.out 10).trans rfl
                                                                have hfz79_0 := blk_frozen BK160.out 0
                                                                have hfz79_1 := blk_frozen BK160.out 1
                                                                have hfz79_2 := blk_frozen BK160.out 2
                                                                have hfz79_3 := blk_frozen BK160.out 3
                                                                have hfz79_4 := blk_frozen BK160.out 4
                                                                have hfz79_5 := blk_frozen BK160.out 5
                                                                have hfz79_6 := blk_frozen BK160.out 6
                                                                have hfz79_7 := blk_frozen BK160.out 7
                                                                have hfz79_8 := blk_frozen BK160.out 8
                                                                have hfz79_9 := blk_frozen BK160.out 9
                                                                have hfz79_10 := blk_frozen BK160.out 10
                                                                go_wp2_with (first | (go_at_call 12; (with_reducible refine (lectionaryref0_At.calls k5 _ _ t146 ((rd_Op (rd_LOp l0_0 x3_1) x5_3).f3.f0) ((rd_Op (rd_LOp l0_0 x3_1) x5_3).f3.f1) ((rd_Op (rd_LOp l0_0 x3_1) x5_3).f3.f2) t161 _ ?side1 ?side2 A73.out).mono ?_); (case side1 => refine (Kd.R_reads' (e := 36) (base := w.heap.size) (ok := fun k_ => (some k_ ≠ (.slice Ao67 x4_3.length co67 : Value).ownBlock ∧ some k_ ≠ (.slice Ao66 x8_5.length co66 : Value).ownBlock)) (n := t146.length) (c := co65) ?_).2.2; exact (by (with_reducible repeat (first | apply Kd.R_alloc | apply Kd.R_drewN | apply Kd.R_drew)); exact (Kd.R_mono (Kd.R_far (p := ⟨gb160, 10, none⟩) (Kd.R_far (p := ⟨gb160, 9, none⟩) (Kd.R_far (p := ⟨gb160, 8, none⟩) (Kd.R_far (p := ⟨gb160, 7, none⟩) (Kd.R_far (p := ⟨gb160, 6, none⟩) (Kd.R_far (p := ⟨gb160, 5, none⟩) (Kd.R_far (p := ⟨gb160, 4, none⟩) (Kd.R_far (p := ⟨gb160, 3, none⟩) (Kd.R_far (p := ⟨gb160, 2, none⟩) (Kd.R_far (p := ⟨gb160, 1, none⟩) (Kd.R_far (p := ⟨gb160, 0, none⟩) (Kd.R_types HO_6.out BK160.out (by decide)) (fun _ hk => hk.2) (.int .i64 ((rd_Op (rd_LOp l0_0 x3_1) x5_3).f0))) (fun _ hk => hk.2) (.int .i64 ((rd_Op (rd_LOp l0_0 x3_1) x5_3).f1))) (fun _ hk => hk.2) (.int .i64 ((rd_Op (rd_LOp l0_0 x3_1) x5_3).f2))) (fun _ hk => hk.2) (.int .i64 ((rd_Op (rd_LOp l0_0 x3_1) x5_3).f3.f0))) (fun _ hk => hk.2) (.int .i64 ((rd_Op (rd_LOp l0_0 x3_1) x5_3).f3.f1))) (fun _ hk => hk.2) (.int .i64 ((rd_Op (rd_LOp l0_0 x3_1) x5_3).f3.f2))) (fun _ hk => hk.2) (.string ((rd_Op (rd_LOp l0_0 x3_1) x5_3).f4))) (fun _ hk => hk.2) (.slice A159_7 ((rd_Op (rd_LOp l0_0 x3_1) x5_3).f5).length c159_7)) (fun _ hk => hk.2) (.int .i64 ((rd_Op (rd_LOp l0_0 x3_1) x5_3).f6))) (fun _ hk => hk.2) (.int .i64 ((rd_Op (rd_LOp l0_0 x3_1) x5_3).f7))) (fun _ hk => hk.2) (.int .i64 ((rd_Op (rd_LOp l0_0 x3_1) x5_3).f8))) (fun _ h_ => h_.1)))); (case side2 => exact (Kd.R_reads' HO_6.out).2.1); rintro e w80 ⟨rfl, hb⟩; have n0_ := Aside0.mk (Kd.R_below (by (with_reducible repeat (first | apply Kd.R_alloc | apply Kd.R_drewN | apply Kd.R_drew)); exact (Kd.R_mono (Kd.R_far (p := ⟨gb160, 10, none⟩) (Kd.R_far (p := ⟨gb160, 9, none⟩) (Kd.R_far (p := ⟨gb160, 8, none⟩) (Kd.R_far (p := ⟨gb160, 7, none⟩) (Kd.R_far (p := ⟨gb160, 6, none⟩) (Kd.R_far (p := ⟨gb160, 5, none⟩) (Kd.R_far (p := ⟨gb160, 4, none⟩) (Kd.R_far (p := ⟨gb160, 3, none⟩) (Kd.R_far (p := ⟨gb160, 2, none⟩) (Kd.R_far (p := ⟨gb160, 1, none⟩) (Kd.R_far (p := ⟨gb160, 0, none⟩) (Kd.R_types HO_4.out BK160.out (by decide)) (fun _ hk => hk.2) (.int .i64 ((rd_Op (rd_LOp l0_0 x3_1) x5_3).f0))) (fun _ hk => hk.2) (.int .i64 ((rd_Op (rd_LOp l0_0 x3_1) x5_3).f1))) (fun _ hk => hk.2) (.int .i64 ((rd_Op (rd_LOp l0_0 x3_1) x5_3).f2))) (fun _ hk => hk.2) (.int .i64 ((rd_Op (rd_LOp l0_0 x3_1) x5_3).f3.f0))) (fun _ hk => hk.2) (.int .i64 ((rd_Op (rd_LOp l0_0 x3_1) x5_3).f3.f1))) (fun _ hk => hk.2) (.int .i64 ((rd_Op (rd_LOp l0_0 x3_1) x5_3).f3.f2))) (fun _ hk => hk.2) (.string ((rd_Op (rd_LOp l0_0 x3_1) x5_3).f4))) (fun _ hk => hk.2) (.slice A159_7 ((rd_Op (rd_LOp l0_0 x3_1) x5_3).f5).length c159_7)) (fun _ hk => hk.2) (.int .i64 ((rd_Op (rd_LOp l0_0 x3_1) x5_3).f6))) (fun _ hk => hk.2) (.int .i64 ((rd_Op (rd_LOp l0_0 x3_1) x5_3).f7))) (fun _ hk => hk.2) (.int .i64 ((rd_Op (rd_LOp l0_0 x3_1) x5_3).f8))) (fun _ h_ => h_.1))) hb); have n1_ := Aside0.mk (Kd.R_below (by (with_reducible repeat (first | apply Kd.R_alloc | apply Kd.R_drewN | apply Kd.R_drew)); exact (Kd.R_mono (Kd.R_far (p := ⟨gb160, 10, none⟩) (Kd.R_far (p := ⟨gb160, 9, none⟩) (Kd.R_far (p := ⟨gb160, 8, none⟩) (Kd.R_far (p := ⟨gb160, 7, none⟩) (Kd.R_far (p := ⟨gb160, 6, none⟩) (Kd.R_far (p := ⟨gb160, 5, none⟩) (Kd.R_far (p := ⟨gb160, 4, none⟩) (Kd.R_far (p := ⟨gb160, 3, none⟩) (Kd.R_far (p := ⟨gb160, 2, none⟩) (Kd.R_far (p := ⟨gb160, 1, none⟩) (Kd.R_far (p := ⟨gb160, 0, none⟩) (Kd.R_types HO_6.out BK160.out (by decide)) (fun _ hk => hk.2) (.int .i64 ((rd_Op (rd_LOp l0_0 x3_1) x5_3).f0))) (fun _ hk => hk.2) (.int .i64 ((rd_Op (rd_LOp l0_0 x3_1) x5_3).f1))) (fun _ hk => hk.2) (.int .i64 ((rd_Op (rd_LOp l0_0 x3_1) x5_3).f2))) (fun _ hk => hk.2) (.int .i64 ((rd_Op (rd_LOp l0_0 x3_1) x5_3).f3.f0))) (fun _ hk => hk.2) (.int .i64 ((rd_Op (rd_LOp l0_0 x3_1) x5_3).f3.f1))) (fun _ hk => hk.2) (.int .i64 ((rd_Op (rd_LOp l0_0 x3_1) x5_3).f3.f2))) (fun _ hk => hk.2) (.string ((rd_Op (rd_LOp l0_0 x3_1) x5_3).f4))) (fun _ hk => hk.2) (.slice A159_7 ((rd_Op (rd_LOp l0_0 x3_1) x5_3).f5).length c159_7)) (fun _ hk => hk.2) (.int .i64 ((rd_Op (rd_LOp l0_0 x3_1) x5_3).f6))) (fun _ hk => hk.2) (.int .i64 ((rd_Op (rd_LOp l0_0 x3_1) x5_3).f7))) (fun _ hk => hk.2) (.int .i64 ((rd_Op (rd_LOp l0_0 x3_1) x5_3).f8))) (fun _ h_ => h_.1))) hb); have n2_ := Aside0.mk (Kd.R_below (by (with_reducible repeat (first | apply Kd.R_alloc | apply Kd.R_drewN | apply Kd.R_drew)); exact (Kd.R_mono (Kd.R_far (p := ⟨gb160, 10, none⟩) (Kd.R_far (p := ⟨gb160, 9, none⟩) (Kd.R_far (p := ⟨gb160, 8, none⟩) (Kd.R_far (p := ⟨gb160, 7, none⟩) (Kd.R_far (p := ⟨gb160, 6, none⟩) (Kd.R_far (p := ⟨gb160, 5, none⟩) (Kd.R_far (p := ⟨gb160, 4, none⟩) (Kd.R_far (p := ⟨gb160, 3, none⟩) (Kd.R_far (p := ⟨gb160, 2, none⟩) (Kd.R_far (p := ⟨gb160, 1, none⟩) (Kd.R_far (p := ⟨gb160, 0, none⟩) (Kd.R_types HO_8.out BK160.out (by decide)) (fun _ hk => hk.2) (.int .i64 ((rd_Op (rd_LOp l0_0 x3_1) x5_3).f0))) (fun _ hk => hk.2) (.int .i64 ((rd_Op (rd_LOp l0_0 x3_1) x5_3).f1))) (fun _ hk => hk.2) (.int .i64 ((rd_Op (rd_LOp l0_0 x3_1) x5_3).f2))) (fun _ hk => hk.2) (.int .i64 ((rd_Op (rd_LOp l0_0 x3_1) x5_3).f3.f0))) (fun _ hk => hk.2) (.int .i64 ((rd_Op (rd_LOp l0_0 x3_1) x5_3).f3.f1))) (fun _ hk => hk.2) (.int .i64 ((rd_Op (rd_LOp l0_0 x3_1) x5_3).f3.f2))) (fun _ hk => hk.2) (.string ((rd_Op (rd_LOp l0_0 x3_1) x5_3).f4))) (fun _ hk => hk.2) (.slice A159_7 ((rd_Op (rd_LOp l0_0 x3_1) x5_3).f5).length c159_7)) (fun _ hk => hk.2) (.int .i64 ((rd_Op (rd_LOp l0_0 x3_1) x5_3).f6))) (fun _ hk => hk.2) (.int .i64 ((rd_Op (rd_LOp l0_0 x3_1) x5_3).f7))) (fun _ hk => hk.2) (.int .i64 ((rd_Op (rd_LOp l0_0 x3_1) x5_3).f8))) (fun _ h_ => h_.1))) hb); have n3_ := Aside0.mk (blk_below (g := gb134) (o := .cells #[.slice (some ad137) l0_0.length c0_0, .slice A0_1 l0_1.length c0_1, .slice A0_2 l0_2.length c0_2, .slice A0_3 l0_3.length c0_3] 27 (0, 0)) (by (with_reducible repeat (first | refine blk_drewN ?_ _ | refine blk_drew ?_ | refine blk_alloc ?_ _)); refine blk_far ?_ NB134_160.out _; (with_reducible repeat (first | refine blk_drewN ?_ _ | refine blk_drew ?_ | refine blk_alloc ?_ _)); refine blk_far ?_ NB134_160.out _; (with_reducible repeat (first | refine blk_drewN ?_ _ | refine blk_drew ?_ | refine blk_alloc ?_ _)); refine blk_far ?_ NB134_160.out _; (with_reducible repeat (first | refine blk_drewN ?_ _ | refine blk_drew ?_ | refine blk_alloc ?_ _)); refine blk_far ?_ NB134_160.out _; (with_reducible repeat (first | refine blk_drewN ?_ _ | refine blk_drew ?_ | refine blk_alloc ?_ _)); refine blk_far ?_ NB134_160.out _; (with_reducible repeat (first | refine blk_drewN ?_ _ | refine blk_drew ?_ | refine blk_alloc ?_ _)); refine blk_far ?_ NB134_160.out _; (with_reducible repeat (first | refine blk_drewN ?_ _ | refine blk_drew ?_ | refine blk_alloc ?_ _)); refine blk_far ?_ NB134_160.out _; (with_reducible repeat (first | refine blk_drewN ?_ _ | refine blk_drew ?_ | refine blk_alloc ?_ _)); refine blk_far ?_ NB134_160.out _; (with_reducible repeat (first | refine blk_drewN ?_ _ | refine blk_drew ?_ | refine blk_alloc ?_ _)); refine blk_far ?_ NB134_160.out _; (with_reducible repeat (first | refine blk_drewN ?_ _ | refine blk_drew ?_ | refine blk_alloc ?_ _)); refine blk_far ?_ NB134_160.out _; (with_reducible repeat (first | refine blk_drewN ?_ _ | refine blk_drew ?_ | refine blk_alloc ?_ _)); refine blk_far ?_ NB134_160.out _; (with_reducible repeat (first | refine blk_drewN ?_ _ | refine blk_drew ?_ | refine blk_alloc ?_ _)); exact BK134.out) hb); have n4_ := Aside0.mk (blk_below (g := gb160) (o := .cells #[.int .i64 ((rd_Op (rd_LOp l0_0 x3_1) x5_3).f0), .int .i64 ((rd_Op (rd_LOp l0_0 x3_1) x5_3).f1), .int .i64 ((rd_Op (rd_LOp l0_0 x3_1) x5_3).f2), .int .i64 ((rd_Op (rd_LOp l0_0 x3_1) x5_3).f3.f0), .int .i64 ((rd_Op (rd_LOp l0_0 x3_1) x5_3).f3.f1), .int .i64 ((rd_Op (rd_LOp l0_0 x3_1) x5_3).f3.f2), .string ((rd_Op (rd_LOp l0_0 x3_1) x5_3).f4), .slice A159_7 ((rd_Op (rd_LOp l0_0 x3_1) x5_3).f5).length c159_7, .int .i64 ((rd_Op (rd_LOp l0_0 x3_1) x5_3).f6), .int .i64 ((rd_Op (rd_LOp l0_0 x3_1) x5_3).f7), .int .i64 ((rd_Op (rd_LOp l0_0 x3_1) x5_3).f8)] 39 (0, 0)) (by (with_reducible repeat (first | refine blk_drewN ?_ _ | refine blk_drew ?_ | refine blk_alloc ?_ _)); refine blk_put (cs := #[.int .i64 ((rd_Op (rd_LOp l0_0 x3_1) x5_3).f0), .int .i64 ((rd_Op (rd_LOp l0_0 x3_1) x5_3).f1), .int .i64 ((rd_Op (rd_LOp l0_0 x3_1) x5_3).f2), .int .i64 ((rd_Op (rd_LOp l0_0 x3_1) x5_3).f3.f0), .int .i64 ((rd_Op (rd_LOp l0_0 x3_1) x5_3).f3.f1), .int .i64 ((rd_Op (rd_LOp l0_0 x3_1) x5_3).f3.f2), .string ((rd_Op (rd_LOp l0_0 x3_1) x5_3).f4), .slice A159_7 ((rd_Op (rd_LOp l0_0 x3_1) x5_3).f5).length c159_7, .int .i64 ((rd_Op (rd_LOp l0_0 x3_1) x5_3).f6), .int .i64 ((rd_Op (rd_LOp l0_0 x3_1) x5_3).f7), .int .i64 0]) ?_ 10 _ rfl; (with_reducible repeat (first | refine blk_drewN ?_ _ | refine blk_drew ?_ | refine blk_alloc ?_ _)); refine blk_put (cs := #[.int .i64 ((rd_Op (rd_LOp l0_0 x3_1) x5_3).f0), .int .i64 ((rd_Op (rd_LOp l0_0 x3_1) x5_3).f1), .int .i64 ((rd_Op (rd_LOp l0_0 x3_1) x5_3).f2), .int .i64 ((rd_Op (rd_LOp l0_0 x3_1) x5_3).f3.f0), .int .i64 ((rd_Op (rd_LOp l0_0 x3_1) x5_3).f3.f1), .int .i64 ((rd_Op (rd_LOp l0_0 x3_1) x5_3).f3.f2), .string ((rd_Op (rd_LOp l0_0 x3_1) x5_3).f4), .slice A159_7 ((rd_Op (rd_LOp l0_0 x3_1) x5_3).f5).length c159_7, .int .i64 ((rd_Op (rd_LOp l0_0 x3_1) x5_3).f6), .int .i64 0, .int .i64 0]) ?_ 9 _ rfl; (with_reducible repeat (first | refine blk_drewN ?_ _ | refine blk_drew ?_ | refine blk_alloc ?_ _)); refine blk_put (cs := #[.int .i64 ((rd_Op (rd_LOp l0_0 x3_1) x5_3).f0), .int .i64 ((rd_Op (rd_LOp l0_0 x3_1) x5_3).f1), .int .i64 ((rd_Op (rd_LOp l0_0 x3_1) x5_3).f2), .int .i64 ((rd_Op (rd_LOp l0_0 x3_1) x5_3).f3.f0), .int .i64 ((rd_Op (rd_LOp l0_0 x3_1) x5_3).f3.f1), .int .i64 ((rd_Op (rd_LOp l0_0 x3_1) x5_3).f3.f2), .string ((rd_Op (rd_LOp l0_0 x3_1) x5_3).f4), .slice A159_7 ((rd_Op (rd_LOp l0_0 x3_1) x5_3).f5).length c159_7, .int .i64 0, .int .i64 0, .int .i64 0]) ?_ 8 _ rfl; (with_reducible repeat (first | refine blk_drewN ?_ _ | refine blk_drew ?_ | refine blk_alloc ?_ _)); refine blk_put (cs := #[.int .i64 ((rd_Op (rd_LOp l0_0 x3_1) x5_3).f0), .int .i64 ((rd_Op (rd_LOp l0_0 x3_1) x5_3).f1), .int .i64 ((rd_Op (rd_LOp l0_0 x3_1) x5_3).f2), .int .i64 ((rd_Op (rd_LOp l0_0 x3_1) x5_3).f3.f0), .int .i64 ((rd_Op (rd_LOp l0_0 x3_1) x5_3).f3.f1), .int .i64 ((rd_Op (rd_LOp l0_0 x3_1) x5_3).f3.f2), .string ((rd_Op (rd_LOp l0_0 x3_1) x5_3).f4), .slice none 0 0, .int .i64 0, .int .i64 0, .int .i64 0]) ?_ 7 _ rfl; (with_reducible repeat (first | refine blk_drewN ?_ _ | refine blk_drew ?_ | refine blk_alloc ?_ _)); refine blk_put (cs := #[.int .i64 ((rd_Op (rd_LOp l0_0 x3_1) x5_3).f0), .int .i64 ((rd_Op (rd_LOp l0_0 x3_1) x5_3).f1), .int .i64 ((rd_Op (rd_LOp l0_0 x3_1) x5_3).f2), .int .i64 ((rd_Op (rd_LOp l0_0 x3_1) x5_3).f3.f0), .int .i64 ((rd_Op (rd_LOp l0_0 x3_1) x5_3).f3.f1), .int .i64 ((rd_Op (rd_LOp l0_0 x3_1) x5_3).f3.f2), .string (⟨#[]⟩ : ByteArray), .slice none 0 0, .int .i64 0, .int .i64 0, .int .i64 0]) ?_ 6 _ rfl; (with_reducible repeat (first | refine blk_drewN ?_ _ | refine blk_drew ?_ | refine blk_alloc ?_ _)); refine blk_put (cs := #[.int .i64 ((rd_Op (rd_LOp l0_0 x3_1) x5_3).f0), .int .i64 ((rd_Op (rd_LOp l0_0 x3_1) x5_3).f1), .int .i64 ((rd_Op (rd_LOp l0_0 x3_1) x5_3).f2), .int .i64 ((rd_Op (rd_LOp l0_0 x3_1) x5_3).f3.f0), .int .i64 ((rd_Op (rd_LOp l0_0 x3_1) x5_3).f3.f1), .int .i64 0, .string (⟨#[]⟩ : ByteArray), .slice none 0 0, .int .i64 0, .int .i64 0, .int .i64 0]) ?_ 5 _ rfl; (with_reducible repeat (first | refine blk_drewN ?_ _ | refine blk_drew ?_ | refine blk_alloc ?_ _)); refine blk_put (cs := #[.int .i64 ((rd_Op (rd_LOp l0_0 x3_1) x5_3).f0), .int .i64 ((rd_Op (rd_LOp l0_0 x3_1) x5_3).f1), .int .i64 ((rd_Op (rd_LOp l0_0 x3_1) x5_3).f2), .int .i64 ((rd_Op (rd_LOp l0_0 x3_1) x5_3).f3.f0), .int .i64 0, .int .i64 0, .string (⟨#[]⟩ : ByteArray), .slice none 0 0, .int .i64 0, .int .i64 0, .int .i64 0]) ?_ 4 _ rfl; (with_reducible repeat (first | refine blk_drewN ?_ _ | refine blk_drew ?_ | refine blk_alloc ?_ _)); refine blk_put (cs := #[.int .i64 ((rd_Op (rd_LOp l0_0 x3_1) x5_3).f0), .int .i64 ((rd_Op (rd_LOp l0_0 x3_1) x5_3).f1), .int .i64 ((rd_Op (rd_LOp l0_0 x3_1) x5_3).f2), .int .i64 0, .int .i64 0, .int .i64 0, .string (⟨#[]⟩ : ByteArray), .slice none 0 0, .int .i64 0, .int .i64 0, .int .i64 0]) ?_ 3 _ rfl; (with_reducible repeat (first | refine blk_drewN ?_ _ | refine blk_drew ?_ | refine blk_alloc ?_ _)); refine blk_put (cs := #[.int .i64 ((rd_Op (rd_LOp l0_0 x3_1) x5_3).f0), .int .i64 ((rd_Op (rd_LOp l0_0 x3_1) x5_3).f1), .int .i64 0, .int .i64 0, .int .i64 0, .int .i64 0, .string (⟨#[]⟩ : ByteArray), .slice none 0 0, .int .i64 0, .int .i64 0, .int .i64 0]) ?_ 2 _ rfl; (with_reducible repeat (first | refine blk_drewN ?_ _ | refine blk_drew ?_ | refine blk_alloc ?_ _)); refine blk_put (cs := #[.int .i64 ((rd_Op (rd_LOp l0_0 x3_1) x5_3).f0), .int .i64 0, .int .i64 0, .int .i64 0, .int .i64 0, .int .i64 0, .string (⟨#[]⟩ : ByteArray), .slice none 0 0, .int .i64 0, .int .i64 0, .int .i64 0]) ?_ 1 _ rfl; (with_reducible repeat (first | refine blk_drewN ?_ _ | refine blk_drew ?_ | refine blk_alloc ?_ _)); refine blk_put (cs := #[.int .i64 0, .int .i64 0, .int .i64 0, .int .i64 0, .int .i64 0, .int .i64 0, .string (⟨#[]⟩ : ByteArray), .slice none 0 0, .int .i64 0, .int .i64 0, .int .i64 0]) ?_ 0 _ rfl; (with_reducible repeat (first | refine blk_drewN ?_ _ | refine blk_drew ?_ | refine blk_alloc ?_ _)); exact BK160.out) hb); have n5_ := Aside0.mk (below_step (by repeat (first | (with_reducible first | exact HB.out | apply below_alloc | apply pw_below_drewN | apply below_drew1 | refine below_set ?_ GE134.out | refine below_set ?_ GE160.out) | exact HB.out)) hb); clear HO_4; clear HO_6; clear HO_8; clear BK134; clear BK160; clear HB; have HO_4 := n0_; have HO_6 := n1_; have HO_8 := n2_; have BK134 := n3_; have BK160 := n4_; have HB := n5_; clear n0_ n1_ n2_ n3_ n4_ n5_; (try clear hb); (try clear hb2); (try clear hk); (try clear hi)))
                                                                go_meet
                                                                case rel => exact ⟨_, (wrap64 (t161 + 1)), (by first | rfl | (simp; done) | (simp [*]; done)), H', ⟨by have := HK1.out; have := HJ9.out; have := HK3.out; have := HJ28.out; have := HK5.out; first | omega | exact Nat.le_refl _⟩, ⟨by (with_reducible repeat (first | apply Kd.R_alloc | apply Kd.R_drewN | apply Kd.R_drew)); exact Kd.R_mono HO_4.out (fun _ hk => hk.1)⟩, ⟨by (with_reducible repeat (first | apply Kd.R_alloc | apply Kd.R_drewN | apply Kd.R_drew)); exact Kd.R_mono HO_6.out (fun _ hk => hk.1)⟩, ⟨by (with_reducible repeat (first | refine blk_drewN ?_ _ | refine blk_drew ?_ | refine blk_alloc ?_ _)); exact BK134.out⟩, ⟨by (with_reducible repeat (first | refine blk_drewN ?_ _ | refine blk_drew ?_ | refine blk_alloc ?_ _)); exact BK160.out⟩, ⟨by repeat (first | (with_reducible first | exact HB.out | apply below_alloc | apply pw_below_drewN | apply below_drew1 | refine below_set ?_ GE134.out | refine below_set ?_ GE160.out) | exact HB.out)⟩⟩
                                                            · rw [if_neg c72] at H
                                                              have c72b0 : (!(((rd_Op (rd_LOp l0_0 x3_1) x5_3).f3.f0) == 0) || (!(((rd_Op (rd_LOp l0_0 x3_1) x5_3).f3.f1) == 0) || (!(((rd_Op (rd_LOp l0_0 x3_1) x5_3).f3.f2) == 0)))) = false := by simpa using c72
                                                              clear c72
                                                              (first | rw [c72b0] | (simp only [i64_w, i32_w]; rw [c72b0]) | skip)
                                                              have H' := Aside0.mk H
                                                              clear H
                                                              go_wp2
                                                              go_meet
                                                              case rel => exact ⟨_, (0), (by first | rfl | (simp; done) | (simp [*]; done)), H', ⟨by have := HK1.out; have := HJ9.out; have := HK3.out; have := HJ28.out; have := HK5.out; first | omega | exact Nat.le_refl _⟩, ⟨by (with_reducible repeat (first | apply Kd.R_alloc | apply Kd.R_drewN | apply Kd.R_drew)); exact Kd.R_mono (Kd.R_far (p := ⟨gb160, 10, none⟩) (Kd.R_far (p := ⟨gb160, 9, none⟩) (Kd.R_far (p := ⟨gb160, 8, none⟩) (Kd.R_far (p := ⟨gb160, 7, none⟩) (Kd.R_far (p := ⟨gb160, 6, none⟩) (Kd.R_far (p := ⟨gb160, 5, none⟩) (Kd.R_far (p := ⟨gb160, 4, none⟩) (Kd.R_far (p := ⟨gb160, 3, none⟩) (Kd.R_far (p := ⟨gb160, 2, none⟩) (Kd.R_far (p := ⟨gb160, 1, none⟩) (Kd.R_far (p := ⟨gb160, 0, none⟩) (Kd.R_types HO_4.out BK160.out (by decide)) (fun _ hk => hk.2) (.int .i64 ((rd_Op (rd_LOp l0_0 x3_1) x5_3).f0))) (fun _ hk => hk.2) (.int .i64 ((rd_Op (rd_LOp l0_0 x3_1) x5_3).f1))) (fun _ hk => hk.2) (.int .i64 ((rd_Op (rd_LOp l0_0 x3_1) x5_3).f2))) (fun _ hk => hk.2) (.int .i64 ((rd_Op (rd_LOp l0_0 x3_1) x5_3).f3.f0))) (fun _ hk => hk.2) (.int .i64 ((rd_Op (rd_LOp l0_0 x3_1) x5_3).f3.f1))) (fun _ hk => hk.2) (.int .i64 ((rd_Op (rd_LOp l0_0 x3_1) x5_3).f3.f2))) (fun _ hk => hk.2) (.string ((rd_Op (rd_LOp l0_0 x3_1) x5_3).f4))) (fun _ hk => hk.2) (.slice A159_7 ((rd_Op (rd_LOp l0_0 x3_1) x5_3).f5).length c159_7)) (fun _ hk => hk.2) (.int .i64 ((rd_Op (rd_LOp l0_0 x3_1) x5_3).f6))) (fun _ hk => hk.2) (.int .i64 ((rd_Op (rd_LOp l0_0 x3_1) x5_3).f7))) (fun _ hk => hk.2) (.int .i64 ((rd_Op (rd_LOp l0_0 x3_1) x5_3).f8))) (fun _ hk => hk.1.1)⟩, ⟨by (with_reducible repeat (first | apply Kd.R_alloc | apply Kd.R_drewN | apply Kd.R_drew)); exact Kd.R_mono (Kd.R_far (p := ⟨gb160, 10, none⟩) (Kd.R_far (p := ⟨gb160, 9, none⟩) (Kd.R_far (p := ⟨gb160, 8, none⟩) (Kd.R_far (p := ⟨gb160, 7, none⟩) (Kd.R_far (p := ⟨gb160, 6, none⟩) (Kd.R_far (p := ⟨gb160, 5, none⟩) (Kd.R_far (p := ⟨gb160, 4, none⟩) (Kd.R_far (p := ⟨gb160, 3, none⟩) (Kd.R_far (p := ⟨gb160, 2, none⟩) (Kd.R_far (p := ⟨gb160, 1, none⟩) (Kd.R_far (p := ⟨gb160, 0, none⟩) (Kd.R_types HO_6.out BK160.out (by decide)) (fun _ hk => hk.2) (.int .i64 ((rd_Op (rd_LOp l0_0 x3_1) x5_3).f0))) (fun _ hk => hk.2) (.int .i64 ((rd_Op (rd_LOp l0_0 x3_1) x5_3).f1))) (fun _ hk => hk.2) (.int .i64 ((rd_Op (rd_LOp l0_0 x3_1) x5_3).f2))) (fun _ hk => hk.2) (.int .i64 ((rd_Op (rd_LOp l0_0 x3_1) x5_3).f3.f0))) (fun _ hk => hk.2) (.int .i64 ((rd_Op (rd_LOp l0_0 x3_1) x5_3).f3.f1))) (fun _ hk => hk.2) (.int .i64 ((rd_Op (rd_LOp l0_0 x3_1) x5_3).f3.f2))) (fun _ hk => hk.2) (.string ((rd_Op (rd_LOp l0_0 x3_1) x5_3).f4))) (fun _ hk => hk.2) (.slice A159_7 ((rd_Op (rd_LOp l0_0 x3_1) x5_3).f5).length c159_7)) (fun _ hk => hk.2) (.int .i64 ((rd_Op (rd_LOp l0_0 x3_1) x5_3).f6))) (fun _ hk => hk.2) (.int .i64 ((rd_Op (rd_LOp l0_0 x3_1) x5_3).f7))) (fun _ hk => hk.2) (.int .i64 ((rd_Op (rd_LOp l0_0 x3_1) x5_3).f8))) (fun _ hk => hk.1.1)⟩, ⟨by (with_reducible repeat (first | refine blk_drewN ?_ _ | refine blk_drew ?_ | refine blk_alloc ?_ _)); refine blk_far ?_ NB134_160.out _; (with_reducible repeat (first | refine blk_drewN ?_ _ | refine blk_drew ?_ | refine blk_alloc ?_ _)); refine blk_far ?_ NB134_160.out _; (with_reducible repeat (first | refine blk_drewN ?_ _ | refine blk_drew ?_ | refine blk_alloc ?_ _)); refine blk_far ?_ NB134_160.out _; (with_reducible repeat (first | refine blk_drewN ?_ _ | refine blk_drew ?_ | refine blk_alloc ?_ _)); refine blk_far ?_ NB134_160.out _; (with_reducible repeat (first | refine blk_drewN ?_ _ | refine blk_drew ?_ | refine blk_alloc ?_ _)); refine blk_far ?_ NB134_160.out _; (with_reducible repeat (first | refine blk_drewN ?_ _ | refine blk_drew ?_ | refine blk_alloc ?_ _)); refine blk_far ?_ NB134_160.out _; (with_reducible repeat (first | refine blk_drewN ?_ _ | refine blk_drew ?_ | refine blk_alloc ?_ _)); refine blk_far ?_ NB134_160.out _; (with_reducible repeat (first | refine blk_drewN ?_ _ | refine blk_drew ?_ | refine blk_alloc ?_ _)); refine blk_far ?_ NB134_160.out _; (with_reducible repeat (first | refine blk_drewN ?_ _ | refine blk_drew ?_ | refine blk_alloc ?_ _)); refine blk_far ?_ NB134_160.out _; (with_reducible repeat (first | refine blk_drewN ?_ _ | refine blk_drew ?_ | refine blk_alloc ?_ _)); refine blk_far ?_ NB134_160.out _; (with_reducible repeat (first | refine blk_drewN ?_ _ | refine blk_drew ?_ | refine blk_alloc ?_ _)); refine blk_far ?_ NB134_160.out _; (with_reducible repeat (first | refine blk_drewN ?_ _ | refine blk_drew ?_ | refine blk_alloc ?_ _)); exact BK134.out⟩, ⟨by (with_reducible repeat (first | refine blk_drewN ?_ _ | refine blk_drew ?_ | refine blk_alloc ?_ _)); refine blk_put (cs := #[.int .i64 ((rd_Op (rd_LOp l0_0 x3_1) x5_3).f0), .int .i64 ((rd_Op (rd_LOp l0_0 x3_1) x5_3).f1), .int .i64 ((rd_Op (rd_LOp l0_0 x3_1) x5_3).f2), .int .i64 ((rd_Op (rd_LOp l0_0 x3_1) x5_3).f3.f0), .int .i64 ((rd_Op (rd_LOp l0_0 x3_1) x5_3).f3.f1), .int .i64 ((rd_Op (rd_LOp l0_0 x3_1) x5_3).f3.f2), .string ((rd_Op (rd_LOp l0_0 x3_1) x5_3).f4), .slice A159_7 ((rd_Op (rd_LOp l0_0 x3_1) x5_3).f5).length c159_7, .int .i64 ((rd_Op (rd_LOp l0_0 x3_1) x5_3).f6), .int .i64 ((rd_Op (rd_LOp l0_0 x3_1) x5_3).f7), .int .i64 0]) ?_ 10 _ rfl; (with_reducible repeat (first | refine blk_drewN ?_ _ | refine blk_drew ?_ | refine blk_alloc ?_ _)); refine blk_put (cs := #[.int .i64 ((rd_Op (rd_LOp l0_0 x3_1) x5_3).f0), .int .i64 ((rd_Op (rd_LOp l0_0 x3_1) x5_3).f1), .int .i64 ((rd_Op (rd_LOp l0_0 x3_1) x5_3).f2), .int .i64 ((rd_Op (rd_LOp l0_0 x3_1) x5_3).f3.f0), .int .i64 ((rd_Op (rd_LOp l0_0 x3_1) x5_3).f3.f1), .int .i64 ((rd_Op (rd_LOp l0_0 x3_1) x5_3).f3.f2), .string ((rd_Op (rd_LOp l0_0 x3_1) x5_3).f4), .slice A159_7 ((rd_Op (rd_LOp l0_0 x3_1) x5_3).f5).length c159_7, .int .i64 ((rd_Op (rd_LOp l0_0 x3_1) x5_3).f6), .int .i64 0, .int .i64 0]) ?_ 9 _ rfl; (with_reducible repeat (first | refine blk_drewN ?_ _ | refine blk_drew ?_ | refine blk_alloc ?_ _)); refine blk_put (cs := #[.int .i64 ((rd_Op (rd_LOp l0_0 x3_1) x5_3).f0), .int .i64 ((rd_Op (rd_LOp l0_0 x3_1) x5_3).f1), .int .i64 ((rd_Op (rd_LOp l0_0 x3_1) x5_3).f2), .int .i64 ((rd_Op (rd_LOp l0_0 x3_1) x5_3).f3.f0), .int .i64 ((rd_Op (rd_LOp l0_0 x3_1) x5_3).f3.f1), .int .i64 ((rd_Op (rd_LOp l0_0 x3_1) x5_3).f3.f2), .string ((rd_Op (rd_LOp l0_0 x3_1) x5_3).f4), .slice A159_7 ((rd_Op (rd_LOp l0_0 x3_1) x5_3).f5).length c159_7, .int .i64 0, .int .i64 0, .int .i64 0]) ?_ 8 _ rfl; (with_reducible repeat (first | refine blk_drewN ?_ _ | refine blk_drew ?_ | refine blk_alloc ?_ _)); refine blk_put (cs := #[.int .i64 ((rd_Op (rd_LOp l0_0 x3_1) x5_3).f0), .int .i64 ((rd_Op (rd_LOp l0_0 x3_1) x5_3).f1), .int .i64 ((rd_Op (rd_LOp l0_0 x3_1) x5_3).f2), .int .i64 ((rd_Op (rd_LOp l0_0 x3_1) x5_3).f3.f0), .int .i64 ((rd_Op (rd_LOp l0_0 x3_1) x5_3).f3.f1), .int .i64 ((rd_Op (rd_LOp l0_0 x3_1) x5_3).f3.f2), .string ((rd_Op (rd_LOp l0_0 x3_1) x5_3).f4), .slice none 0 0, .int .i64 0, .int .i64 0, .int .i64 0]) ?_ 7 _ rfl; (with_reducible repeat (first | refine blk_drewN ?_ _ | refine blk_drew ?_ | refine blk_alloc ?_ _)); refine blk_put (cs := #[.int .i64 ((rd_Op (rd_LOp l0_0 x3_1) x5_3).f0), .int .i64 ((rd_Op (rd_LOp l0_0 x3_1) x5_3).f1), .int .i64 ((rd_Op (rd_LOp l0_0 x3_1) x5_3).f2), .int .i64 ((rd_Op (rd_LOp l0_0 x3_1) x5_3).f3.f0), .int .i64 ((rd_Op (rd_LOp l0_0 x3_1) x5_3).f3.f1), .int .i64 ((rd_Op (rd_LOp l0_0 x3_1) x5_3).f3.f2), .string (⟨#[]⟩ : ByteArray), .slice none 0 0, .int .i64 0, .int .i64 0, .int .i64 0]) ?_ 6 _ rfl; (with_reducible repeat (first | refine blk_drewN ?_ _ | refine blk_drew ?_ | refine blk_alloc ?_ _)); refine blk_put (cs := #[.int .i64 ((rd_Op (rd_LOp l0_0 x3_1) x5_3).f0), .int .i64 ((rd_Op (rd_LOp l0_0 x3_1) x5_3).f1), .int .i64 ((rd_Op (rd_LOp l0_0 x3_1) x5_3).f2), .int .i64 ((rd_Op (rd_LOp l0_0 x3_1) x5_3).f3.f0), .int .i64 ((rd_Op (rd_LOp l0_0 x3_1) x5_3).f3.f1), .int .i64 0, .string (⟨#[]⟩ : ByteArray), .slice none 0 0, .int .i64 0, .int .i64 0, .int .i64 0]) ?_ 5 _ rfl; (with_reducible repeat (first | refine blk_drewN ?_ _ | refine blk_drew ?_ | refine blk_alloc ?_ _)); refine blk_put (cs := #[.int .i64 ((rd_Op (rd_LOp l0_0 x3_1) x5_3).f0), .int .i64 ((rd_Op (rd_LOp l0_0 x3_1) x5_3).f1), .int .i64 ((rd_Op (rd_LOp l0_0 x3_1) x5_3).f2), .int .i64 ((rd_Op (rd_LOp l0_0 x3_1) x5_3).f3.f0), .int .i64 0, .int .i64 0, .string (⟨#[]⟩ : ByteArray), .slice none 0 0, .int .i64 0, .int .i64 0, .int .i64 0]) ?_ 4 _ rfl; (with_reducible repeat (first | refine blk_drewN ?_ _ | refine blk_drew ?_ | refine blk_alloc ?_ _)); refine blk_put (cs := #[.int .i64 ((rd_Op (rd_LOp l0_0 x3_1) x5_3).f0), .int .i64 ((rd_Op (rd_LOp l0_0 x3_1) x5_3).f1), .int .i64 ((rd_Op (rd_LOp l0_0 x3_1) x5_3).f2), .int .i64 0, .int .i64 0, .int .i64 0, .string (⟨#[]⟩ : ByteArray), .slice none 0 0, .int .i64 0, .int .i64 0, .int .i64 0]) ?_ 3 _ rfl; (with_reducible repeat (first | refine blk_drewN ?_ _ | refine blk_drew ?_ | refine blk_alloc ?_ _)); refine blk_put (cs := #[.int .i64 ((rd_Op (rd_LOp l0_0 x3_1) x5_3).f0), .int .i64 ((rd_Op (rd_LOp l0_0 x3_1) x5_3).f1), .int .i64 0, .int .i64 0, .int .i64 0, .int .i64 0, .string (⟨#[]⟩ : ByteArray), .slice none 0 0, .int .i64 0, .int .i64 0, .int .i64 0]) ?_ 2 _ rfl; (with_reducible repeat (first | refine blk_drewN ?_ _ | refine blk_drew ?_ | refine blk_alloc ?_ _)); refine blk_put (cs := #[.int .i64 ((rd_Op (rd_LOp l0_0 x3_1) x5_3).f0), .int .i64 0, .int .i64 0, .int .i64 0, .int .i64 0, .int .i64 0, .string (⟨#[]⟩ : ByteArray), .slice none 0 0, .int .i64 0, .int .i64 0, .int .i64 0]) ?_ 1 _ rfl; (with_reducible repeat (first | refine blk_drewN ?_ _ | refine blk_drew ?_ | refine blk_alloc ?_ _)); refine blk_put (cs := #[.int .i64 0, .int .i64 0, .int .i64 0, .int .i64 0, .int .i64 0, .int .i64 0, .string (⟨#[]⟩ : ByteArray), .slice none 0 0, .int .i64 0, .int .i64 0, .int .i64 0]) ?_ 0 _ rfl; (with_reducible repeat (first | refine blk_drewN ?_ _ | refine blk_drew ?_ | refine blk_alloc ?_ _)); exact BK160.out⟩, ⟨by repeat (first | (with_reducible first | exact HB.out | apply below_alloc | apply pw_below_drewN | apply below_drew1 | refine below_set ?_ GE134.out | refine below_set ?_ GE160.out) | exact HB.out)⟩⟩
                                                          case rest =>
                                                            clear HC64
                                                            try clear c3; try clear c11; try clear c11b0; try clear c14; try clear c15; try clear c15b0; try clear c16; try clear c16b0; try clear c19; try clear c19b0; try clear c19b1; try clear c22; try clear c22b0; try clear c23; try clear c23b0; try clear c24; try clear c24b0; try clear c26; try clear c26b0; try clear c26b1; try clear c27; try clear c27b0; try clear c27b1; try clear q31; try clear c34; try clear c34b0; try clear c34b1; try clear c37; try clear c38; try clear c38b0; try clear c39; try clear c39b0; try clear c41; try clear c41b0; try clear c42; try clear c51; try clear c52; try clear c52b0; try clear c53; try clear c53b0; try clear c54; try clear c54b0; try clear c55; try clear c55b0; try clear c56; try clear c56b0; try clear c56b1; try clear c72; try clear c72b0; try clear c74; try clear c74b0; try clear c74b1; try clear hcz12_0; try clear hcz12_1; try clear hcz12_2; try clear hcz12_3; try clear hcz13_0; try clear hcz13_1; try clear hcz13_2; try clear hcz13_3; try clear hcz20_0; try clear hcz20_1; try clear hcz20_2; try clear hcz20_3; try clear hcz30_0; try clear hcz30_1; try clear hcz30_2; try clear hcz30_3; try clear hcz5_0; try clear hcz5_1; try clear hcz5_2; try clear hcz5_3; try clear hcz60_0; try clear hcz60_1; try clear hcz60_2; try clear hcz60_3; try clear hcz63_0; try clear hcz63_1; try clear hcz63_10; try clear hcz63_2; try clear hcz63_3; try clear hcz63_4; try clear hcz63_5; try clear hcz63_6; try clear hcz63_7; try clear hcz63_8; try clear hcz63_9; try clear hcz68_0; try clear hcz68_1; try clear hcz68_2; try clear hcz68_3; try clear hcz71_0; try clear hcz71_1; try clear hcz71_10; try clear hcz71_2; try clear hcz71_3; try clear hcz71_4; try clear hcz71_5; try clear hcz71_6; try clear hcz71_7; try clear hcz71_8; try clear hcz71_9; try clear hcz76_0; try clear hcz76_1; try clear hcz76_10; try clear hcz76_2; try clear hcz76_3; try clear hcz76_4; try clear hcz76_5; try clear hcz76_6; try clear hcz76_7; try clear hcz76_8; try clear hcz76_9; try clear hcz79_0; try clear hcz79_1; try clear hcz79_10; try clear hcz79_2; try clear hcz79_3; try clear hcz79_4; try clear hcz79_5; try clear hcz79_6; try clear hcz79_7; try clear hcz79_8; try clear hcz79_9; try clear hcz8_0; try clear hcz8_1; try clear hcz8_2; try clear hcz8_3; try clear hfz12_0; try clear hfz12_1; try clear hfz12_2; try clear hfz12_3; try clear hfz13_0; try clear hfz13_1; try clear hfz13_2; try clear hfz13_3; try clear hfz20_0; try clear hfz20_1; try clear hfz20_2; try clear hfz20_3; try clear hfz30_0; try clear hfz30_1; try clear hfz30_2; try clear hfz30_3; try clear hfz5_0; try clear hfz5_1; try clear hfz5_2; try clear hfz5_3; try clear hfz60_0; try clear hfz60_1; try clear hfz60_2; try clear hfz60_3; try clear hfz63_0; try clear hfz63_1; try clear hfz63_10; try clear hfz63_2; try clear hfz63_3; try clear hfz63_4; try clear hfz63_5; try clear hfz63_6; try clear hfz63_7; try clear hfz63_8; try clear hfz63_9; try clear hfz68_0; try clear hfz68_1; try clear hfz68_2; try clear hfz68_3; try clear hfz71_0; try clear hfz71_1; try clear hfz71_10; try clear hfz71_2; try clear hfz71_3; try clear hfz71_4; try clear hfz71_5; try clear hfz71_6; try clear hfz71_7; try clear hfz71_8; try clear hfz71_9; try clear hfz76_0; try clear hfz76_1; try clear hfz76_10; try clear hfz76_2; try clear hfz76_3; try clear hfz76_4; try clear hfz76_5; try clear hfz76_6; try clear hfz76_7; try clear hfz76_8; try clear hfz76_9; try clear hfz79_0; try clear hfz79_1; try clear hfz79_10; try clear hfz79_2; try clear hfz79_3; try clear hfz79_4; try clear hfz79_5; try clear hfz79_6; try clear hfz79_7; try clear hfz79_8; try clear hfz79_9; try clear hfz8_0; try clear hfz8_1; try clear hfz8_2; try clear hfz8_3; try clear hx137_0; try clear hx140_0; try clear hx141_0; try clear hx151_0; try clear hx151_1; try clear hx151_2; try clear hx153_0; try clear hx153_1; try clear hx153_2; try clear hx158_0; try clear hx159_0; try clear hx159_1; try clear hx159_10; try clear hx159_2; try clear hx159_3; try clear hx159_4; try clear hx159_5; try clear hx159_6; try clear hx159_7; try clear hx159_8; try clear hx159_9; try clear p137; try clear p140; try clear p141; try clear p151; try clear p153; try clear p158; try clear p159; try clear q137; try clear q140; try clear q141; try clear q151; try clear q153; try clear q158; try clear q159; try clear q31
                                                            obtain ⟨kq, x11_63, rfl, HA, HJ63, HO_4, HO_6, BK134, BK160, HB⟩ := hcut
                                                            cases kq with
                                                            | zero => exact absurd HA.out (by simp [lectionarylaw5_TreeStays.j5])
                                                            | succ kj63 =>
                                                              have H := HA.out
                                                              clear HA
                                                              simp only [lectionarylaw5_TreeStays.j5] at H
                                                              have H' := Aside0.mk H
                                                              clear H
                                                              go_wp2
                                                              go_loopg [12] kj63 (fun kq v12 w' => ∃ (x12_7 : Int), v12 = .int .i64 x12_7 ∧ Aside0 (lectionarylaw5_TreeStays.l3 kq x3_1 x4_3 x5_3 t146 x11_63 x12_7 l0_0 l0_1 l0_2 l0_3 ((rd_Op (rd_LOp l0_0 x3_1) x5_3).f0) ((rd_Op (rd_LOp l0_0 x3_1) x5_3).f1) ((rd_Op (rd_LOp l0_0 x3_1) x5_3).f2) ((rd_Op (rd_LOp l0_0 x3_1) x5_3).f3.f0) ((rd_Op (rd_LOp l0_0 x3_1) x5_3).f3.f1) ((rd_Op (rd_LOp l0_0 x3_1) x5_3).f3.f2) ((rd_Op (rd_LOp l0_0 x3_1) x5_3).f4) ((rd_Op (rd_LOp l0_0 x3_1) x5_3).f5) ((rd_Op (rd_LOp l0_0 x3_1) x5_3).f6) ((rd_Op (rd_LOp l0_0 x3_1) x5_3).f7) ((rd_Op (rd_LOp l0_0 x3_1) x5_3).f8) = some r) ∧ Aside0 (kq ≤ kj63) ∧ Aside0 (Kd.R kElem 36 w' w.heap.size (fun k_ => some k_ ≠ ((.slice Ao65 t146.length co65) : Value).ownBlock) (.slice Ao67 x4_3.length co67) x4_3) ∧ Aside0 (Kd.R kElem 36 w' w.heap.size (fun k_ => some k_ ≠ ((.slice Ao67 x4_3.length co67) : Value).ownBlock) (.slice Ao65 t146.length co65) t146) ∧ Aside0 (w'.heap[gb134]? = some (.cells #[(.slice (some ad137) l0_0.length c0_0), (.slice A0_1 l0_1.length c0_1), (.slice A0_2 l0_2.length c0_2), (.slice A0_3 l0_3.length c0_3)] 27 (0, 0))) ∧ Aside0 (w'.heap[gb160]? = some (.cells #[.int .i64 ((rd_Op (rd_LOp l0_0 x3_1) x5_3).f0), .int .i64 ((rd_Op (rd_LOp l0_0 x3_1) x5_3).f1), .int .i64 ((rd_Op (rd_LOp l0_0 x3_1) x5_3).f2), .int .i64 ((rd_Op (rd_LOp l0_0 x3_1) x5_3).f3.f0), .int .i64 ((rd_Op (rd_LOp l0_0 x3_1) x5_3).f3.f1), .int .i64 ((rd_Op (rd_LOp l0_0 x3_1) x5_3).f3.f2), .string ((rd_Op (rd_LOp l0_0 x3_1) x5_3).f4), (.slice A159_7 ((rd_Op (rd_LOp l0_0 x3_1) x5_3).f5).length c159_7), .int .i64 ((rd_Op (rd_LOp l0_0 x3_1) x5_3).f6), .int .i64 ((rd_Op (rd_LOp l0_0 x3_1) x5_3).f7), .int .i64 ((rd_Op (rd_LOp l0_0 x3_1) x5_3).f8)] 39 (0, 0))) ∧ Aside0 (Below w.heap.size w w'))
                                                              case atStart => exact ⟨(x11_63), (by first | rfl | (simp; done) | (simp [*]; done)), H', ⟨Nat.le_refl _⟩, ⟨by (with_reducible repeat (first | apply Kd.R_alloc | apply Kd.R_drewN | apply Kd.R_drew)); exact HO_4.out⟩, ⟨by (with_reducible repeat (first | apply Kd.R_alloc | apply Kd.R_drewN | apply Kd.R_drew)); exact HO_6.out⟩, ⟨by (with_reducible repeat (first | refine blk_drewN ?_ _ | refine blk_drew ?_ | refine blk_alloc ?_ _)); exact BK134.out⟩, ⟨by (with_reducible repeat (first | refine blk_drewN ?_ _ | refine blk_drew ?_ | refine blk_alloc ?_ _)); exact BK160.out⟩, ⟨by repeat (first | (with_reducible first | exact HB.out | apply below_alloc | apply pw_below_drewN | apply below_drew1 | refine below_set ?_ GE134.out | refine below_set ?_ GE160.out) | exact HB.out)⟩⟩
                                                              case round =>
                                                                clear H'
                                                                try clear c3; try clear c11; try clear c11b0; try clear c14; try clear c15; try clear c15b0; try clear c16; try clear c16b0; try clear c19; try clear c19b0; try clear c19b1; try clear c22; try clear c22b0; try clear c23; try clear c23b0; try clear c24; try clear c24b0; try clear c26; try clear c26b0; try clear c26b1; try clear c27; try clear c27b0; try clear c27b1; try clear q31; try clear c34; try clear c34b0; try clear c34b1; try clear c37; try clear c38; try clear c38b0; try clear c39; try clear c39b0; try clear c41; try clear c41b0; try clear c42; try clear c51; try clear c52; try clear c52b0; try clear c53; try clear c53b0; try clear c54; try clear c54b0; try clear c55; try clear c55b0; try clear c56; try clear c56b0; try clear c56b1; try clear c72; try clear c72b0; try clear c74; try clear c74b0; try clear c74b1; try clear hcz12_0; try clear hcz12_1; try clear hcz12_2; try clear hcz12_3; try clear hcz13_0; try clear hcz13_1; try clear hcz13_2; try clear hcz13_3; try clear hcz20_0; try clear hcz20_1; try clear hcz20_2; try clear hcz20_3; try clear hcz30_0; try clear hcz30_1; try clear hcz30_2; try clear hcz30_3; try clear hcz5_0; try clear hcz5_1; try clear hcz5_2; try clear hcz5_3; try clear hcz60_0; try clear hcz60_1; try clear hcz60_2; try clear hcz60_3; try clear hcz63_0; try clear hcz63_1; try clear hcz63_10; try clear hcz63_2; try clear hcz63_3; try clear hcz63_4; try clear hcz63_5; try clear hcz63_6; try clear hcz63_7; try clear hcz63_8; try clear hcz63_9; try clear hcz68_0; try clear hcz68_1; try clear hcz68_2; try clear hcz68_3; try clear hcz71_0; try clear hcz71_1; try clear hcz71_10; try clear hcz71_2; try clear hcz71_3; try clear hcz71_4; try clear hcz71_5; try clear hcz71_6; try clear hcz71_7; try clear hcz71_8; try clear hcz71_9; try clear hcz76_0; try clear hcz76_1; try clear hcz76_10; try clear hcz76_2; try clear hcz76_3; try clear hcz76_4; try clear hcz76_5; try clear hcz76_6; try clear hcz76_7; try clear hcz76_8; try clear hcz76_9; try clear hcz79_0; try clear hcz79_1; try clear hcz79_10; try clear hcz79_2; try clear hcz79_3; try clear hcz79_4; try clear hcz79_5; try clear hcz79_6; try clear hcz79_7; try clear hcz79_8; try clear hcz79_9; try clear hcz8_0; try clear hcz8_1; try clear hcz8_2; try clear hcz8_3; try clear hfz12_0; try clear hfz12_1; try clear hfz12_2; try clear hfz12_3; try clear hfz13_0; try clear hfz13_1; try clear hfz13_2; try clear hfz13_3; try clear hfz20_0; try clear hfz20_1; try clear hfz20_2; try clear hfz20_3; try clear hfz30_0; try clear hfz30_1; try clear hfz30_2; try clear hfz30_3; try clear hfz5_0; try clear hfz5_1; try clear hfz5_2; try clear hfz5_3; try clear hfz60_0; try clear hfz60_1; try clear hfz60_2; try clear hfz60_3; try clear hfz63_0; try clear hfz63_1; try clear hfz63_10; try clear hfz63_2; try clear hfz63_3; try clear hfz63_4; try clear hfz63_5; try clear hfz63_6; try clear hfz63_7; try clear hfz63_8; try clear hfz63_9; try clear hfz68_0; try clear hfz68_1; try clear hfz68_2; try clear hfz68_3; try clear hfz71_0; try clear hfz71_1; try clear hfz71_10; try clear hfz71_2; try clear hfz71_3; try clear hfz71_4; try clear hfz71_5; try clear hfz71_6; try clear hfz71_7; try clear hfz71_8; try clear hfz71_9; try clear hfz76_0; try clear hfz76_1; try clear hfz76_10; try clear hfz76_2; try clear hfz76_3; try clear hfz76_4; try clear hfz76_5; try clear hfz76_6; try clear hfz76_7; try clear hfz76_8; try clear hfz76_9; try clear hfz79_0; try clear hfz79_1; try clear hfz79_10; try clear hfz79_2; try clear hfz79_3; try clear hfz79_4; try clear hfz79_5; try clear hfz79_6; try clear hfz79_7; try clear hfz79_8; try clear hfz79_9; try clear hfz8_0; try clear hfz8_1; try clear hfz8_2; try clear hfz8_3; try clear hx137_0; try clear hx140_0; try clear hx141_0; try clear hx151_0; try clear hx151_1; try clear hx151_2; try clear hx153_0; try clear hx153_1; try clear hx153_2; try clear hx158_0; try clear hx159_0; try clear hx159_1; try clear hx159_10; try clear hx159_2; try clear hx159_3; try clear hx159_4; try clear hx159_5; try clear hx159_6; try clear hx159_7; try clear hx159_8; try clear hx159_9; try clear p137; try clear p140; try clear p141; try clear p151; try clear p153; try clear p158; try clear p159; try clear q137; try clear q140; try clear q141; try clear q151; try clear q153; try clear q158; try clear q159; try clear q31
                                                                obtain ⟨x12_7, rfl, HA, HK7, HO_4, HO_6, BK134, BK160, HB⟩ := hrel
                                                                cases gk with
                                                                | zero => exact absurd HA.out (by simp [lectionarylaw5_TreeStays.l3])
                                                                | succ k7 =>
                                                                  have H := HA.out
                                                                  clear HA
                                                                  simp only [lectionarylaw5_TreeStays.l3] at H
                                                                  by_cases c81 : x12_7 < (wrap64 ((wrap64 (x11_63 + (t146.length : Int))) - (x4_3.length : Int)))
                                                                  · rw [if_pos c81] at H
                                                                    have c81b0 : decide (x12_7 < (wrap64 ((wrap64 (x11_63 + (t146.length : Int))) - (x4_3.length : Int)))) = true := decide_eq_true c81
                                                                    clear c81
                                                                    have HC82 := Aside0.mk H
                                                                    clear H
                                                                    go_upto_region 32 with (fail)
                                                                    go_cut [158] (fun v158 wc => ∃ (kq : Nat) (x158_81 : Bool), v158 = .bool x158_81 ∧ Aside0 (lectionarylaw5_TreeStays.j7 kq x3_1 x4_3 x5_3 t146 x11_63 x12_7 x158_81 l0_0 l0_1 l0_2 l0_3 ((rd_Op (rd_LOp l0_0 x3_1) x5_3).f0) ((rd_Op (rd_LOp l0_0 x3_1) x5_3).f1) ((rd_Op (rd_LOp l0_0 x3_1) x5_3).f2) ((rd_Op (rd_LOp l0_0 x3_1) x5_3).f3.f0) ((rd_Op (rd_LOp l0_0 x3_1) x5_3).f3.f1) ((rd_Op (rd_LOp l0_0 x3_1) x5_3).f3.f2) ((rd_Op (rd_LOp l0_0 x3_1) x5_3).f4) ((rd_Op (rd_LOp l0_0 x3_1) x5_3).f5) ((rd_Op (rd_LOp l0_0 x3_1) x5_3).f6) ((rd_Op (rd_LOp l0_0 x3_1) x5_3).f7) ((rd_Op (rd_LOp l0_0 x3_1) x5_3).f8) = some r) ∧ Aside0 (kq ≤ k7) ∧ Aside0 (Kd.R kElem 36 wc w.heap.size (fun k_ => some k_ ≠ ((.slice Ao65 t146.length co65) : Value).ownBlock) (.slice Ao67 x4_3.length co67) x4_3) ∧ Aside0 (Kd.R kElem 36 wc w.heap.size (fun k_ => some k_ ≠ ((.slice Ao67 x4_3.length co67) : Value).ownBlock) (.slice Ao65 t146.length co65) t146) ∧ Aside0 (wc.heap[gb134]? = some (.cells #[(.slice (some ad137) l0_0.length c0_0), (.slice A0_1 l0_1.length c0_1), (.slice A0_2 l0_2.length c0_2), (.slice A0_3 l0_3.length c0_3)] 27 (0, 0))) ∧ Aside0 (wc.heap[gb160]? = some (.cells #[.int .i64 ((rd_Op (rd_LOp l0_0 x3_1) x5_3).f0), .int .i64 ((rd_Op (rd_LOp l0_0 x3_1) x5_3).f1), .int .i64 ((rd_Op (rd_LOp l0_0 x3_1) x5_3).f2), .int .i64 ((rd_Op (rd_LOp l0_0 x3_1) x5_3).f3.f0), .int .i64 ((rd_Op (rd_LOp l0_0 x3_1) x5_3).f3.f1), .int .i64 ((rd_Op (rd_LOp l0_0 x3_1) x5_3).f3.f2), .string ((rd_Op (rd_LOp l0_0 x3_1) x5_3).f4), (.slice A159_7 ((rd_Op (rd_LOp l0_0 x3_1) x5_3).f5).length c159_7), .int .i64 ((rd_Op (rd_LOp l0_0 x3_1) x5_3).f6), .int .i64 ((rd_Op (rd_LOp l0_0 x3_1) x5_3).f7), .int .i64 ((rd_Op (rd_LOp l0_0 x3_1) x5_3).f8)] 39 (0, 0))) ∧ Aside0 (Below w.heap.size w wc))
                                                                    case first =>
                                                                      have H := HC82.out
                                                                      clear HC82
                                                                      by_cases c83 : x12_7 ≥ (t146.length : Int)
                                                                      · rw [if_pos c83] at H
                                                                        have c83b0 : decide ((t146.length : Int) ≤ x12_7) = true := decide_eq_true c83
                                                                        clear c83
                                                                        (first | rw [c83b0] | (simp only [i64_w, i32_w]; rw [c83b0]) | skip)
                                                                        have H' := Aside0.mk H
                                                                        clear H
                                                                        go_wp2
                                                                        repeat (go_quiet (fail); try go_wp2)
                                                                        go_meet
                                                                        case rel => exact ⟨_, (true), (by first | rfl | (simp; done) | (simp [*]; done)), H', ⟨by have := HK1.out; have := HJ9.out; have := HK3.out; have := HJ28.out; have := HK5.out; have := HJ63.out; have := HK7.out; first | omega | exact Nat.le_refl _⟩, ⟨by (with_reducible repeat (first | apply Kd.R_alloc | apply Kd.R_drewN | apply Kd.R_drew)); exact HO_4.out⟩, ⟨by (with_reducible repeat (first | apply Kd.R_alloc | apply Kd.R_drewN | apply Kd.R_drew)); exact HO_6.out⟩, ⟨by (with_reducible repeat (first | refine blk_drewN ?_ _ | refine blk_drew ?_ | refine blk_alloc ?_ _)); exact BK134.out⟩, ⟨by (with_reducible repeat (first | refine blk_drewN ?_ _ | refine blk_drew ?_ | refine blk_alloc ?_ _)); exact BK160.out⟩, ⟨by repeat (first | (with_reducible first | exact HB.out | apply below_alloc | apply pw_below_drewN | apply below_drew1 | refine below_set ?_ GE134.out | refine below_set ?_ GE160.out) | exact HB.out)⟩⟩
                                                                      · rw [if_neg c83] at H
                                                                        have c83b0 : decide ((t146.length : Int) ≤ x12_7) = false := decide_eq_false c83
                                                                        clear c83
                                                                        (first | rw [c83b0] | (simp only [i64_w, i32_w]; rw [c83b0]) | skip)
                                                                        by_cases c84 : 0 ≤ x12_7
                                                                        · rw [if_pos c84] at H
                                                                          have c84b0 : decide (0 ≤ x12_7) = true := decide_eq_true c84
                                                                          clear c84
                                                                          by_cases c85 : x12_7 < (t146.length : Int)
                                                                          · rw [if_pos c85] at H
                                                                            have c85b0 : decide (x12_7 < (t146.length : Int)) = true := decide_eq_true c85
                                                                            clear c85
                                                                            by_cases c86 : ((rd_Elem t146 x12_7).f0) = ((rd_Op (rd_LOp l0_0 x3_1) x5_3).f0)
                                                                            · rw [if_pos c86] at H
                                                                              have c86b0 : (((rd_Elem t146 x12_7).f0) == ((rd_Op (rd_LOp l0_0 x3_1) x5_3).f0)) = true := beq_iff_eq.mpr c86
                                                                              have c86b1 : (((rd_Elem t146 x12_7).f0) != ((rd_Op (rd_LOp l0_0 x3_1) x5_3).f0)) = false := bne_eq_false_iff_eq.mpr c86
                                                                              clear c86
                                                                              by_cases c87 : ((rd_Elem t146 x12_7).f1) = ((rd_Op (rd_LOp l0_0 x3_1) x5_3).f1)
                                                                              · rw [if_pos c87] at H
                                                                                have c87b0 : (((rd_Elem t146 x12_7).f1) == ((rd_Op (rd_LOp l0_0 x3_1) x5_3).f1)) = true := beq_iff_eq.mpr c87
                                                                                have c87b1 : (((rd_Elem t146 x12_7).f1) != ((rd_Op (rd_LOp l0_0 x3_1) x5_3).f1)) = false := bne_eq_false_iff_eq.mpr c87
                                                                                clear c87
                                                                                have H' := Aside0.mk H
                                                                                clear H
                                                                                have p162 : 0 ≤ (x12_7 : Int) := of_decide_eq_true (by first | (with_reducible assumption) | assumption)
                                                                                have q162 : x12_7 < (t146.length : Int) := of_decide_eq_true (by first | (with_reducible assumption) | assumption)
                                                                                obtain ⟨ad162, e162, hx162_0, hx162_1, hx162_2⟩ := at_Elem (Kd.R_reads' HO_6.out).2.2 x12_7 p162 q162
                                                                                cases e162
                                                                                replace p162 := eq_true p162
                                                                                replace q162 := eq_true q162
                                                                                have hnb88 := NB160_134.out
                                                                                have hnc88 := NB134_160.out
                                                                                have hcz89_0 : wr.cell? ⟨gb160, 0, none⟩ = some (.int .i64 ((rd_Op (rd_LOp l0_0 x3_1) x5_3).f0)) := (blk_cell BK160.out 0).trans rfl
                                                                                have hcz89_1 : wr.cell? ⟨gb160, 1, none⟩ = some (.int .i64 ((rd_Op (rd_LOp l0_0 x3_1) x5_3).f1)) := (blk_cell BK160.out 1).trans rfl
                                                                                have hcz89_2 : wr.cell? ⟨gb160, 2, none⟩ = some (.int .i64 ((rd_Op (rd_LOp l0_0 x3_1) x5_3).f2)) := (blk_cell BK160.out 2).trans rfl
                                                                                have hcz89_3 : wr.cell? ⟨gb160, 3, none⟩ = some (.int .i64 ((rd_Op (rd_LOp l0_0 x3_1) x5_3).f3.f0)) := (blk_cell BK160.out 3).trans rfl
                                                                                have hcz89_4 : wr.cell? ⟨gb160, 4, none⟩ = some (.int .i64 ((rd_Op (rd_LOp l0_0 x3_1) x5_3).f3.f1)) := (blk_cell BK160.out 4).trans rfl
                                                                                have hcz89_5 : wr.cell? ⟨gb160, 5, none⟩ = some (.int .i64 ((rd_Op (rd_LOp l0_0 x3_1) x5_3).f3.f2)) := (blk_cell BK160.out 5).trans rfl
                                                                                have hcz89_6 : wr.cell? ⟨gb160, 6, none⟩ = some (.string ((rd_Op (rd_LOp l0_0 x3_1) x5_3).f4)) := (blk_cell BK160.out 6).trans rfl
                                                                                have hcz89_7 : wr.cell? ⟨gb160, 7, none⟩ = some (.slice A159_7 ((rd_Op (rd_LOp l0_0 x3_1) x5_3).f5).length c159_7) := (blk_cell BK160.out 7).trans rfl
                                                                                have hcz89_8 : wr.cell? ⟨gb160, 8, none⟩ = some (.int .i64 ((rd_Op (rd_LOp l0_0 x3_1) x5_3).f6)) := (blk_cell BK160.out 8).trans rfl
                                                                                have hcz89_9 : wr.cell? ⟨gb160, 9, none⟩ = some (.int .i64 ((rd_Op (rd_LOp l0_0 x3_1) x5_3).f7)) := (blk_cell BK160.out 9).trans rfl
                                                                                have hcz89_10 : wr.cell? ⟨gb160, 10, none⟩ = some (.int .i64 ((rd_Op (rd_LOp l0_0 x3_1) x5_3).f8)) := (blk_cell BK160.out 10).trans rfl
                                                                                have hfz89_0 := blk_frozen BK160.out 0
                                                                                have hfz89_1 := blk_frozen BK160.out 1
                                                                                have hfz89_2 := blk_frozen BK160.out 2
                                                                                have hfz89_3 := blk_frozen BK160.out 3
                                                                                have hfz89_4 := blk_frozen BK160.out 4
                                                                                have hfz89_5 := blk_frozen BK160.out 5
                                                                                have hfz89_6 := blk_frozen BK160.out 6
                                                                                have hfz89_7 := blk_frozen BK160.out 7
                                                                                have hfz89_8 := blk_frozen BK160.out 8
                                                                                have hfz89_9 := blk_frozen BK160.out 9
                                                                                have hfz89_10 := blk_frozen BK160.out 10
                                                                                have p163 : 0 ≤ (x12_7 : Int) := of_decide_eq_true (by first | (with_reducible assumption) | assumption)
                                                                                have q163 : x12_7 < (t146.length : Int) := of_decide_eq_true (by first | (with_reducible assumption) | assumption)
                                                                                obtain ⟨ad163, e163, hx163_0, hx163_1, hx163_2⟩ := at_Elem (Kd.R_reads' HO_6.out).2.2 x12_7 p163 q163
                                                                                obtain rfl : ad162 = ad163 := (by injection e163)
                                                                                replace p163 := eq_true p163
                                                                                replace q163 := eq_true q163
                                                                                have p164 : 0 ≤ (x12_7 : Int) := of_decide_eq_true (by first | (with_reducible assumption) | assumption)
                                                                                have q164 : x12_7 < (t146.length : Int) := of_decide_eq_true (by first | (with_reducible assumption) | assumption)
                                                                                obtain ⟨ad164, e164, hx164_0, hx164_1, hx164_2⟩ := at_Elem (Kd.R_reads' HO_6.out).2.2 x12_7 p164 q164
                                                                                obtain rfl : ad162 = ad164 := (by injection e164)
                                                                                replace p164 := eq_true p164
                                                                                replace q164 := eq_true q164
                                                                                go_wp2
                                                                                repeat (go_quiet (fail); try go_wp2)
                                                                                go_meet
                                                                                case rel => exact ⟨_, ((((rd_Elem t146 x12_7).f2) != (wrap64 (x12_7 - x11_63)))), (by first | rfl | (simp; done) | (simp [*]; done)), H', ⟨by have := HK1.out; have := HJ9.out; have := HK3.out; have := HJ28.out; have := HK5.out; have := HJ63.out; have := HK7.out; first | omega | exact Nat.le_refl _⟩, ⟨by (with_reducible repeat (first | apply Kd.R_alloc | apply Kd.R_drewN | apply Kd.R_drew)); exact HO_4.out⟩, ⟨by (with_reducible repeat (first | apply Kd.R_alloc | apply Kd.R_drewN | apply Kd.R_drew)); exact HO_6.out⟩, ⟨by (with_reducible repeat (first | refine blk_drewN ?_ _ | refine blk_drew ?_ | refine blk_alloc ?_ _)); exact BK134.out⟩, ⟨by (with_reducible repeat (first | refine blk_drewN ?_ _ | refine blk_drew ?_ | refine blk_alloc ?_ _)); exact BK160.out⟩, ⟨by repeat (first | (with_reducible first | exact HB.out | apply below_alloc | apply pw_below_drewN | apply below_drew1 | refine below_set ?_ GE134.out | refine below_set ?_ GE160.out) | exact HB.out)⟩⟩
                                                                              · rw [if_neg c87] at H
                                                                                have c87b0 : (((rd_Elem t146 x12_7).f1) == ((rd_Op (rd_LOp l0_0 x3_1) x5_3).f1)) = false := beq_eq_false_iff_ne.mpr c87
                                                                                have c87b1 : (((rd_Elem t146 x12_7).f1) != ((rd_Op (rd_LOp l0_0 x3_1) x5_3).f1)) = true := bne_iff_ne.mpr c87
                                                                                have H' := Aside0.mk H
                                                                                clear H
                                                                                have p162 : 0 ≤ (x12_7 : Int) := of_decide_eq_true (by first | (with_reducible assumption) | assumption)
                                                                                have q162 : x12_7 < (t146.length : Int) := of_decide_eq_true (by first | (with_reducible assumption) | assumption)
                                                                                obtain ⟨ad162, e162, hx162_0, hx162_1, hx162_2⟩ := at_Elem (Kd.R_reads' HO_6.out).2.2 x12_7 p162 q162
                                                                                cases e162
                                                                                replace p162 := eq_true p162
                                                                                replace q162 := eq_true q162
                                                                                have hnb90 := NB160_134.out
                                                                                have hnc90 := NB134_160.out
                                                                                have hcz91_0 : wr.cell? ⟨gb160, 0, none⟩ = some (.int .i64 ((rd_Op (rd_LOp l0_0 x3_1) x5_3).f0)) := (blk_cell BK160.out 0).trans rfl
                                                                                have hcz91_1 : wr.cell? ⟨gb160, 1, none⟩ = some (.int .i64 ((rd_Op (rd_LOp l0_0 x3_1) x5_3).f1)) := (blk_cell BK160.out 1).trans rfl
                                                                                have hcz91_2 : wr.cell? ⟨gb160, 2, none⟩ = some (.int .i64 ((rd_Op (rd_LOp l0_0 x3_1) x5_3).f2)) := (blk_cell BK160.out 2).trans rfl
                                                                                have hcz91_3 : wr.cell? ⟨gb160, 3, none⟩ = some (.int .i64 ((rd_Op (rd_LOp l0_0 x3_1) x5_3).f3.f0)) := (blk_cell BK160.out 3).trans rfl
                                                                                have hcz91_4 : wr.cell? ⟨gb160, 4, none⟩ = some (.int .i64 ((rd_Op (rd_LOp l0_0 x3_1) x5_3).f3.f1)) := (blk_cell BK160.out 4).trans rfl
                                                                                have hcz91_5 : wr.cell? ⟨gb160, 5, none⟩ = some (.int .i64 ((rd_Op (rd_LOp l0_0 x3_1) x5_3).f3.f2)) := (blk_cell BK160.out 5).trans rfl
                                                                                have hcz91_6 : wr.cell? ⟨gb160, 6, none⟩ = some (.string ((rd_Op (rd_LOp l0_0 x3_1) x5_3).f4)) := (blk_cell BK160.out 6).trans rfl
                                                                                have hcz91_7 : wr.cell? ⟨gb160, 7, none⟩ = some (.slice A159_7 ((rd_Op (rd_LOp l0_0 x3_1) x5_3).f5).length c159_7) := (blk_cell BK160.out 7).trans rfl
                                                                                have hcz91_8 : wr.cell? ⟨gb160, 8, none⟩ = some (.int .i64 ((rd_Op (rd_LOp l0_0 x3_1) x5_3).f6)) := (blk_cell BK160.out 8).trans rfl
                                                                                have hcz91_9 : wr.cell? ⟨gb160, 9, none⟩ = some (.int .i64 ((rd_Op (rd_LOp l0_0 x3_1) x5_3).f7)) := (blk_cell BK160.out 9).trans rfl
                                                                                have hcz91_10 : wr.cell? ⟨gb160, 10, none⟩ = some (.int .i64 ((rd_Op (rd_LOp l0_0 x3_1) x5_3).f8)) := (blk_cell BK160.out 10).trans rfl
                                                                                have hfz91_0 := blk_frozen BK160.out 0
                                                                                have hfz91_1 := blk_frozen BK160.out 1
                                                                                have hfz91_2 := blk_frozen BK160.out 2
                                                                                have hfz91_3 := blk_frozen BK160.out 3
                                                                                have hfz91_4 := blk_frozen BK160.out 4
                                                                                have hfz91_5 := blk_frozen BK160.out 5
                                                                                have hfz91_6 := blk_frozen BK160.out 6
                                                                                have hfz91_7 := blk_frozen BK160.out 7
                                                                                have hfz91_8 := blk_frozen BK160.out 8
                                                                                have hfz91_9 := blk_frozen BK160.out 9
                                                                                have hfz91_10 := blk_frozen BK160.out 10
                                                                                have p163 : 0 ≤ (x12_7 : Int) := of_decide_eq_true (by first | (with_reducible assumption) | assumption)
                                                                                have q163 : x12_7 < (t146.length : Int) := of_decide_eq_true (by first | (with_reducible assumption) | assumption)
                                                                                obtain ⟨ad163, e163, hx163_0, hx163_1, hx163_2⟩ := at_Elem (Kd.R_reads' HO_6.out).2.2 x12_7 p163 q163
                                                                                obtain rfl : ad162 = ad163 := (by injection e163)
                                                                                replace p163 := eq_true p163
                                                                                replace q163 := eq_true q163
                                                                                go_wp2
                                                                                repeat (go_quiet (fail); try go_wp2)
                                                                                go_meet
                                                                                case rel => exact ⟨_, (true), (by first | rfl | (simp; done) | (simp [*]; done)), H', ⟨by have := HK1.out; have := HJ9.out; have := HK3.out; have := HJ28.out; have := HK5.out; have := HJ63.out; have := HK7.out; first | omega | exact Nat.le_refl _⟩, ⟨by (with_reducible repeat (first | apply Kd.R_alloc | apply Kd.R_drewN | apply Kd.R_drew)); exact HO_4.out⟩, ⟨by (with_reducible repeat (first | apply Kd.R_alloc | apply Kd.R_drewN | apply Kd.R_drew)); exact HO_6.out⟩, ⟨by (with_reducible repeat (first | refine blk_drewN ?_ _ | refine blk_drew ?_ | refine blk_alloc ?_ _)); exact BK134.out⟩, ⟨by (with_reducible repeat (first | refine blk_drewN ?_ _ | refine blk_drew ?_ | refine blk_alloc ?_ _)); exact BK160.out⟩, ⟨by repeat (first | (with_reducible first | exact HB.out | apply below_alloc | apply pw_below_drewN | apply below_drew1 | refine below_set ?_ GE134.out | refine below_set ?_ GE160.out) | exact HB.out)⟩⟩
                                                                            · rw [if_neg c86] at H
                                                                              have c86b0 : (((rd_Elem t146 x12_7).f0) == ((rd_Op (rd_LOp l0_0 x3_1) x5_3).f0)) = false := beq_eq_false_iff_ne.mpr c86
                                                                              have c86b1 : (((rd_Elem t146 x12_7).f0) != ((rd_Op (rd_LOp l0_0 x3_1) x5_3).f0)) = true := bne_iff_ne.mpr c86
                                                                              have H' := Aside0.mk H
                                                                              clear H
                                                                              have p162 : 0 ≤ (x12_7 : Int) := of_decide_eq_true (by first | (with_reducible assumption) | assumption)
                                                                              have q162 : x12_7 < (t146.length : Int) := of_decide_eq_true (by first | (with_reducible assumption) | assumption)
                                                                              obtain ⟨ad162, e162, hx162_0, hx162_1, hx162_2⟩ := at_Elem (Kd.R_reads' HO_6.out).2.2 x12_7 p162 q162
                                                                              cases e162
                                                                              replace p162 := eq_true p162
                                                                              replace q162 := eq_true q162
                                                                              have hnb92 := NB160_134.out
                                                                              have hnc92 := NB134_160.out
                                                                              have hcz93_0 : wr.cell? ⟨gb160, 0, none⟩ = some (.int .i64 ((rd_Op (rd_LOp l0_0 x3_1) x5_3).f0)) := (blk_cell BK160.out 0).trans rfl
                                                                              have hcz93_1 : wr.cell? ⟨gb160, 1, none⟩ = some (.int .i64 ((rd_Op (rd_LOp l0_0 x3_1) x5_3).f1)) := (blk_cell BK160.out 1).trans rfl
                                                                              have hcz93_2 : wr.cell? ⟨gb160, 2, none⟩ = some (.int .i64 ((rd_Op (rd_LOp l0_0 x3_1) x5_3).f2)) := (blk_cell BK160.out 2).trans rfl
                                                                              have hcz93_3 : wr.cell? ⟨gb160, 3, none⟩ = some (.int .i64 ((rd_Op (rd_LOp l0_0 x3_1) x5_3).f3.f0)) := (blk_cell BK160.out 3).trans rfl
                                                                              have hcz93_4 : wr.cell? ⟨gb160, 4, none⟩ = some (.int .i64 ((rd_Op (rd_LOp l0_0 x3_1) x5_3).f3.f1)) := (blk_cell BK160.out 4).trans rfl
                                                                              have hcz93_5 : wr.cell? ⟨gb160, 5, none⟩ = some (.int .i64 ((rd_Op (rd_LOp l0_0 x3_1) x5_3).f3.f2)) := (blk_cell BK160.out 5).trans rfl
                                                                              have hcz93_6 : wr.cell? ⟨gb160, 6, none⟩ = some (.string ((rd_Op (rd_LOp l0_0 x3_1) x5_3).f4)) := (blk_cell BK160.out 6).trans rfl
                                                                              have hcz93_7 : wr.cell? ⟨gb160, 7, none⟩ = some (.slice A159_7 ((rd_Op (rd_LOp l0_0 x3_1) x5_3).f5).length c159_7) := (blk_cell BK160.out 7).trans rfl
                                                                              have hcz93_8 : wr.cell? ⟨gb160, 8, none⟩ = some (.int .i64 ((rd_Op (rd_LOp l0_0 x3_1) x5_3).f6)) := (blk_cell BK160.out 8).trans rfl
                                                                              have hcz93_9 : wr.cell? ⟨gb160, 9, none⟩ = some (.int .i64 ((rd_Op (rd_LOp l0_0 x3_1) x5_3).f7)) := (blk_cell BK160.out 9).trans rfl
                                                                              have hcz93_10 : wr.cell? ⟨gb160, 10, none⟩ = some (.int .i64 ((rd_Op (rd_LOp l0_0 x3_1) x5_3).f8)) := (blk_cell BK160.out 10).trans rfl
                                                                              have hfz93_0 := blk_frozen BK160.out 0
                                                                              have hfz93_1 := blk_frozen BK160.out 1
                                                                              have hfz93_2 := blk_frozen BK160.out 2
                                                                              have hfz93_3 := blk_frozen BK160.out 3
                                                                              have hfz93_4 := blk_frozen BK160.out 4
                                                                              have hfz93_5 := blk_frozen BK160.out 5
                                                                              have hfz93_6 := blk_frozen BK160.out 6
                                                                              have hfz93_7 := blk_frozen BK160.out 7
                                                                              have hfz93_8 := blk_frozen BK160.out 8
                                                                              have hfz93_9 := blk_frozen BK160.out 9
                                                                              have hfz93_10 := blk_frozen BK160.out 10
                                                                              go_wp2
                                                                              repeat (go_quiet (fail); try go_wp2)
                                                                              go_meet
                                                                              case rel => exact ⟨_, (true), (by first | rfl | (simp; done) | (simp [*]; done)), H', ⟨by have := HK1.out; have := HJ9.out; have := HK3.out; have := HJ28.out; have := HK5.out; have := HJ63.out; have := HK7.out; first | omega | exact Nat.le_refl _⟩, ⟨by (with_reducible repeat (first | apply Kd.R_alloc | apply Kd.R_drewN | apply Kd.R_drew)); exact HO_4.out⟩, ⟨by (with_reducible repeat (first | apply Kd.R_alloc | apply Kd.R_drewN | apply Kd.R_drew)); exact HO_6.out⟩, ⟨by (with_reducible repeat (first | refine blk_drewN ?_ _ | refine blk_drew ?_ | refine blk_alloc ?_ _)); exact BK134.out⟩, ⟨by (with_reducible repeat (first | refine blk_drewN ?_ _ | refine blk_drew ?_ | refine blk_alloc ?_ _)); exact BK160.out⟩, ⟨by repeat (first | (with_reducible first | exact HB.out | apply below_alloc | apply pw_below_drewN | apply below_drew1 | refine below_set ?_ GE134.out | refine below_set ?_ GE160.out) | exact HB.out)⟩⟩
                                                                          · rw [if_neg c85] at H
                                                                            exact absurd H (by simp)
                                                                        · rw [if_neg c84] at H
                                                                          exact absurd H (by simp)
                                                                    case rest =>
                                                                      clear HC82
                                                                      try clear c3; try clear c11; try clear c11b0; try clear c14; try clear c15; try clear c15b0; try clear c16; try clear c16b0; try clear c19; try clear c19b0; try clear c19b1; try clear c22; try clear c22b0; try clear c23; try clear c23b0; try clear c24; try clear c24b0; try clear c26; try clear c26b0; try clear c26b1; try clear c27; try clear c27b0; try clear c27b1; try clear q31; try clear c34; try clear c34b0; try clear c34b1; try clear c37; try clear c38; try clear c38b0; try clear c39; try clear c39b0; try clear c41; try clear c41b0; try clear c42; try clear c51; try clear c52; try clear c52b0; try clear c53; try clear c53b0; try clear c54; try clear c54b0; try clear c55; try clear c55b0; try clear c56; try clear c56b0; try clear c56b1; try clear c72; try clear c72b0; try clear c74; try clear c74b0; try clear c74b1; try clear c81; try clear c81b0; try clear c83; try clear c83b0; try clear c84; try clear c84b0; try clear c85; try clear c85b0; try clear c86; try clear c86b0; try clear c86b1; try clear c87; try clear c87b0; try clear c87b1; try clear hcz12_0; try clear hcz12_1; try clear hcz12_2; try clear hcz12_3; try clear hcz13_0; try clear hcz13_1; try clear hcz13_2; try clear hcz13_3; try clear hcz20_0; try clear hcz20_1; try clear hcz20_2; try clear hcz20_3; try clear hcz30_0; try clear hcz30_1; try clear hcz30_2; try clear hcz30_3; try clear hcz5_0; try clear hcz5_1; try clear hcz5_2; try clear hcz5_3; try clear hcz60_0; try clear hcz60_1; try clear hcz60_2; try clear hcz60_3; try clear hcz63_0; try clear hcz63_1; try clear hcz63_10; try clear hcz63_2; try clear hcz63_3; try clear hcz63_4; try clear hcz63_5; try clear hcz63_6; try clear hcz63_7; try clear hcz63_8; try clear hcz63_9; try clear hcz68_0; try clear hcz68_1; try clear hcz68_2; try clear hcz68_3; try clear hcz71_0; try clear hcz71_1; try clear hcz71_10; try clear hcz71_2; try clear hcz71_3; try clear hcz71_4; try clear hcz71_5; try clear hcz71_6; try clear hcz71_7; try clear hcz71_8; try clear hcz71_9; try clear hcz76_0; try clear hcz76_1; try clear hcz76_10; try clear hcz76_2; try clear hcz76_3; try clear hcz76_4; try clear hcz76_5; try clear hcz76_6; try clear hcz76_7; try clear hcz76_8; try clear hcz76_9; try clear hcz79_0; try clear hcz79_1; try clear hcz79_10; try clear hcz79_2; try clear hcz79_3; try clear hcz79_4; try clear hcz79_5; try clear hcz79_6; try clear hcz79_7; try clear hcz79_8; try clear hcz79_9; try clear hcz89_0; try clear hcz89_1; try clear hcz89_10; try clear hcz89_2; try clear hcz89_3; try clear hcz89_4; try clear hcz89_5; try clear hcz89_6; try clear hcz89_7; try clear hcz89_8; try clear hcz89_9; try clear hcz8_0; try clear hcz8_1; try clear hcz8_2; try clear hcz8_3; try clear hcz91_0; try clear hcz91_1; try clear hcz91_10; try clear hcz91_2; try clear hcz91_3; try clear hcz91_4; try clear hcz91_5; try clear hcz91_6; try clear hcz91_7; try clear hcz91_8; try clear hcz91_9; try clear hcz93_0; try clear hcz93_1; try clear hcz93_10; try clear hcz93_2; try clear hcz93_3; try clear hcz93_4; try clear hcz93_5; try clear hcz93_6; try clear hcz93_7; try clear hcz93_8; try clear hcz93_9; try clear hfz12_0; try clear hfz12_1; try clear hfz12_2; try clear hfz12_3; try clear hfz13_0; try clear hfz13_1; try clear hfz13_2; try clear hfz13_3; try clear hfz20_0; try clear hfz20_1; try clear hfz20_2; try clear hfz20_3; try clear hfz30_0; try clear hfz30_1; try clear hfz30_2; try clear hfz30_3; try clear hfz5_0; try clear hfz5_1; try clear hfz5_2; try clear hfz5_3; try clear hfz60_0; try clear hfz60_1; try clear hfz60_2; try clear hfz60_3; try clear hfz63_0; try clear hfz63_1; try clear hfz63_10; try clear hfz63_2; try clear hfz63_3; try clear hfz63_4; try clear hfz63_5; try clear hfz63_6; try clear hfz63_7; try clear hfz63_8; try clear hfz63_9; try clear hfz68_0; try clear hfz68_1; try clear hfz68_2; try clear hfz68_3; try clear hfz71_0; try clear hfz71_1; try clear hfz71_10; try clear hfz71_2; try clear hfz71_3; try clear hfz71_4; try clear hfz71_5; try clear hfz71_6; try clear hfz71_7; try clear hfz71_8; try clear hfz71_9; try clear hfz76_0; try clear hfz76_1; try clear hfz76_10; try clear hfz76_2; try clear hfz76_3; try clear hfz76_4; try clear hfz76_5; try clear hfz76_6; try clear hfz76_7; try clear hfz76_8; try clear hfz76_9; try clear hfz79_0; try clear hfz79_1; try clear hfz79_10; try clear hfz79_2; try clear hfz79_3; try clear hfz79_4; try clear hfz79_5; try clear hfz79_6; try clear hfz79_7; try clear hfz79_8; try clear hfz79_9; try clear hfz89_0; try clear hfz89_1; try clear hfz89_10; try clear hfz89_2; try clear hfz89_3; try clear hfz89_4; try clear hfz89_5; try clear hfz89_6; try clear hfz89_7; try clear hfz89_8; try clear hfz89_9; try clear hfz8_0; try clear hfz8_1; try clear hfz8_2; try clear hfz8_3; try clear hfz91_0; try clear hfz91_1; try clear hfz91_10; try clear hfz91_2; try clear hfz91_3; try clear hfz91_4; try clear hfz91_5; try clear hfz91_6; try clear hfz91_7; try clear hfz91_8; try clear hfz91_9; try clear hfz93_0; try clear hfz93_1; try clear hfz93_10; try clear hfz93_2; try clear hfz93_3; try clear hfz93_4; try clear hfz93_5; try clear hfz93_6; try clear hfz93_7; try clear hfz93_8; try clear hfz93_9; try clear hx137_0; try clear hx140_0; try clear hx141_0; try clear hx151_0; try clear hx151_1; try clear hx151_2; try clear hx153_0; try clear hx153_1; try clear hx153_2; try clear hx158_0; try clear hx159_0; try clear hx159_1; try clear hx159_10; try clear hx159_2; try clear hx159_3; try clear hx159_4; try clear hx159_5; try clear hx159_6; try clear hx159_7; try clear hx159_8; try clear hx159_9; try clear hx162_0; try clear hx162_1; try clear hx162_2; try clear hx163_0; try clear hx163_1; try clear hx163_2; try clear hx164_0; try clear hx164_1; try clear hx164_2; try clear p137; try clear p140; try clear p141; try clear p151; try clear p153; try clear p158; try clear p159; try clear p162; try clear p163; try clear p164; try clear q137; try clear q140; try clear q141; try clear q151; try clear q153; try clear q158; try clear q159; try clear q162; try clear q163; try clear q164; try clear q31
                                                                      obtain ⟨kq, x158_81, rfl, HA, HJ81, HO_4, HO_6, BK134, BK160, HB⟩ := hcut
                                                                      cases kq with
                                                                      | zero => exact absurd HA.out (by simp [lectionarylaw5_TreeStays.j7])
                                                                      | succ kj81 =>
                                                                        have H := HA.out
                                                                        clear HA
                                                                        simp only [lectionarylaw5_TreeStays.j7] at H
                                                                        by_cases c94 : x158_81 = true
                                                                        · subst c94
                                                                          have H1 : (some false) = some r := by rw [if_pos rfl] at H; exact H
                                                                          clear H
                                                                          have H := H1
                                                                          clear H1
                                                                          obtain rfl := Option.some.inj H
                                                                          go_wp2
                                                                          go_ret
                                                                          exact ⟨by first | rfl | (simp [errW_none, errW_some] <;> rfl) | (simp only [← hji25]; first | rfl | (simp [errW_none, errW_some] <;> rfl)) | (simp [*, errW_none, errW_some] <;> rfl), by repeat (first | (with_reducible first | exact HB.out | apply below_alloc | apply pw_below_drewN | apply below_drew1 | refine below_set ?_ GE134.out | refine below_set ?_ GE160.out) | exact HB.out)⟩
                                                                        · replace c94 := Bool.eq_false_iff.mpr c94
                                                                          subst c94
                                                                          have H1 : (lectionarylaw5_TreeStays.l3 kj81 x3_1 x4_3 x5_3 t146 x11_63 (wrap64 (x12_7 + 1)) l0_0 l0_1 l0_2 l0_3 ((rd_Op (rd_LOp l0_0 x3_1) x5_3).f0) ((rd_Op (rd_LOp l0_0 x3_1) x5_3).f1) ((rd_Op (rd_LOp l0_0 x3_1) x5_3).f2) ((rd_Op (rd_LOp l0_0 x3_1) x5_3).f3.f0) ((rd_Op (rd_LOp l0_0 x3_1) x5_3).f3.f1) ((rd_Op (rd_LOp l0_0 x3_1) x5_3).f3.f2) ((rd_Op (rd_LOp l0_0 x3_1) x5_3).f4) ((rd_Op (rd_LOp l0_0 x3_1) x5_3).f5) ((rd_Op (rd_LOp l0_0 x3_1) x5_3).f6) ((rd_Op (rd_LOp l0_0 x3_1) x5_3).f7) ((rd_Op (rd_LOp l0_0 x3_1) x5_3).f8)) = some r := by rw [if_neg (show ¬ (false = true) by decide)] at H; exact H
                                                                          clear H
                                                                          have H := H1
                                                                          clear H1
                                                                          have H' := Aside0.mk H
                                                                          clear H
                                                                          go_wp2
                                                                          go_roundg kj81
                                                                          case measure => have := HK1.out; have := HJ9.out; have := HK3.out; have := HJ28.out; have := HK5.out; have := HJ63.out; have := HK7.out; have := HJ81.out; omega
                                                                          case rel => exact ⟨(wrap64 (x12_7 + 1)), (by first | rfl | (simp; done) | (simp [*]; done)), H', ⟨by have := HK1.out; have := HJ9.out; have := HK3.out; have := HJ28.out; have := HK5.out; have := HJ63.out; have := HK7.out; have := HJ81.out; omega⟩, ⟨by (with_reducible repeat (first | apply Kd.R_alloc | apply Kd.R_drewN | apply Kd.R_drew)); exact HO_4.out⟩, ⟨by (with_reducible repeat (first | apply Kd.R_alloc | apply Kd.R_drewN | apply Kd.R_drew)); exact HO_6.out⟩, ⟨by (with_reducible repeat (first | refine blk_drewN ?_ _ | refine blk_drew ?_ | refine blk_alloc ?_ _)); exact BK134.out⟩, ⟨by (with_reducible repeat (first | refine blk_drewN ?_ _ | refine blk_drew ?_ | refine blk_alloc ?_ _)); exact BK160.out⟩, ⟨by repeat (first | (with_reducible first | exact HB.out | apply below_alloc | apply pw_below_drewN | apply below_drew1 | refine below_set ?_ GE134.out | refine below_set ?_ GE160.out) | exact HB.out)⟩⟩
                                                                  · rw [if_neg c81] at H
                                                                    have c81b0 : decide (x12_7 < (wrap64 ((wrap64 (x11_63 + (t146.length : Int))) - (x4_3.length : Int)))) = false := decide_eq_false c81
                                                                    clear c81
                                                                    have H' := Aside0.mk H
                                                                    clear H
                                                                    go_wp2
                                                                    go_roundg k7
                                                                    case measure => have := HK1.out; have := HJ9.out; have := HK3.out; have := HJ28.out; have := HK5.out; have := HJ63.out; have := HK7.out; omega
                                                                    case rel => exact ⟨(t146), (wrap64 (x5_3 + 1)), (by first | rfl | (simp; done) | (simp [*]; done)), H', ⟨by have := HK1.out; have := HJ9.out; have := HK3.out; have := HJ28.out; have := HK5.out; have := HJ63.out; have := HK7.out; omega⟩, ⟨by (with_reducible repeat (first | apply Kd.R_alloc | apply Kd.R_drewN | apply Kd.R_drew)); exact Kd.R_mono HO_6.out (fun _ hk => trivial)⟩, ⟨by (with_reducible repeat (first | refine blk_drewN ?_ _ | refine blk_drew ?_ | refine blk_alloc ?_ _)); exact BK134.out⟩, ⟨by repeat (first | (with_reducible first | exact HB.out | apply below_alloc | apply pw_below_drewN | apply below_drew1 | refine below_set ?_ GE134.out | refine below_set ?_ GE160.out) | exact HB.out)⟩⟩
                                                      · rw [if_neg c55] at H
                                                        exact absurd H (by simp)
                                                    · rw [if_neg c54] at H
                                                      exact absurd H (by simp)
                                                  · rw [if_neg c53] at H
                                                    exact absurd H (by simp)
                                                · rw [if_neg c52] at H
                                                  exact absurd H (by simp)
                                              · replace c51 := Bool.eq_false_iff.mpr c51
                                                subst c51
                                                have H1 : (some false) = some r := by rw [if_neg (show ¬ (false = true) by decide)] at H; exact H
                                                clear H
                                                have H := H1
                                                clear H1
                                                obtain rfl := Option.some.inj H
                                                obtain ⟨Ao95, co95, eo95⟩ := Kd.R_slice HO_6.out
                                                subst eo95
                                                obtain ⟨Ao96, co96, eo96⟩ := Kd.R_slice HO_8.out
                                                subst eo96
                                                obtain ⟨Ao97, co97, eo97⟩ := Kd.R_slice HO_4.out
                                                subst eo97
                                                go_wp2_with (first | (go_at_call 13; (with_reducible refine (lectionaryref0_EqElems.calls k5 _ _ x8_5 _ _ x4_3 false _ ?side1 ?side2 ?side3 ?side4 A50.out).mono ?_); (case side1 => repeat (first | exact (Kd.R_reads' HO_8.out).2.2 | (with_reducible refine Kd.C_alloc ?_ _) | (with_reducible refine Kd.C_drewN ?_ _) | (with_reducible refine Kd.C_drew ?_))); (case side2 => exact (Kd.R_reads' HO_8.out).2.1); (case side3 => repeat (first | exact (Kd.R_reads' HO_4.out).2.2 | (with_reducible refine Kd.C_alloc ?_ _) | (with_reducible refine Kd.C_drewN ?_ _) | (with_reducible refine Kd.C_drew ?_))); (case side4 => exact (Kd.R_reads' HO_4.out).2.1); rintro e w' ⟨rfl, ⟨nd, rfl⟩⟩; (try first | exact ⟨rfl, _, World.drewN_drewN _ _ _⟩ | exact ⟨rfl, _, Eq.trans (World.drewN_drewN _ _ _) (congrArg (World.drewN _) (Nat.add_assoc _ _ _))⟩)))
                                                go_ret
                                                exact ⟨by first | rfl | (simp [errW_none, errW_some] <;> rfl) | (simp only [← hji25]; first | rfl | (simp [errW_none, errW_some] <;> rfl)) | (simp [*, errW_none, errW_some] <;> rfl), by repeat (first | (with_reducible first | exact HB.out | apply below_alloc | apply pw_below_drewN | apply below_drew1 | refine below_set ?_ GE134.out) | exact HB.out)⟩
                                · rw [if_neg c27] at H
                                  exact absurd H (by simp)
                              · rw [if_neg c26] at H
                                exact absurd H (by simp)
                            · rw [if_neg c24] at H
                              have c24b0 : decide (x5_3 < ((rd_LOp l0_0 x3_1).length : Int)) = false := decide_eq_false c24
                              clear c24
                              have H' := Aside0.mk H
                              clear H
                              have hcz98_0 : wr.cell? ⟨gb134, 0, none⟩ = some (.slice (some ad137) l0_0.length c0_0) := (blk_cell BK134.out 0).trans rfl
                              have hcz98_1 : wr.cell? ⟨gb134, 1, none⟩ = some (.slice A0_1 l0_1.length c0_1) := (blk_cell BK134.out 1).trans rfl
                              have hcz98_2 : wr.cell? ⟨gb134, 2, none⟩ = some (.slice A0_2 l0_2.length c0_2) := (blk_cell BK134.out 2).trans rfl
                              have hcz98_3 : wr.cell? ⟨gb134, 3, none⟩ = some (.slice A0_3 l0_3.length c0_3) := (blk_cell BK134.out 3).trans rfl
                              have hfz98_0 := blk_frozen BK134.out 0
                              have hfz98_1 := blk_frozen BK134.out 1
                              have hfz98_2 := blk_frozen BK134.out 2
                              have hfz98_3 := blk_frozen BK134.out 3
                              have p140 : 0 ≤ (x3_1 : Int) := of_decide_eq_true (by first | (with_reducible assumption) | assumption)
                              have q140 : x3_1 < (l0_0.length : Int) := of_decide_eq_true (by first | (with_reducible assumption) | assumption)
                              obtain ⟨ad140, A140_0, c140_0, e140, hx140_0, hl140_0, hi140_0⟩ := at_LOp HR0_0.out x3_1 p140 q140
                              obtain rfl : ad137 = ad140 := (by injection e140)
                              replace hx140_0 := (HB.out.cell (World.block_lt_of_cell? w _ hx140_0)).trans hx140_0
                              have HR140_0 := Aside0.mk hi140_0
                              have HC140_0 := Aside0.mk hl140_0
                              clear hi140_0 hl140_0
                              replace p140 := eq_true p140
                              replace q140 := eq_true q140
                              go_wp2
                              go_roundg k3
                              case measure => have := HK1.out; have := HJ9.out; have := HK3.out; omega
                              case rel => exact ⟨(wrap64 (x3_1 + 1)), (by first | rfl | (simp; done) | (simp [*]; done)), H', ⟨by have := HK1.out; have := HJ9.out; have := HK3.out; omega⟩, ⟨by (with_reducible repeat (first | refine blk_drewN ?_ _ | refine blk_drew ?_ | refine blk_alloc ?_ _)); exact BK134.out⟩, ⟨by repeat (first | (with_reducible first | exact HB.out | apply below_alloc | apply pw_below_drewN | apply below_drew1 | refine below_set ?_ GE134.out) | exact HB.out)⟩⟩
                          · rw [if_neg c23] at H
                            exact absurd H (by simp)
                        · rw [if_neg c22] at H
                          exact absurd H (by simp)
                  · rw [if_neg c19] at H
                    have c19b0 : (t139 == 0) = false := beq_eq_false_iff_ne.mpr c19
                    have c19b1 : (t139 != 0) = true := bne_iff_ne.mpr c19
                    have H' := Aside0.mk H
                    clear H
                    have hcz99_0 : wc.cell? ⟨gb134, 0, none⟩ = some (.slice A0_0 l0_0.length c0_0) := (blk_cell BK134.out 0).trans rfl
                    have hcz99_1 : wc.cell? ⟨gb134, 1, none⟩ = some (.slice A0_1 l0_1.length c0_1) := (blk_cell BK134.out 1).trans rfl
                    have hcz99_2 : wc.cell? ⟨gb134, 2, none⟩ = some (.slice A0_2 l0_2.length c0_2) := (blk_cell BK134.out 2).trans rfl
                    have hcz99_3 : wc.cell? ⟨gb134, 3, none⟩ = some (.slice A0_3 l0_3.length c0_3) := (blk_cell BK134.out 3).trans rfl
                    have hfz99_0 := blk_frozen BK134.out 0
                    have hfz99_1 := blk_frozen BK134.out 1
                    have hfz99_2 := blk_frozen BK134.out 2
                    have hfz99_3 := blk_frozen BK134.out 3
                    have p137 : 0 ≤ (x3_1 : Int) := of_decide_eq_true (by first | (with_reducible assumption) | assumption)
                    have q137 : x3_1 < (l0_0.length : Int) := of_decide_eq_true (by first | (with_reducible assumption) | assumption)
                    obtain ⟨ad137, A137_0, c137_0, e137, hx137_0, hl137_0, hi137_0⟩ := at_LOp HR0_0.out x3_1 p137 q137
                    cases e137
                    replace hx137_0 := (HB.out.cell (World.block_lt_of_cell? w _ hx137_0)).trans hx137_0
                    have HR137_0 := Aside0.mk hi137_0
                    have HC137_0 := Aside0.mk hl137_0
                    clear hi137_0 hl137_0
                    replace p137 := eq_true p137
                    replace q137 := eq_true q137
                    go_wp2_with (first | (go_at_call 10; (with_reducible refine (tree_Check.calls _ _ (rd_LOp l0_0 x3_1) t138 _ ?side1 ?side2 A17.out).mono ?_); (case side1 => repeat (first | exact (Kd.C_below HR137_0.out HB.out) | (with_reducible refine Kd.C_alloc ?_ _) | (with_reducible refine Kd.C_drewN ?_ _) | (with_reducible refine Kd.C_drew ?_))); (case side2 => exact HC137_0.out); rintro e w100 ⟨rfl, hb⟩; have n0_ := Aside0.mk (blk_below (g := gb134) (o := .cells #[.slice (some ad137) l0_0.length c0_0, .slice A0_1 l0_1.length c0_1, .slice A0_2 l0_2.length c0_2, .slice A0_3 l0_3.length c0_3] 27 (0, 0)) (by (with_reducible repeat (first | refine blk_drewN ?_ _ | refine blk_drew ?_ | refine blk_alloc ?_ _)); exact BK134.out) hb); have n1_ := Aside0.mk (below_step (by repeat (first | (with_reducible first | exact HB.out | apply below_alloc | apply pw_below_drewN | apply below_drew1 | refine below_set ?_ GE134.out) | exact HB.out)) hb); clear BK134; clear HB; have BK134 := n0_; have HB := n1_; clear n0_ n1_; (try clear hb); (try clear hb2); (try clear hk); (try clear hi)) | (go_at_call 9; (with_reducible refine (lectionarylaw5_num.calls t138 t139 _ A18.out).mono ?_); rintro e w' ⟨rfl, ⟨nd, rfl⟩⟩; (try first | exact ⟨rfl, _, World.drewN_drewN _ _ _⟩ | exact ⟨rfl, _, Eq.trans (World.drewN_drewN _ _ _) (congrArg (World.drewN _) (Nat.add_assoc _ _ _))⟩)))
                    go_roundg kj9
                    case measure => have := HK1.out; have := HJ9.out; omega
                    case rel => exact ⟨(wrap64 (x3_1 + 1)), (by first | rfl | (simp; done) | (simp [*]; done)), H', ⟨by have := HK1.out; have := HJ9.out; omega⟩, ⟨by (with_reducible repeat (first | refine blk_drewN ?_ _ | refine blk_drew ?_ | refine blk_alloc ?_ _)); exact BK134.out⟩, ⟨by repeat (first | (with_reducible first | exact HB.out | apply below_alloc | apply pw_below_drewN | apply below_drew1 | refine below_set ?_ GE134.out) | exact HB.out)⟩⟩
                · rw [if_neg c16] at H
                  exact absurd H (by simp)
              · rw [if_neg c15] at H
                exact absurd H (by simp)
            · replace c14 := Bool.eq_false_iff.mpr c14
              subst c14
              have H1 : ((lectionarylaw5_wakes.f).bind fun t136 => (some t136)) = some r := by rw [if_neg (show ¬ (false = true) by decide)] at H; exact H
              clear H
              have H := H1
              clear H1
              replace H := Option.bind_eq_some_iff.mp H
              obtain ⟨t136, A1010, H⟩ := H
              replace H : (some t136) = some r := H
              have A101 := Aside0.mk A1010
              clear A1010
              obtain rfl := Option.some.inj H
              go_wp2_with (first | (go_at_call 14; (with_reducible refine (lectionarylaw5_wakes.calls  t136 _ A101.out).mono ?_); rintro e w102 ⟨rfl, hb⟩; have n0_ := Aside0.mk (blk_below (g := gb134) (o := .cells #[.slice A0_0 l0_0.length c0_0, .slice A0_1 l0_1.length c0_1, .slice A0_2 l0_2.length c0_2, .slice A0_3 l0_3.length c0_3] 27 (0, 0)) (by (with_reducible repeat (first | refine blk_drewN ?_ _ | refine blk_drew ?_ | refine blk_alloc ?_ _)); exact BK134.out) hb); have n1_ := Aside0.mk (below_step (by repeat (first | (with_reducible first | exact HB.out | apply below_alloc | apply pw_below_drewN | apply below_drew1 | refine below_set ?_ GE134.out) | exact HB.out)) hb); clear BK134; clear HB; have BK134 := n0_; have HB := n1_; clear n0_ n1_; (try clear hb); (try clear hb2); (try clear hk); (try clear hi)))
              go_ret
              exact ⟨by first | rfl | (simp [errW_none, errW_some] <;> rfl) | (simp [*, errW_none, errW_some] <;> rfl), by repeat (first | (with_reducible first | exact HB.out | apply below_alloc | apply pw_below_drewN | apply below_drew1 | refine below_set ?_ GE134.out) | exact HB.out)⟩
end Go.Proofs.Ytdahgnalojekdaa.L
end
