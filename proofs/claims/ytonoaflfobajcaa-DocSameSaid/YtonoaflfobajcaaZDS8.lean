/- Part 8 of the proof that for every argument the law DocSame answers true: of any row that may be, the elements that are visible are among all and in their order, the text is their runes one by one, each one's edit is effective, none stands twice, and what goes by an effective edit is not visible; for any row at all, without any condition. -/
import Derived.Test.YtonoaflfobajcaaZDS7
section
namespace Go.Proofs.Ytonoaflfobajcaa.L
open Go.RowKit Go.Proofs.YtonoaflfobajcaaW.PrintWords Go.Proofs.YtonoaflfobajcaaW.PrintLast Go.Proofs.YtonoaflfobajcaaW.PrintMore
attribute [local go_sem] max2_int min2_int max_two min_two max_three min_three max_four min_four
set_option linter.unusedVariables false
set_option linter.unusedSimpArgs false
attribute [local go_sem high] eqAElem
mutual
def lectionarylaw6_DocSame.l0 : Nat → Int → List (List (SOp)) → List (SElem) → List (SOp) → List Int → Option (Bool)
 | 0, _, _, _, _, _ => none
 | k + 1, x3, x225000, x225001, x225002, x225003 => if x3 < (x225000.length : Int) then (lectionarylaw6_DocSame.j1 k x3 (decide (x3 < 4)) x225000 x225001 x225002 x225003) else (lectionarylaw6_DocSame.j1 k x3 false x225000 x225001 x225002 x225003)
def lectionarylaw6_DocSame.j1 : Nat → Int → Bool → List (List (SOp)) → List (SElem) → List (SOp) → List Int → Option (Bool)
 | 0, _, _, _, _, _, _ => none
 | k + 1, x3, x30, x225000, x225001, x225002, x225003 => if x30 = true then (if 0 ≤ x3 then (if x3 < (x225000.length : Int) then ((doc_Visible.f (rd_LOp x225000 x3)).bind fun bt228 => ((doc_Text.f (rd_LOp x225000 x3)).bind fun bt232 => ((lectionarylaw6_num.f bt228.2).bind fun t234 => ((lectionarylaw6_num.f bt232.2).bind fun t235 => (if t234 = t235 then ((lectionarylaw6_num.f bt228.2).bind fun t236 => (if t236 = 0 then (lectionarylaw6_DocSame.l1 k x3 (rd_LOp x225000 x3) bt228.1 bt232.1 0 0 x225000 x225001 x225002 x225003) else (lectionarylaw6_DocSame.l0 k (wrap64 (x3 + 1)) x225000 x225001 x225002 x225003))) else (some false)))))) else (none)) else (none)) else ((lectionarylaw6_wakes.f).bind fun t226 => (some t226))
def lectionarylaw6_DocSame.l1 : Nat → Int → List (SOp) → List (SElem) → ByteArray → Int → Int → List (List (SOp)) → List (SElem) → List (SOp) → List Int → Option (Bool)
 | 0, _, _, _, _, _, _, _, _, _, _ => none
 | k + 1, x3, x4, x5, x7, x9, x10, x225000, x225001, x225002, x225003 => if x10 < (x5.length : Int) then (if 0 ≤ x10 then ((doc_Rune.f x4 ((rd_Elem x5 x10).f0) ((rd_Elem x5 x10).f1) ((rd_Elem x5 x10).f2)).bind fun bt238 => ((doc_Effective.f k x4 ((rd_Elem x5 x10).f0) ((rd_Elem x5 x10).f1)).bind fun bt242 => ((lectionarylaw6_num.f bt238.2).bind fun t244 => (if t244 = 0 then ((lectionarylaw6_num.f bt242.2).bind fun t245 => (if t245 = 0 then (if bt242.1 = true then (if (x7.size : Int) < (wrap64 (x9 + ((Utf8.encode bt238.1).size : Int))) then (lectionarylaw6_DocSame.j3 k x3 x4 x5 x7 x9 x10 bt238.1 true x225000 x225001 x225002 x225003) else (if 0 ≤ x9 then (if x9 ≤ (wrap64 (x9 + ((Utf8.encode bt238.1).size : Int))) then (if (wrap64 (x9 + ((Utf8.encode bt238.1).size : Int))) ≤ (x7.size : Int) then (lectionarylaw6_DocSame.j3 k x3 x4 x5 x7 x9 x10 bt238.1 ((x7.extract (x9 : Int).toNat ((wrap64 (x9 + ((Utf8.encode bt238.1).size : Int))) : Int).toNat).toList != (Utf8.encode bt238.1).toList) x225000 x225001 x225002 x225003) else (none)) else (none)) else (none))) else (lectionarylaw6_DocSame.j3 k x3 x4 x5 x7 x9 x10 bt238.1 true x225000 x225001 x225002 x225003)) else (lectionarylaw6_DocSame.j3 k x3 x4 x5 x7 x9 x10 bt238.1 true x225000 x225001 x225002 x225003))) else (lectionarylaw6_DocSame.j3 k x3 x4 x5 x7 x9 x10 bt238.1 true x225000 x225001 x225002 x225003))))) else (none)) else (if x9 = (x7.size : Int) then (lectionarylaw6_DocSame.l3 k x3 x4 x5 0 x225000 x225001 x225002 x225003) else (some false))
def lectionarylaw6_DocSame.j3 : Nat → Int → List (SOp) → List (SElem) → ByteArray → Int → Int → Int → Bool → List (List (SOp)) → List (SElem) → List (SOp) → List Int → Option (Bool)
 | 0, _, _, _, _, _, _, _, _, _, _, _, _ => none
 | k + 1, x3, x4, x5, x7, x9, x10, x11, x120, x225000, x225001, x225002, x225003 => if x120 = true then (some false) else (lectionarylaw6_DocSame.l2 k x3 x4 x5 x7 (wrap64 (x9 + ((Utf8.encode x11).size : Int))) x10 0 x225000 x225001 x225002 x225003)
def lectionarylaw6_DocSame.l2 : Nat → Int → List (SOp) → List (SElem) → ByteArray → Int → Int → Int → List (List (SOp)) → List (SElem) → List (SOp) → List Int → Option (Bool)
 | 0, _, _, _, _, _, _, _, _, _, _, _ => none
 | k + 1, x3, x4, x5, x7, x9, x10, x15, x225000, x225001, x225002, x225003 => if x15 < x10 then (if 0 ≤ x15 then (if x15 < (x5.length : Int) then (if 0 ≤ x10 then (if x10 < (x5.length : Int) then (if (((rd_Elem x5 x15).f0) == ((rd_Elem x5 x10).f0) && (((rd_Elem x5 x15).f1) == ((rd_Elem x5 x10).f1) && (((rd_Elem x5 x15).f2) == ((rd_Elem x5 x10).f2)))) = true then (some false) else (lectionarylaw6_DocSame.l2 k x3 x4 x5 x7 x9 x10 (wrap64 (x15 + 1)) x225000 x225001 x225002 x225003)) else (none)) else (none)) else (none)) else (none)) else (lectionarylaw6_DocSame.l1 k x3 x4 x5 x7 x9 (wrap64 (x10 + 1)) x225000 x225001 x225002 x225003)
def lectionarylaw6_DocSame.l3 : Nat → Int → List (SOp) → List (SElem) → Int → List (List (SOp)) → List (SElem) → List (SOp) → List Int → Option (Bool)
 | 0, _, _, _, _, _, _, _, _ => none
 | k + 1, x3, x4, x5, x16, x225000, x225001, x225002, x225003 => if x16 < (x4.length : Int) then (if 0 ≤ x16 then ((doc_Effective.f k x4 ((rd_Op x4 x16).f0) ((rd_Op x4 x16).f1)).bind fun bt250 => (lectionarylaw6_DocSame.l4 k x3 x4 x5 x16 bt250.1 bt250.2 0 x225000 x225001 x225002 x225003)) else (none)) else (lectionarylaw6_DocSame.l0 k (wrap64 (x3 + 1)) x225000 x225001 x225002 x225003)
def lectionarylaw6_DocSame.l4 : Nat → Int → List (SOp) → List (SElem) → Int → Bool → Int → Int → List (List (SOp)) → List (SElem) → List (SOp) → List Int → Option (Bool)
 | 0, _, _, _, _, _, _, _, _, _, _, _ => none
 | k + 1, x3, x4, x5, x16, x17, x18, x19, x225000, x225001, x225002, x225003 => if 0 ≤ x16 then (if x16 < (x4.length : Int) then (if x19 < (((rd_Op x4 x16).f5).length : Int) then ((lectionarylaw6_num.f x18).bind fun t253 => (if t253 = 0 then (lectionarylaw6_DocSame.j7 k x3 x4 x5 x16 x17 x18 x19 x17 x225000 x225001 x225002 x225003) else (lectionarylaw6_DocSame.j7 k x3 x4 x5 x16 x17 x18 x19 false x225000 x225001 x225002 x225003))) else (lectionarylaw6_DocSame.j7 k x3 x4 x5 x16 x17 x18 x19 false x225000 x225001 x225002 x225003)) else (none)) else (none)
def lectionarylaw6_DocSame.j7 : Nat → Int → List (SOp) → List (SElem) → Int → Bool → Int → Int → Bool → List (List (SOp)) → List (SElem) → List (SOp) → List Int → Option (Bool)
 | 0, _, _, _, _, _, _, _, _, _, _, _, _ => none
 | k + 1, x3, x4, x5, x16, x17, x18, x19, x180, x225000, x225001, x225002, x225003 => if x180 = true then (if 0 ≤ x16 then (if x16 < (x4.length : Int) then (if 0 ≤ x19 then (if x19 < (((rd_Op x4 x16).f5).length : Int) then ((lectionaryref0_At.f k x5 ((rd_Elem ((rd_Op x4 x16).f5) x19).f0) ((rd_Elem ((rd_Op x4 x16).f5) x19).f1) ((rd_Elem ((rd_Op x4 x16).f5) x19).f2)).bind fun t256 => (if t256 ≥ 0 then (some false) else (lectionarylaw6_DocSame.l4 k x3 x4 x5 x16 x17 x18 (wrap64 (x19 + 1)) x225000 x225001 x225002 x225003))) else (none)) else (none)) else (none)) else (none)) else (lectionarylaw6_DocSame.l3 k x3 x4 x5 (wrap64 (x16 + 1)) x225000 x225001 x225002 x225003)
end
def lectionarylaw6_DocSame.f (k : Nat) (l0_0 : List (List (SOp))) (l0_1 : List (SElem)) (l0_2 : List (SOp)) (l0_3 : List Int) : Option (Bool) := (lectionarylaw5_Heavy.f k l0_0 l0_1 l0_2 l0_3).bind fun t225 => (if t225 = true then (some true) else (lectionarylaw6_DocSame.l0 k 0 l0_0 l0_1 l0_2 l0_3))
def lectionarylaw6_DocSame.T17 : Bool × List (List Nat × List Nat) := (true, [([], []), ([], []), ([], []), ([1, 2], [1, 2]), ([3], [3]), ([4], [4]), ([], []), ([], []), ([6, 7], [6, 7]), ([8], [8]), ([9], [9]), ([0, 5, 10], [0, 5, 10]), ([11], [11]), ([12], [12]), ([12], [12]), ([13, 11, 0, 1, 2, 3, 4, 5, 6, 7, 8, 9, 10, 11, 12, 13], [13]), ([14, 15, 0, 1, 2, 3, 4, 5, 6, 7, 8, 9, 10, 11, 12, 13, 14, 15], [14])])
def lectionarylaw6_DocSame.B17 : List Nat := [0, 0, 0, 6, 14, 30, 0, 0, 192, 448, 960, 2047, 4095, 8191, 8191, 16383, 65535]
theorem lectionarylaw6_DocSame.tab17 : rtab .any (opsOf Try.f4 17) = lectionarylaw6_DocSame.T17 := by kernel_rfl
theorem lectionarylaw6_DocSame.bits17 : waitsOk lectionarylaw6_DocSame.T17.2 lectionarylaw6_DocSame.B17 = true := by kernel_rfl
def lectionarylaw6_DocSame.T24 : Bool × List (List Nat × List Nat) := (true, [([], []), ([], []), ([0, 1], [0, 1]), ([2], [2]), ([], []), ([], []), ([4, 5], [4, 5]), ([6], [6]), ([3, 7], [3, 7])])
def lectionarylaw6_DocSame.B24 : List Nat := [0, 0, 3, 7, 0, 0, 48, 112, 255]
theorem lectionarylaw6_DocSame.tab24 : rtab .any (opsOf Try.f4 24) = lectionarylaw6_DocSame.T24 := by kernel_rfl
theorem lectionarylaw6_DocSame.bits24 : waitsOk lectionarylaw6_DocSame.T24.2 lectionarylaw6_DocSame.B24 = true := by kernel_rfl
def lectionarylaw6_DocSame.T31 : Bool × List (List Nat × List Nat) := (true, [([], []), ([], []), ([], []), ([1, 2], [1, 2]), ([3], [3]), ([4], [4]), ([], []), ([], []), ([6, 7], [6, 7]), ([8], [8]), ([9], [9]), ([0, 5, 10], [0, 5, 10]), ([11], [11]), ([12], [12]), ([12], [12]), ([13, 11, 0, 1, 2, 3, 4, 5, 6, 7, 8, 9, 10, 11, 12, 13], [13]), ([14, 15, 0, 1, 2, 3, 4, 5, 6, 7, 8, 9, 10, 11, 12, 13, 14, 15], [14])])
def lectionarylaw6_DocSame.B31 : List Nat := [0, 0, 0, 6, 14, 30, 0, 0, 192, 448, 960, 2047, 4095, 8191, 8191, 16383, 65535]
theorem lectionarylaw6_DocSame.tab31 : rtab .any (opsOf Try.f4 31) = lectionarylaw6_DocSame.T31 := by kernel_rfl
theorem lectionarylaw6_DocSame.bits31 : waitsOk lectionarylaw6_DocSame.T31.2 lectionarylaw6_DocSame.B31 = true := by kernel_rfl
set_option maxHeartbeats 8000000 in
set_option maxRecDepth 100000 in
theorem lectionarylaw6_DocSame.calls (k : Nat) (A0_0 : Option Addr) (c0_0 : Nat) (l0_0 : List (List (SOp))) (A0_1 : Option Addr) (c0_1 : Nat) (l0_1 : List (SElem)) (A0_2 : Option Addr) (c0_2 : Nat) (l0_2 : List (SOp)) (A0_3 : Option Addr) (c0_3 : Nat) (l0_3 : List Int) (r : Bool) (w : World) (hr0_0 : Kd.C (Kd.slice 38 kOp) w A0_0 l0_0.length l0_0) (hc0_0 : l0_0.length ≤ c0_0) (hr0_1 : Kd.C kElem w A0_1 l0_1.length l0_1) (hc0_1 : l0_1.length ≤ c0_1) (hr0_2 : Kd.C kOp w A0_2 l0_2.length l0_2) (hc0_2 : l0_2.length ≤ c0_2) (hr0_3 : Kd.C (Kd.int .i64) w A0_3 l0_3.length l0_3) (hc0_3 : l0_3.length ≤ c0_3) (h : lectionarylaw6_DocSame.f k l0_0 l0_1 l0_2 l0_3 = some r) :
  Calls Try.prog 4 #[.agg #[.slice A0_0 l0_0.length c0_0, .slice A0_1 l0_1.length c0_1, .slice A0_2 l0_2.length c0_2, .slice A0_3 l0_3.length c0_3]] w fun e w' => e = .returned (.bool r) ∧ Below w.heap.size w w' := by
 have hu27 := Try.underlying27
 have hu36 := Try.underlying36
 have HR0_0 := Aside0.mk hr0_0
 have HC0_0 := Aside0.mk hc0_0
 clear hr0_0 hc0_0
 have HR0_1 := Aside0.mk hr0_1
 have HC0_1 := Aside0.mk hc0_1
 clear hr0_1 hc0_1
 have HR0_2 := Aside0.mk hr0_2
 have HC0_2 := Aside0.mk hc0_2
 clear hr0_2 hc0_2
 have HR0_3 := Aside0.mk hr0_3
 have HC0_3 := Aside0.mk hc0_3
 clear hr0_3 hc0_3
 have HB := Aside0.mk (Below.refl w.heap.size w)
 have H : ((lectionarylaw5_Heavy.f k l0_0 l0_1 l0_2 l0_3).bind fun t225 => (if t225 = true then (some true) else (lectionarylaw6_DocSame.l0 k 0 l0_0 l0_1 l0_2 l0_3))) = some r := h
 clear h
 replace H := Option.bind_eq_some_iff.mp H
 obtain ⟨t225, A20, H⟩ := H
 replace H : (if t225 = true then (some true) else (lectionarylaw6_DocSame.l0 k 0 l0_0 l0_1 l0_2 l0_3)) = some r := H
 have A2 := Aside0.mk A20
 clear A20
 by_cases c3 : t225 = true
 ·subst c3
  have H1 : (some true) = some r := by rw [if_pos rfl] at H; exact H
  clear H
  have H := H1
  clear H1
  obtain rfl := Option.some.inj H
  go_enter Try.func4, Try.ntmps4
  go_wp2_with (first | ((with_reducible refine gate_dst (N := 1) rfl ?_); (try (refine gate_guard (by rfl) ?_; dsimp only)); refine bx 1 #[.slice A0_0 l0_0.length c0_0, .slice A0_1 l0_1.length c0_1, .slice A0_2 l0_2.length c0_2, .slice A0_3 l0_3.length c0_3] 27 (h := ?_); intro gb224 hg w4 hbox hb; have BK224 := Aside0.mk (hbox); have GW224 := bz HB hg; have GE224 := bz HB hg; replace HB := bs HB hb; clear hb hbox hg; obtain ⟨hcz5_0, hcz5_1, hcz5_2, hcz5_3, hfz5_0, hfz5_1, hfz5_2, hfz5_3⟩ := kc4 BK224) | ((with_reducible refine gate_callee (f := 6) rfl ?_); refine gl (some 21) Try.func6 #[.agg #[.slice A0_0 l0_0.length c0_0, .slice A0_1 l0_1.length c0_1, .slice A0_2 l0_2.length c0_2, .slice A0_3 l0_3.length c0_3]] (h := ?_); (with_reducible refine (lectionarylaw5_Heavy.calls k _ _ l0_0 _ _ l0_1 _ _ l0_2 _ _ l0_3 true _ ?side1 ?side2 ?side3 ?side4 ?side5 ?side6 ?side7 ?side8 A2.out).mono ?_); (case side1 => repeat (first | exact (Kd.C_below HR0_0.out HB.out) | (with_reducible refine Kd.C_alloc ?_ _) | (with_reducible refine Kd.C_drewN ?_ _) | (with_reducible refine Kd.C_drew ?_))); (case side2 => exact HC0_0.out); (case side3 => repeat (first | exact (Kd.C_below HR0_1.out HB.out) | (with_reducible refine Kd.C_alloc ?_ _) | (with_reducible refine Kd.C_drewN ?_ _) | (with_reducible refine Kd.C_drew ?_))); (case side4 => exact HC0_1.out); (case side5 => repeat (first | exact (Kd.C_below HR0_2.out HB.out) | (with_reducible refine Kd.C_alloc ?_ _) | (with_reducible refine Kd.C_drewN ?_ _) | (with_reducible refine Kd.C_drew ?_))); (case side6 => exact HC0_2.out); (case side7 => repeat (first | exact (Kd.C_below HR0_3.out HB.out) | (with_reducible refine Kd.C_alloc ?_ _) | (with_reducible refine Kd.C_drewN ?_ _) | (with_reducible refine Kd.C_drew ?_))); (case side8 => exact HC0_3.out); rintro e w6 ⟨rfl, hb⟩; refine ⟨_, rfl, ?_⟩; replace BK224 := bl BK224 hb; replace HB := bs HB hb; (try clear hb); (try clear hb2); (try clear hk); (try clear hi)))
  go_ret
  exact ⟨re, bw HB⟩
 replace c3 := Bool.eq_false_iff.mpr c3
 subst c3
 have H1 : (lectionarylaw6_DocSame.l0 k 0 l0_0 l0_1 l0_2 l0_3) = some r := by rw [if_neg (show ¬ (false = true) by decide)] at H; exact H
 clear H
 have H := H1
 clear H1
 have H' := Aside0.mk H
 clear H
 go_enter Try.func4, Try.ntmps4
 go_wp2_with (first | ((with_reducible refine gate_dst (N := 1) rfl ?_); (try (refine gate_guard (by rfl) ?_; dsimp only)); refine bx 1 #[.slice A0_0 l0_0.length c0_0, .slice A0_1 l0_1.length c0_1, .slice A0_2 l0_2.length c0_2, .slice A0_3 l0_3.length c0_3] 27 (h := ?_); intro gb224 hg w7 hbox hb; have BK224 := Aside0.mk (hbox); have GW224 := bz HB hg; have GE224 := bz HB hg; replace HB := bs HB hb; clear hb hbox hg; obtain ⟨hcz8_0, hcz8_1, hcz8_2, hcz8_3, hfz8_0, hfz8_1, hfz8_2, hfz8_3⟩ := kc4 BK224) | ((with_reducible refine gate_callee (f := 6) rfl ?_); refine gl (some 21) Try.func6 #[.agg #[.slice A0_0 l0_0.length c0_0, .slice A0_1 l0_1.length c0_1, .slice A0_2 l0_2.length c0_2, .slice A0_3 l0_3.length c0_3]] (h := ?_); (with_reducible refine (lectionarylaw5_Heavy.calls k _ _ l0_0 _ _ l0_1 _ _ l0_2 _ _ l0_3 false _ ?side1 ?side2 ?side3 ?side4 ?side5 ?side6 ?side7 ?side8 A2.out).mono ?_); (case side1 => repeat (first | exact (Kd.C_below HR0_0.out HB.out) | (with_reducible refine Kd.C_alloc ?_ _) | (with_reducible refine Kd.C_drewN ?_ _) | (with_reducible refine Kd.C_drew ?_))); (case side2 => exact HC0_0.out); (case side3 => repeat (first | exact (Kd.C_below HR0_1.out HB.out) | (with_reducible refine Kd.C_alloc ?_ _) | (with_reducible refine Kd.C_drewN ?_ _) | (with_reducible refine Kd.C_drew ?_))); (case side4 => exact HC0_1.out); (case side5 => repeat (first | exact (Kd.C_below HR0_2.out HB.out) | (with_reducible refine Kd.C_alloc ?_ _) | (with_reducible refine Kd.C_drewN ?_ _) | (with_reducible refine Kd.C_drew ?_))); (case side6 => exact HC0_2.out); (case side7 => repeat (first | exact (Kd.C_below HR0_3.out HB.out) | (with_reducible refine Kd.C_alloc ?_ _) | (with_reducible refine Kd.C_drewN ?_ _) | (with_reducible refine Kd.C_drew ?_))); (case side8 => exact HC0_3.out); rintro e w9 ⟨rfl, hb⟩; refine ⟨_, rfl, ?_⟩; replace BK224 := bl BK224 hb; replace HB := bs HB hb; (try clear hb); (try clear hb2); (try clear hk); (try clear hi)))
 go_loopg [3] k (fun kq v3 w' => ∃ (x3_1 : Int), v3 = .int .i64 x3_1 ∧ Aside0 (lectionarylaw6_DocSame.l0 kq x3_1 l0_0 l0_1 l0_2 l0_3 = some r) ∧ Aside0 (kq ≤ k) ∧ Aside0 (w'.heap[gb224]? = some (.cells #[(.slice A0_0 l0_0.length c0_0), (.slice A0_1 l0_1.length c0_1), (.slice A0_2 l0_2.length c0_2), (.slice A0_3 l0_3.length c0_3)] 27 (0, 0))) ∧ Aside0 (Below w.heap.size w w'))
 case atStart => exact ⟨(0), rf, H', ⟨Nat.le_refl _⟩, ⟨kk BK224⟩, ⟨bw HB⟩⟩
 case round =>
  clear H'
  try clear c3; try clear hcz8_0; try clear hcz8_1; try clear hcz8_2; try clear hcz8_3; try clear hfz8_0; try clear hfz8_1; try clear hfz8_2; try clear hfz8_3
  obtain ⟨x3_1, rfl, HA, HK1, BK224, HB⟩ := hrel
  cases gk with
  | zero => exact absurd HA.out (by simp [lectionarylaw6_DocSame.l0])
  | succ k1 =>
   have H := HA.out
   clear HA
   simp only [lectionarylaw6_DocSame.l0] at H
   have HC10 := Aside0.mk H
   clear H
   go_upto_region 4 with (fail)
   go_cut [30] (fun v30 wc => ∃ (kq : Nat) (x30_9 : Bool), v30 = .bool x30_9 ∧ Aside0 (lectionarylaw6_DocSame.j1 kq x3_1 x30_9 l0_0 l0_1 l0_2 l0_3 = some r) ∧ Aside0 (kq ≤ k1) ∧ Aside0 (wc.heap[gb224]? = some (.cells #[(.slice A0_0 l0_0.length c0_0), (.slice A0_1 l0_1.length c0_1), (.slice A0_2 l0_2.length c0_2), (.slice A0_3 l0_3.length c0_3)] 27 (0, 0))) ∧ Aside0 (Below w.heap.size w wc))
   case first =>
    have H := HC10.out
    clear HC10
    by_cases c11 : x3_1 < (l0_0.length : Int)
    ·rw [if_pos c11] at H
     have c11b0 : decide (x3_1 < (l0_0.length : Int)) = true := decide_eq_true c11
     clear c11
     (first | rw [c11b0] | (simp only [i64_w, i32_w]; rw [c11b0]) | skip)
     have H' := Aside0.mk H
     clear H
     obtain ⟨hcz12_0, hcz12_1, hcz12_2, hcz12_3, hfz12_0, hfz12_1, hfz12_2, hfz12_3⟩ := kc4 BK224
     go_wp2
     go_meet
     case rel => exact ⟨_, (decide (x3_1 < 4)), rf, H', ⟨by have := HK1.out; first | omega | exact Nat.le_refl _⟩, ⟨kk BK224⟩, ⟨bw HB⟩⟩
    rw [if_neg c11] at H
    have c11b0 : decide (x3_1 < (l0_0.length : Int)) = false := decide_eq_false c11
    clear c11
    (first | rw [c11b0] | (simp only [i64_w, i32_w]; rw [c11b0]) | skip)
    have H' := Aside0.mk H
    clear H
    obtain ⟨hcz13_0, hcz13_1, hcz13_2, hcz13_3, hfz13_0, hfz13_1, hfz13_2, hfz13_3⟩ := kc4 BK224
    go_wp2
    go_meet
    case rel => exact ⟨_, (false), rf, H', ⟨by have := HK1.out; first | omega | exact Nat.le_refl _⟩, ⟨kk BK224⟩, ⟨bw HB⟩⟩
   case rest =>
    clear HC10
    obtain ⟨kq, x30_9, rfl, HA, HJ9, BK224, HB⟩ := hcut
    cases kq with
    | zero => exact absurd HA.out (by simp [lectionarylaw6_DocSame.j1])
    | succ kj9 =>
     have H := HA.out
     clear HA
     simp only [lectionarylaw6_DocSame.j1] at H
     by_cases c14 : x30_9 = true
     ·subst c14
      have H1 : (if 0 ≤ x3_1 then (if x3_1 < (l0_0.length : Int) then ((doc_Visible.f (rd_LOp l0_0 x3_1)).bind fun bt228 => ((doc_Text.f (rd_LOp l0_0 x3_1)).bind fun bt232 => ((lectionarylaw6_num.f bt228.2).bind fun t234 => ((lectionarylaw6_num.f bt232.2).bind fun t235 => (if t234 = t235 then ((lectionarylaw6_num.f bt228.2).bind fun t236 => (if t236 = 0 then (lectionarylaw6_DocSame.l1 kj9 x3_1 (rd_LOp l0_0 x3_1) bt228.1 bt232.1 0 0 l0_0 l0_1 l0_2 l0_3) else (lectionarylaw6_DocSame.l0 kj9 (wrap64 (x3_1 + 1)) l0_0 l0_1 l0_2 l0_3))) else (some false)))))) else (none)) else (none)) = some r := by rw [if_pos rfl] at H; exact H
      clear H
      have H := H1
      clear H1
      by_cases c15 : 0 ≤ x3_1
      ·rw [if_pos c15] at H
       have c15b0 : decide (0 ≤ x3_1) = true := decide_eq_true c15
       clear c15
       by_cases c16 : x3_1 < (l0_0.length : Int)
       ·rw [if_pos c16] at H
        have c16b0 : decide (x3_1 < (l0_0.length : Int)) = true := decide_eq_true c16
        clear c16
        replace H := Option.bind_eq_some_iff.mp H
        obtain ⟨⟨t228, t229⟩, A170, H⟩ := H
        replace H : ((doc_Text.f (rd_LOp l0_0 x3_1)).bind fun bt232 => ((lectionarylaw6_num.f t229).bind fun t234 => ((lectionarylaw6_num.f bt232.2).bind fun t235 => (if t234 = t235 then ((lectionarylaw6_num.f t229).bind fun t236 => (if t236 = 0 then (lectionarylaw6_DocSame.l1 kj9 x3_1 (rd_LOp l0_0 x3_1) t228 bt232.1 0 0 l0_0 l0_1 l0_2 l0_3) else (lectionarylaw6_DocSame.l0 kj9 (wrap64 (x3_1 + 1)) l0_0 l0_1 l0_2 l0_3))) else (some false))))) = some r := H
        have A17 := Aside0.mk A170
        clear A170
        replace H := Option.bind_eq_some_iff.mp H
        obtain ⟨⟨t232, t233⟩, A180, H⟩ := H
        replace H : ((lectionarylaw6_num.f t229).bind fun t234 => ((lectionarylaw6_num.f t233).bind fun t235 => (if t234 = t235 then ((lectionarylaw6_num.f t229).bind fun t236 => (if t236 = 0 then (lectionarylaw6_DocSame.l1 kj9 x3_1 (rd_LOp l0_0 x3_1) t228 t232 0 0 l0_0 l0_1 l0_2 l0_3) else (lectionarylaw6_DocSame.l0 kj9 (wrap64 (x3_1 + 1)) l0_0 l0_1 l0_2 l0_3))) else (some false)))) = some r := H
        have A18 := Aside0.mk A180
        clear A180
        replace H := Option.bind_eq_some_iff.mp H
        obtain ⟨t234, A190, H⟩ := H
        replace H : ((lectionarylaw6_num.f t233).bind fun t235 => (if t234 = t235 then ((lectionarylaw6_num.f t229).bind fun t236 => (if t236 = 0 then (lectionarylaw6_DocSame.l1 kj9 x3_1 (rd_LOp l0_0 x3_1) t228 t232 0 0 l0_0 l0_1 l0_2 l0_3) else (lectionarylaw6_DocSame.l0 kj9 (wrap64 (x3_1 + 1)) l0_0 l0_1 l0_2 l0_3))) else (some false))) = some r := H
        have A19 := Aside0.mk A190
        clear A190
        replace H := Option.bind_eq_some_iff.mp H
        obtain ⟨t235, A200, H⟩ := H
        replace H : (if t234 = t235 then ((lectionarylaw6_num.f t229).bind fun t236 => (if t236 = 0 then (lectionarylaw6_DocSame.l1 kj9 x3_1 (rd_LOp l0_0 x3_1) t228 t232 0 0 l0_0 l0_1 l0_2 l0_3) else (lectionarylaw6_DocSame.l0 kj9 (wrap64 (x3_1 + 1)) l0_0 l0_1 l0_2 l0_3))) else (some false)) = some r := H
        have A20 := Aside0.mk A200
        clear A200
        by_cases c21 : t234 = t235
        ·rw [if_pos c21] at H
         have c21b0 : (t234 == t235) = true := beq_iff_eq.mpr c21
         have c21b1 : (t234 != t235) = false := bne_eq_false_iff_eq.mpr c21
         clear c21
         replace H := Option.bind_eq_some_iff.mp H
         obtain ⟨t236, A220, H⟩ := H
         replace H : (if t236 = 0 then (lectionarylaw6_DocSame.l1 kj9 x3_1 (rd_LOp l0_0 x3_1) t228 t232 0 0 l0_0 l0_1 l0_2 l0_3) else (lectionarylaw6_DocSame.l0 kj9 (wrap64 (x3_1 + 1)) l0_0 l0_1 l0_2 l0_3)) = some r := H
         have A22 := Aside0.mk A220
         clear A220
         by_cases c23 : t236 = 0
         ·rw [if_pos c23] at H
          have c23b0 : (t236 == 0) = true := beq_iff_eq.mpr c23
          have c23b1 : (t236 != 0) = false := bne_eq_false_iff_eq.mpr c23
          clear c23
          have H' := Aside0.mk H
          clear H
          obtain ⟨hcz24_0, hcz24_1, hcz24_2, hcz24_3, hfz24_0, hfz24_1, hfz24_2, hfz24_3⟩ := kc4 BK224
          have p227 : 0 ≤ (x3_1 : Int) := of_decide_eq_true (by first | (with_reducible assumption) | assumption)
          have q227 : x3_1 < (l0_0.length : Int) := of_decide_eq_true (by first | (with_reducible assumption) | assumption)
          obtain ⟨ad227, A227_0, c227_0, e227, hx227_0, hl227_0, hi227_0⟩ := at_LOp HR0_0.out x3_1 p227 q227
          cases e227
          replace hx227_0 := cl HB hx227_0
          have HR227_0 := Aside0.mk hi227_0
          have HC227_0 := Aside0.mk hl227_0
          clear hi227_0 hl227_0
          replace p227 := eq_true p227
          replace q227 := eq_true q227
          go_wp2_with (first | ((with_reducible refine gate_callee (f := 15) rfl ?_); refine gl (some 40) Try.func15 #[.slice A227_0 (rd_LOp l0_0 x3_1).length c227_0] (h := ?_); (with_reducible refine (doc_Visible.calls _ _ (rd_LOp l0_0 x3_1) t228 t229 _ ?side1 ?side2 A17.out).mono ?_); (case side1 => repeat (first | exact (Kd.C_below HR227_0.out HB.out) | (with_reducible refine Kd.C_alloc ?_ _) | (with_reducible refine Kd.C_drewN ?_ _) | (with_reducible refine Kd.C_drew ?_))); (case side2 => exact HC227_0.out); rintro e w25 ⟨v230, rfl, ho0, hb⟩; refine ⟨_, rfl, ?_⟩; have HO231 := Aside0.mk (Kd.R_lower ho0 (below_size (bw HB))); replace BK224 := bl BK224 hb; replace HB := bs HB hb; (try clear hb); (try clear hb2); (try clear hk); (try clear hi); (try clear ho0)) | ((with_reducible refine gate_callee (f := 7) rfl ?_); refine gl (some 45) Try.func7 #[.slice A227_0 (rd_LOp l0_0 x3_1).length c227_0] (h := ?_); (with_reducible refine (doc_Text.calls _ _ (rd_LOp l0_0 x3_1) t232 t233 _ ?side1 ?side2 A18.out).mono ?_); (case side1 => repeat (first | exact (Kd.C_below HR227_0.out HB.out) | (with_reducible refine Kd.C_alloc ?_ _) | (with_reducible refine Kd.C_drewN ?_ _) | (with_reducible refine Kd.C_drew ?_))); (case side2 => exact HC227_0.out); rintro e w26 ⟨rfl, hb⟩; refine ⟨_, rfl, ?_⟩; replace HO231 := Aside0.mk (Kd.R_below (by (with_reducible repeat (first | apply Kd.R_alloc | apply Kd.R_drewN | apply Kd.R_drew)); exact HO231.out) hb); replace BK224 := bl BK224 hb; replace HB := bs HB hb; (try clear hb); (try clear hb2); (try clear hk); (try clear hi)) | ((with_reducible refine gate_callee (f := 8) rfl ?_); refine gl (some 49) Try.func8 #[.int .i64 t229] (h := ?_); (with_reducible refine (lectionarylaw6_num.calls t229 t234 _ A19.out).mono ?_); rintro e w' ⟨rfl, ⟨nd, rfl⟩⟩; refine ⟨_, rfl, ?_⟩) | ((with_reducible refine gate_callee (f := 8) rfl ?_); refine gl (some 51) Try.func8 #[.int .i64 t233] (h := ?_); (with_reducible refine (lectionarylaw6_num.calls t233 t235 _ A20.out).mono ?_); rintro e w' ⟨rfl, ⟨nd, rfl⟩⟩; refine ⟨_, rfl, ?_⟩) | ((with_reducible refine gate_callee (f := 8) rfl ?_); refine gl (some 54) Try.func8 #[.int .i64 t229] (h := ?_); (with_reducible refine (lectionarylaw6_num.calls t229 t236 _ A22.out).mono ?_); rintro e w' ⟨rfl, ⟨nd, rfl⟩⟩; refine ⟨_, rfl, ?_⟩))
          go_loopg [9, 10] kj9 (fun kq v9 v10 w' => ∃ (x9_3 : Int) (x10_3 : Int), v9 = .int .i64 x9_3 ∧ v10 = .int .i64 x10_3 ∧ Aside0 (lectionarylaw6_DocSame.l1 kq x3_1 (rd_LOp l0_0 x3_1) t228 t232 x9_3 x10_3 l0_0 l0_1 l0_2 l0_3 = some r) ∧ Aside0 (kq ≤ kj9) ∧ Aside0 (Kd.R kElem 36 w' w.heap.size (fun _ => True) v230 t228) ∧ Aside0 (w'.heap[gb224]? = some (.cells #[(.slice (some ad227) l0_0.length c0_0), (.slice A0_1 l0_1.length c0_1), (.slice A0_2 l0_2.length c0_2), (.slice A0_3 l0_3.length c0_3)] 27 (0, 0))) ∧ Aside0 (Below w.heap.size w w'))
          case atStart => exact ⟨(0), (0), rf, rf, H', ⟨Nat.le_refl _⟩, ⟨by (with_reducible repeat (first | apply Kd.R_alloc | apply Kd.R_drewN | apply Kd.R_drew)); exact HO231.out⟩, ⟨kk BK224⟩, ⟨bw HB⟩⟩
          case round =>
           clear H'
           try clear c14; try clear c15b0; try clear c16b0; try clear c21b0; try clear c21b1; try clear c23b0; try clear c23b1; try clear hcz24_0; try clear hcz24_1; try clear hcz24_2; try clear hcz24_3; try clear hfz24_0; try clear hfz24_1; try clear hfz24_2; try clear hfz24_3; try clear hx227_0; try clear p227; try clear q227
           obtain ⟨x9_3, x10_3, rfl, rfl, HA, HK3, HO_5, BK224, HB⟩ := hrel
           cases gk with
           | zero => exact absurd HA.out (by simp [lectionarylaw6_DocSame.l1])
           | succ k3 =>
            have H := HA.out
            clear HA
            simp only [lectionarylaw6_DocSame.l1] at H
            by_cases c27 : x10_3 < (t228.length : Int)
            ·rw [if_pos c27] at H
             have c27b0 : decide (x10_3 < (t228.length : Int)) = true := decide_eq_true c27
             clear c27
             by_cases c28 : 0 ≤ x10_3
             ·rw [if_pos c28] at H
              have c28b0 : decide (0 ≤ x10_3) = true := decide_eq_true c28
              clear c28
              replace H := Option.bind_eq_some_iff.mp H
              obtain ⟨⟨t238, t239⟩, A290, H⟩ := H
              replace H : ((doc_Effective.f k3 (rd_LOp l0_0 x3_1) ((rd_Elem t228 x10_3).f0) ((rd_Elem t228 x10_3).f1)).bind fun bt242 => ((lectionarylaw6_num.f t239).bind fun t244 => (if t244 = 0 then ((lectionarylaw6_num.f bt242.2).bind fun t245 => (if t245 = 0 then (if bt242.1 = true then (if (t232.size : Int) < (wrap64 (x9_3 + ((Utf8.encode t238).size : Int))) then (lectionarylaw6_DocSame.j3 k3 x3_1 (rd_LOp l0_0 x3_1) t228 t232 x9_3 x10_3 t238 true l0_0 l0_1 l0_2 l0_3) else (if 0 ≤ x9_3 then (if x9_3 ≤ (wrap64 (x9_3 + ((Utf8.encode t238).size : Int))) then (if (wrap64 (x9_3 + ((Utf8.encode t238).size : Int))) ≤ (t232.size : Int) then (lectionarylaw6_DocSame.j3 k3 x3_1 (rd_LOp l0_0 x3_1) t228 t232 x9_3 x10_3 t238 ((t232.extract (x9_3 : Int).toNat ((wrap64 (x9_3 + ((Utf8.encode t238).size : Int))) : Int).toNat).toList != (Utf8.encode t238).toList) l0_0 l0_1 l0_2 l0_3) else (none)) else (none)) else (none))) else (lectionarylaw6_DocSame.j3 k3 x3_1 (rd_LOp l0_0 x3_1) t228 t232 x9_3 x10_3 t238 true l0_0 l0_1 l0_2 l0_3)) else (lectionarylaw6_DocSame.j3 k3 x3_1 (rd_LOp l0_0 x3_1) t228 t232 x9_3 x10_3 t238 true l0_0 l0_1 l0_2 l0_3))) else (lectionarylaw6_DocSame.j3 k3 x3_1 (rd_LOp l0_0 x3_1) t228 t232 x9_3 x10_3 t238 true l0_0 l0_1 l0_2 l0_3)))) = some r := H
              have A29 := Aside0.mk A290
              clear A290
              replace H := Option.bind_eq_some_iff.mp H
              obtain ⟨⟨t242, t243⟩, A300, H⟩ := H
              replace H : ((lectionarylaw6_num.f t239).bind fun t244 => (if t244 = 0 then ((lectionarylaw6_num.f t243).bind fun t245 => (if t245 = 0 then (if t242 = true then (if (t232.size : Int) < (wrap64 (x9_3 + ((Utf8.encode t238).size : Int))) then (lectionarylaw6_DocSame.j3 k3 x3_1 (rd_LOp l0_0 x3_1) t228 t232 x9_3 x10_3 t238 true l0_0 l0_1 l0_2 l0_3) else (if 0 ≤ x9_3 then (if x9_3 ≤ (wrap64 (x9_3 + ((Utf8.encode t238).size : Int))) then (if (wrap64 (x9_3 + ((Utf8.encode t238).size : Int))) ≤ (t232.size : Int) then (lectionarylaw6_DocSame.j3 k3 x3_1 (rd_LOp l0_0 x3_1) t228 t232 x9_3 x10_3 t238 ((t232.extract (x9_3 : Int).toNat ((wrap64 (x9_3 + ((Utf8.encode t238).size : Int))) : Int).toNat).toList != (Utf8.encode t238).toList) l0_0 l0_1 l0_2 l0_3) else (none)) else (none)) else (none))) else (lectionarylaw6_DocSame.j3 k3 x3_1 (rd_LOp l0_0 x3_1) t228 t232 x9_3 x10_3 t238 true l0_0 l0_1 l0_2 l0_3)) else (lectionarylaw6_DocSame.j3 k3 x3_1 (rd_LOp l0_0 x3_1) t228 t232 x9_3 x10_3 t238 true l0_0 l0_1 l0_2 l0_3))) else (lectionarylaw6_DocSame.j3 k3 x3_1 (rd_LOp l0_0 x3_1) t228 t232 x9_3 x10_3 t238 true l0_0 l0_1 l0_2 l0_3))) = some r := H
              have A30 := Aside0.mk A300
              clear A300
              have HC31 := Aside0.mk H
              clear H
              obtain ⟨Ao32, co32, eo32⟩ := Kd.R_slice HO_5.out
              subst eo32
              have p237 : 0 ≤ (x10_3 : Int) := of_decide_eq_true (by first | (with_reducible assumption) | assumption)
              have q237 : x10_3 < (t228.length : Int) := of_decide_eq_true (by first | (with_reducible assumption) | assumption)
              obtain ⟨ad237, e237, hx237_0, hx237_1, hx237_2⟩ := at_Elem (Kd.R_reads' HO_5.out).2.2 x10_3 p237 q237
              cases e237
              replace p237 := eq_true p237
              replace q237 := eq_true q237
              try go_wp2_with (first | ((with_reducible refine gate_callee (f := 16) rfl ?_); refine gl (some 68) Try.func16 #[.slice A227_0 (rd_LOp l0_0 x3_1).length c227_0, .agg #[.int .i64 ((rd_Elem t228 x10_3).f0), .int .i64 ((rd_Elem t228 x10_3).f1), .int .i64 ((rd_Elem t228 x10_3).f2)]] (h := ?_); (with_reducible refine (doc_Rune.calls _ _ (rd_LOp l0_0 x3_1) ((rd_Elem t228 x10_3).f0) ((rd_Elem t228 x10_3).f1) ((rd_Elem t228 x10_3).f2) t238 t239 _ ?side1 ?side2 A29.out).mono ?_); (case side1 => repeat (first | exact (Kd.C_below HR227_0.out HB.out) | (with_reducible refine Kd.C_alloc ?_ _) | (with_reducible refine Kd.C_drewN ?_ _) | (with_reducible refine Kd.C_drew ?_))); (case side2 => exact HC227_0.out); rintro e w33 ⟨rfl, hb⟩; refine ⟨_, rfl, ?_⟩; replace HO_5 := Aside0.mk (Kd.R_below (by (with_reducible repeat (first | apply Kd.R_alloc | apply Kd.R_drewN | apply Kd.R_drew)); exact HO_5.out) hb); replace BK224 := bl BK224 hb; replace HB := bs HB hb; (try clear hb); (try clear hb2); (try clear hk); (try clear hi)))
              have n0_ := Aside0.mk (Kd.R_drew HO_5.out)
              have n1_ := Aside0.mk (blk_drew BK224.out)
              have n2_ := Aside0.mk (below_drew1 HB.out)
              clear HO_5
              clear BK224
              clear HB
              have HO_5 := n0_
              have BK224 := n1_
              have HB := n2_
              clear n0_ n1_ n2_
              have p240 : 0 ≤ (x10_3 : Int) := of_decide_eq_true (by first | (with_reducible assumption) | assumption)
              have q240 : x10_3 < (t228.length : Int) := of_decide_eq_true (by first | (with_reducible assumption) | assumption)
              obtain ⟨ad240, e240, hx240_0, hx240_1, hx240_2⟩ := at_Elem (Kd.R_reads' HO_5.out).2.2 x10_3 p240 q240
              obtain rfl : ad237 = ad240 := (by injection e240)
              replace p240 := eq_true p240
              replace q240 := eq_true q240
              have p241 : 0 ≤ (x10_3 : Int) := of_decide_eq_true (by first | (with_reducible assumption) | assumption)
              have q241 : x10_3 < (t228.length : Int) := of_decide_eq_true (by first | (with_reducible assumption) | assumption)
              obtain ⟨ad241, e241, hx241_0, hx241_1, hx241_2⟩ := at_Elem (Kd.R_reads' HO_5.out).2.2 x10_3 p241 q241
              obtain rfl : ad237 = ad241 := (by injection e241)
              replace p241 := eq_true p241
              replace q241 := eq_true q241
              refine stP (fun w' => w'.cell? (ad237.add ((x10_3).toNat * 3)) = some (.int .i64 ((rd_Elem t228 x10_3).f0)) ∧ w'.cell? ⟨(ad237.add ((x10_3).toNat * 3)).block, (ad237.add ((x10_3).toNat * 3)).off + 1, none⟩ = some (.int .i64 ((rd_Elem t228 x10_3).f1)) ∧ w'.cell? ⟨(ad237.add ((x10_3).toNat * 3)).block, (ad237.add ((x10_3).toNat * 3)).off + 2, none⟩ = some (.int .i64 ((rd_Elem t228 x10_3).f2)) ∧ w'.cell? (ad237.add ((x10_3).toNat * 3)) = some (.int .i64 ((rd_Elem t228 x10_3).f0)) ∧ w'.cell? ⟨(ad237.add ((x10_3).toNat * 3)).block, (ad237.add ((x10_3).toNat * 3)).off + 1, none⟩ = some (.int .i64 ((rd_Elem t228 x10_3).f1)) ∧ w'.cell? ⟨(ad237.add ((x10_3).toNat * 3)).block, (ad237.add ((x10_3).toNat * 3)).off + 2, none⟩ = some (.int .i64 ((rd_Elem t228 x10_3).f2))) 17 ⟨hx240_0, hx240_1, hx240_2, hx241_0, hx241_1, hx241_2⟩ (h := fun hHeld => ?_); refine with_tabW lectionarylaw6_DocSame.tab17 lectionarylaw6_DocSame.bits17 (fun HT_ HW_ => ?_)
              generalize w33.drew = w34 at HO_5 BK224 HB hx240_0 hx240_1 hx240_2 hx241_0 hx241_1 hx241_2 hHeld ⊢
              refine pu HT_ 0 72 1 (h := ?_)
              refine pu HT_ 1 73 3 (h := ?_)
              refine pu HT_ 2 74 7 (h := ?_)
              refine pu HT_ 3 75 15 (h := ?_)
              refine pu HT_ 4 76 31 (h := ?_)
              refine pu HT_ 6 78 95 (h := ?_)
              refine pu HT_ 7 79 223 (h := ?_)
              refine pu HT_ 8 80 479 (h := ?_)
              refine pu HT_ 9 81 991 (h := ?_)
              refine tk HT_ HW_ hHeld 5 77 1023 (h := ?_)
              refine tk HT_ HW_ hHeld 10 82 2047 (h := ?_)
              refine on HT_ 11 (some 83) 4095 (h := fun K hK => ?_)
              refine gS Try.func11 #[.slice A227_0 (rd_LOp l0_0 x3_1).length c227_0, .int .i64 ((rd_Elem t228 x10_3).f0), .int .i64 ((rd_Elem t228 x10_3).f1)] (h := ?_)
              with_reducible refine (doc_Effective.calls k3 _ _ (rd_LOp l0_0 x3_1) ((rd_Elem t228 x10_3).f0) ((rd_Elem t228 x10_3).f1) t242 t243 _ ?side1 ?side2 A30.out).mono ?_
              (case side1 => repeat (first | exact (Kd.C_below HR227_0.out HB.out) | (with_reducible refine Kd.C_alloc ?_ _) | (with_reducible refine Kd.C_drewN ?_ _) | (with_reducible refine Kd.C_drew ?_)))
              (case side2 => exact HC227_0.out)
              rintro e w35 ⟨rfl, hb⟩
              have HS0_ := (hb.cell (World.block_lt_of_cell? _ _ (hHeld.1))).trans (hHeld.1)
              have HS1_ := (hb.cell (World.block_lt_of_cell? _ _ (hHeld.2.1))).trans (hHeld.2.1)
              have HS2_ := (hb.cell (World.block_lt_of_cell? _ _ (hHeld.2.2.1))).trans (hHeld.2.2.1)
              have HS3_ := (hb.cell (World.block_lt_of_cell? _ _ (hHeld.2.2.2.1))).trans (hHeld.2.2.2.1)
              have HS4_ := (hb.cell (World.block_lt_of_cell? _ _ (hHeld.2.2.2.2.1))).trans (hHeld.2.2.2.2.1)
              have HS5_ := (hb.cell (World.block_lt_of_cell? _ _ (hHeld.2.2.2.2.2))).trans (hHeld.2.2.2.2.2)
              refine ⟨_, rfl, ?_⟩
              have n0_ := Aside0.mk (Kd.R_below (by (with_reducible repeat (first | apply Kd.R_alloc | apply Kd.R_drewN | apply Kd.R_drew)); exact HO_5.out) hb)
              have n1_ := bl BK224 hb
              have n2_ := bs HB hb
              clear HO_5
              clear BK224
              clear HB
              have HO_5 := n0_
              have BK224 := n1_
              have HB := n2_
              clear n0_ n1_ n2_
              (try clear hb)
              (try clear hb2)
              (try clear hk)
              (try clear hi)
              refine hK.out _ _ ⟨HS0_, HS1_, HS2_, HS3_, HS4_, HS5_⟩ (fun hHeld => ?_)
              clear hK K
              refine nm (h := ?_)
              refine pu HT_ 12 71 8191 (h := ?_)
              refine pu HT_ 13 84 16383 (h := ?_)
              refine pu HT_ 14 85 32767 (h := ?_)
              refine pu HT_ 15 13 65535 (h := ?_)
              refine pu HT_ 16 14 131071 (h := ?_)
              refine dn HT_ (h := ?_)
              go_upto_region 18 with (fail)
              go_cut [120] (fun v120 wc => ∃ (kq : Nat) (x120_30 : Bool), v120 = .bool x120_30 ∧ Aside0 (lectionarylaw6_DocSame.j3 kq x3_1 (rd_LOp l0_0 x3_1) t228 t232 x9_3 x10_3 t238 x120_30 l0_0 l0_1 l0_2 l0_3 = some r) ∧ Aside0 (kq ≤ k3) ∧ Aside0 (Kd.R kElem 36 wc w.heap.size (fun _ => True) (.slice (some ad237) t228.length co32) t228) ∧ Aside0 (wc.heap[gb224]? = some (.cells #[(.slice (some ad227) l0_0.length c0_0), (.slice A0_1 l0_1.length c0_1), (.slice A0_2 l0_2.length c0_2), (.slice A0_3 l0_3.length c0_3)] 27 (0, 0))) ∧ Aside0 (Below w.heap.size w wc))
              case first =>
               have H := HC31.out
               clear HC31
               replace H := Option.bind_eq_some_iff.mp H
               obtain ⟨t244, A360, H⟩ := H
               replace H : (if t244 = 0 then ((lectionarylaw6_num.f t243).bind fun t245 => (if t245 = 0 then (if t242 = true then (if (t232.size : Int) < (wrap64 (x9_3 + ((Utf8.encode t238).size : Int))) then (lectionarylaw6_DocSame.j3 k3 x3_1 (rd_LOp l0_0 x3_1) t228 t232 x9_3 x10_3 t238 true l0_0 l0_1 l0_2 l0_3) else (if 0 ≤ x9_3 then (if x9_3 ≤ (wrap64 (x9_3 + ((Utf8.encode t238).size : Int))) then (if (wrap64 (x9_3 + ((Utf8.encode t238).size : Int))) ≤ (t232.size : Int) then (lectionarylaw6_DocSame.j3 k3 x3_1 (rd_LOp l0_0 x3_1) t228 t232 x9_3 x10_3 t238 ((t232.extract (x9_3 : Int).toNat ((wrap64 (x9_3 + ((Utf8.encode t238).size : Int))) : Int).toNat).toList != (Utf8.encode t238).toList) l0_0 l0_1 l0_2 l0_3) else (none)) else (none)) else (none))) else (lectionarylaw6_DocSame.j3 k3 x3_1 (rd_LOp l0_0 x3_1) t228 t232 x9_3 x10_3 t238 true l0_0 l0_1 l0_2 l0_3)) else (lectionarylaw6_DocSame.j3 k3 x3_1 (rd_LOp l0_0 x3_1) t228 t232 x9_3 x10_3 t238 true l0_0 l0_1 l0_2 l0_3))) else (lectionarylaw6_DocSame.j3 k3 x3_1 (rd_LOp l0_0 x3_1) t228 t232 x9_3 x10_3 t238 true l0_0 l0_1 l0_2 l0_3)) = some r := H
               have A36 := Aside0.mk A360
               clear A360
               by_cases c37 : t244 = 0
               ·rw [if_pos c37] at H
                have c37b0 : (t244 == 0) = true := beq_iff_eq.mpr c37
                have c37b1 : (t244 != 0) = false := bne_eq_false_iff_eq.mpr c37
                clear c37
                (first | rw [c37b0] | (simp only [i64_w, i32_w]; rw [c37b0]) | skip)
                replace H := Option.bind_eq_some_iff.mp H
                obtain ⟨t245, A380, H⟩ := H
                replace H : (if t245 = 0 then (if t242 = true then (if (t232.size : Int) < (wrap64 (x9_3 + ((Utf8.encode t238).size : Int))) then (lectionarylaw6_DocSame.j3 k3 x3_1 (rd_LOp l0_0 x3_1) t228 t232 x9_3 x10_3 t238 true l0_0 l0_1 l0_2 l0_3) else (if 0 ≤ x9_3 then (if x9_3 ≤ (wrap64 (x9_3 + ((Utf8.encode t238).size : Int))) then (if (wrap64 (x9_3 + ((Utf8.encode t238).size : Int))) ≤ (t232.size : Int) then (lectionarylaw6_DocSame.j3 k3 x3_1 (rd_LOp l0_0 x3_1) t228 t232 x9_3 x10_3 t238 ((t232.extract (x9_3 : Int).toNat ((wrap64 (x9_3 + ((Utf8.encode t238).size : Int))) : Int).toNat).toList != (Utf8.encode t238).toList) l0_0 l0_1 l0_2 l0_3) else (none)) else (none)) else (none))) else (lectionarylaw6_DocSame.j3 k3 x3_1 (rd_LOp l0_0 x3_1) t228 t232 x9_3 x10_3 t238 true l0_0 l0_1 l0_2 l0_3)) else (lectionarylaw6_DocSame.j3 k3 x3_1 (rd_LOp l0_0 x3_1) t228 t232 x9_3 x10_3 t238 true l0_0 l0_1 l0_2 l0_3)) = some r := H
                have A38 := Aside0.mk A380
                clear A380
                by_cases c39 : t245 = 0
                ·rw [if_pos c39] at H
                 have c39b0 : (t245 == 0) = true := beq_iff_eq.mpr c39
                 have c39b1 : (t245 != 0) = false := bne_eq_false_iff_eq.mpr c39
                 clear c39
                 by_cases c40 : t242 = true
                 ·subst c40
                  have H1 : (if (t232.size : Int) < (wrap64 (x9_3 + ((Utf8.encode t238).size : Int))) then (lectionarylaw6_DocSame.j3 k3 x3_1 (rd_LOp l0_0 x3_1) t228 t232 x9_3 x10_3 t238 true l0_0 l0_1 l0_2 l0_3) else (if 0 ≤ x9_3 then (if x9_3 ≤ (wrap64 (x9_3 + ((Utf8.encode t238).size : Int))) then (if (wrap64 (x9_3 + ((Utf8.encode t238).size : Int))) ≤ (t232.size : Int) then (lectionarylaw6_DocSame.j3 k3 x3_1 (rd_LOp l0_0 x3_1) t228 t232 x9_3 x10_3 t238 ((t232.extract (x9_3 : Int).toNat ((wrap64 (x9_3 + ((Utf8.encode t238).size : Int))) : Int).toNat).toList != (Utf8.encode t238).toList) l0_0 l0_1 l0_2 l0_3) else (none)) else (none)) else (none))) = some r := by rw [if_pos rfl] at H; exact H
                  clear H
                  have H := H1
                  clear H1
                  by_cases c41 : (t232.size : Int) < (wrap64 (x9_3 + ((Utf8.encode t238).size : Int)))
                  ·rw [if_pos c41] at H
                   have c41b0 : decide ((t232.size : Int) < (wrap64 (x9_3 + ((Utf8.encode t238).size : Int)))) = true := decide_eq_true c41
                   clear c41
                   have H' := Aside0.mk H
                   clear H
                   go_wp2_with (first | ((with_reducible refine gate_callee (f := 8) rfl ?_); refine gl (some 87) Try.func8 #[.int .i64 t239] (h := ?_); (with_reducible refine (lectionarylaw6_num.calls t239 t244 _ A36.out).mono ?_); rintro e w' ⟨rfl, ⟨nd, rfl⟩⟩; refine ⟨_, rfl, ?_⟩) | (go_at_call 8; (with_reducible refine (lectionarylaw6_num.calls t243 t245 _ A38.out).mono ?_); rintro e w' ⟨rfl, ⟨nd, rfl⟩⟩))
                   go_meet
                   case rel => exact ⟨_, (true), rf, H', ⟨by have := HK1.out; have := HJ9.out; have := HK3.out; first | omega | exact Nat.le_refl _⟩, ⟨by (with_reducible repeat (first | apply Kd.R_alloc | apply Kd.R_drewN | apply Kd.R_drew)); exact HO_5.out⟩, ⟨kk BK224⟩, ⟨bw HB⟩⟩
                  rw [if_neg c41] at H
                  have c41b0 : decide ((t232.size : Int) < (wrap64 (x9_3 + ((Utf8.encode t238).size : Int)))) = false := decide_eq_false c41
                  clear c41
                  by_cases c42 : 0 ≤ x9_3
                  ·rw [if_pos c42] at H
                   have c42b0 := eq_true c42
                   have c42b1 : decide (0 ≤ x9_3) = true := decide_eq_true c42
                   clear c42
                   by_cases c43 : x9_3 ≤ (wrap64 (x9_3 + ((Utf8.encode t238).size : Int)))
                   ·rw [if_pos c43] at H
                    have c43b0 := eq_true c43
                    have c43b1 : decide (x9_3 ≤ (wrap64 (x9_3 + ((Utf8.encode t238).size : Int)))) = true := decide_eq_true c43
                    by_cases c44 : (wrap64 (x9_3 + ((Utf8.encode t238).size : Int))) ≤ (t232.size : Int)
                    ·rw [if_pos c44] at H
                     have c44b0 := eq_true c44
                     have c44b1 : decide ((wrap64 (x9_3 + ((Utf8.encode t238).size : Int))) ≤ (t232.size : Int)) = true := decide_eq_true c44
                     have H' := Aside0.mk H
                     clear H
                     go_wp2_with (first | ((with_reducible refine gate_callee (f := 8) rfl ?_); refine gl (some 87) Try.func8 #[.int .i64 t239] (h := ?_); (with_reducible refine (lectionarylaw6_num.calls t239 t244 _ A36.out).mono ?_); rintro e w' ⟨rfl, ⟨nd, rfl⟩⟩; refine ⟨_, rfl, ?_⟩) | (go_at_call 8; (with_reducible refine (lectionarylaw6_num.calls t243 t245 _ A38.out).mono ?_); rintro e w' ⟨rfl, ⟨nd, rfl⟩⟩))
                     go_meet
                     case rel => exact ⟨_, (((t232.extract (x9_3 : Int).toNat ((wrap64 (x9_3 + ((Utf8.encode t238).size : Int))) : Int).toNat).toList != (Utf8.encode t238).toList)), rf, H', ⟨by have := HK1.out; have := HJ9.out; have := HK3.out; first | omega | exact Nat.le_refl _⟩, ⟨by (with_reducible repeat (first | apply Kd.R_alloc | apply Kd.R_drewN | apply Kd.R_drew)); exact HO_5.out⟩, ⟨kk BK224⟩, ⟨bw HB⟩⟩
                    rw [if_neg c44] at H
                    exact absurd H (by simp)
                   rw [if_neg c43] at H
                   exact absurd H (by simp)
                  rw [if_neg c42] at H
                  exact absurd H (by simp)
                 replace c40 := Bool.eq_false_iff.mpr c40
                 subst c40
                 have H1 : (lectionarylaw6_DocSame.j3 k3 x3_1 (rd_LOp l0_0 x3_1) t228 t232 x9_3 x10_3 t238 true l0_0 l0_1 l0_2 l0_3) = some r := by rw [if_neg (show ¬ (false = true) by decide)] at H; exact H
                 clear H
                 have H := H1
                 clear H1
                 have H' := Aside0.mk H
                 clear H
                 go_wp2_with (first | ((with_reducible refine gate_callee (f := 8) rfl ?_); refine gl (some 87) Try.func8 #[.int .i64 t239] (h := ?_); (with_reducible refine (lectionarylaw6_num.calls t239 t244 _ A36.out).mono ?_); rintro e w' ⟨rfl, ⟨nd, rfl⟩⟩; refine ⟨_, rfl, ?_⟩) | (go_at_call 8; (with_reducible refine (lectionarylaw6_num.calls t243 t245 _ A38.out).mono ?_); rintro e w' ⟨rfl, ⟨nd, rfl⟩⟩))
                 go_meet
                 case rel => exact ⟨_, (true), rf, H', ⟨by have := HK1.out; have := HJ9.out; have := HK3.out; first | omega | exact Nat.le_refl _⟩, ⟨by (with_reducible repeat (first | apply Kd.R_alloc | apply Kd.R_drewN | apply Kd.R_drew)); exact HO_5.out⟩, ⟨kk BK224⟩, ⟨bw HB⟩⟩
                rw [if_neg c39] at H
                have c39b0 : (t245 == 0) = false := beq_eq_false_iff_ne.mpr c39
                have c39b1 : (t245 != 0) = true := bne_iff_ne.mpr c39
                have H' := Aside0.mk H
                clear H
                go_wp2_with (first | ((with_reducible refine gate_callee (f := 8) rfl ?_); refine gl (some 87) Try.func8 #[.int .i64 t239] (h := ?_); (with_reducible refine (lectionarylaw6_num.calls t239 t244 _ A36.out).mono ?_); rintro e w' ⟨rfl, ⟨nd, rfl⟩⟩; refine ⟨_, rfl, ?_⟩) | (go_at_call 8; (with_reducible refine (lectionarylaw6_num.calls t243 t245 _ A38.out).mono ?_); rintro e w' ⟨rfl, ⟨nd, rfl⟩⟩))
                go_meet
                case rel => exact ⟨_, (true), rf, H', ⟨by have := HK1.out; have := HJ9.out; have := HK3.out; first | omega | exact Nat.le_refl _⟩, ⟨by (with_reducible repeat (first | apply Kd.R_alloc | apply Kd.R_drewN | apply Kd.R_drew)); exact HO_5.out⟩, ⟨kk BK224⟩, ⟨bw HB⟩⟩
               rw [if_neg c37] at H
               have c37b0 : (t244 == 0) = false := beq_eq_false_iff_ne.mpr c37
               have c37b1 : (t244 != 0) = true := bne_iff_ne.mpr c37
               (first | rw [c37b0] | (simp only [i64_w, i32_w]; rw [c37b0]) | skip)
               have H' := Aside0.mk H
               clear H
               go_wp2_with (first | ((with_reducible refine gate_callee (f := 8) rfl ?_); refine gl (some 87) Try.func8 #[.int .i64 t239] (h := ?_); (with_reducible refine (lectionarylaw6_num.calls t239 t244 _ A36.out).mono ?_); rintro e w' ⟨rfl, ⟨nd, rfl⟩⟩; refine ⟨_, rfl, ?_⟩))
               go_meet
               case rel => exact ⟨_, (true), rf, H', ⟨by have := HK1.out; have := HJ9.out; have := HK3.out; first | omega | exact Nat.le_refl _⟩, ⟨by (with_reducible repeat (first | apply Kd.R_alloc | apply Kd.R_drewN | apply Kd.R_drew)); exact HO_5.out⟩, ⟨kk BK224⟩, ⟨bw HB⟩⟩
              case rest =>
               clear HC31
               try clear c27b0; try clear c28b0; try clear hx237_0; try clear hx237_1; try clear hx237_2; try clear hx240_0; try clear hx240_1; try clear hx240_2; try clear hx241_0; try clear hx241_1; try clear hx241_2; try clear p237; try clear p240; try clear p241; try clear q237; try clear q240; try clear q241
               obtain ⟨kq, x120_30, rfl, HA, HJ30, HO_5, BK224, HB⟩ := hcut
               cases kq with
               | zero => exact absurd HA.out (by simp [lectionarylaw6_DocSame.j3])
               | succ kj30 =>
                have H := HA.out
                clear HA
                simp only [lectionarylaw6_DocSame.j3] at H
                by_cases c45 : x120_30 = true
                ·subst c45
                 have H1 : (some false) = some r := by rw [if_pos rfl] at H; exact H
                 clear H
                 have H := H1
                 clear H1
                 obtain rfl := Option.some.inj H
                 go_wp2
                 go_ret
                 exact ⟨re, bw HB⟩
                replace c45 := Bool.eq_false_iff.mpr c45
                subst c45
                have H1 : (lectionarylaw6_DocSame.l2 kj30 x3_1 (rd_LOp l0_0 x3_1) t228 t232 (wrap64 (x9_3 + ((Utf8.encode t238).size : Int))) x10_3 0 l0_0 l0_1 l0_2 l0_3) = some r := by rw [if_neg (show ¬ (false = true) by decide)] at H; exact H
                clear H
                have H := H1
                clear H1
                have H' := Aside0.mk H
                clear H
                go_wp2
                go_loopg [15] kj30 (fun kq v15 w' => ∃ (x15_5 : Int), v15 = .int .i64 x15_5 ∧ Aside0 (lectionarylaw6_DocSame.l2 kq x3_1 (rd_LOp l0_0 x3_1) t228 t232 (wrap64 (x9_3 + ((Utf8.encode t238).size : Int))) x10_3 x15_5 l0_0 l0_1 l0_2 l0_3 = some r) ∧ Aside0 (kq ≤ kj30) ∧ Aside0 (Kd.R kElem 36 w' w.heap.size (fun _ => True) (.slice (some ad237) t228.length co32) t228) ∧ Aside0 (w'.heap[gb224]? = some (.cells #[(.slice (some ad227) l0_0.length c0_0), (.slice A0_1 l0_1.length c0_1), (.slice A0_2 l0_2.length c0_2), (.slice A0_3 l0_3.length c0_3)] 27 (0, 0))) ∧ Aside0 (Below w.heap.size w w'))
                case atStart => exact ⟨(0), rf, H', ⟨Nat.le_refl _⟩, ⟨by (with_reducible repeat (first | apply Kd.R_alloc | apply Kd.R_drewN | apply Kd.R_drew)); exact HO_5.out⟩, ⟨kk BK224⟩, ⟨bw HB⟩⟩
                case round =>
                 clear H'
                 try clear c45
                 obtain ⟨x15_5, rfl, HA, HK5, HO_5, BK224, HB⟩ := hrel
                 cases gk with
                 | zero => exact absurd HA.out (by simp [lectionarylaw6_DocSame.l2])
                 | succ k5 =>
                  have H := HA.out
                  clear HA
                  simp only [lectionarylaw6_DocSame.l2] at H
                  by_cases c46 : x15_5 < x10_3
                  ·rw [if_pos c46] at H
                   have c46b0 : decide (x15_5 < x10_3) = true := decide_eq_true c46
                   clear c46
                   by_cases c47 : 0 ≤ x15_5
                   ·rw [if_pos c47] at H
                    have c47b0 : decide (0 ≤ x15_5) = true := decide_eq_true c47
                    clear c47
                    by_cases c48 : x15_5 < (t228.length : Int)
                    ·rw [if_pos c48] at H
                     have c48b0 : decide (x15_5 < (t228.length : Int)) = true := decide_eq_true c48
                     clear c48
                     by_cases c49 : 0 ≤ x10_3
                     ·rw [if_pos c49] at H
                      have c49b0 : decide (0 ≤ x10_3) = true := decide_eq_true c49
                      clear c49
                      by_cases c50 : x10_3 < (t228.length : Int)
                      ·rw [if_pos c50] at H
                       have c50b0 : decide (x10_3 < (t228.length : Int)) = true := decide_eq_true c50
                       clear c50
                       by_cases c51 : (((rd_Elem t228 x15_5).f0) == ((rd_Elem t228 x10_3).f0) && (((rd_Elem t228 x15_5).f1) == ((rd_Elem t228 x10_3).f1) && (((rd_Elem t228 x15_5).f2) == ((rd_Elem t228 x10_3).f2)))) = true
                       ·rw [if_pos c51] at H
                        have c51b0 : (((rd_Elem t228 x15_5).f0) == ((rd_Elem t228 x10_3).f0) && (((rd_Elem t228 x15_5).f1) == ((rd_Elem t228 x10_3).f1) && (((rd_Elem t228 x15_5).f2) == ((rd_Elem t228 x10_3).f2)))) = true := c51
                        (try (have c51b1 : decide (((rd_Elem t228 x15_5).f0) = ((rd_Elem t228 x10_3).f0) && (((rd_Elem t228 x15_5).f1) == ((rd_Elem t228 x10_3).f1) && (((rd_Elem t228 x15_5).f2) == ((rd_Elem t228 x10_3).f2)))) = true := by simpa using c51))
                        (try (have c51b2 : (((rd_Elem t228 x15_5).f0) == ((rd_Elem t228 x10_3).f0) && (((rd_Elem t228 x15_5).f1) == ((rd_Elem t228 x10_3).f1) && (((rd_Elem t228 x15_5).f2) == ((rd_Elem t228 x10_3).f2)))) = true := by simpa using c51))
                        clear c51
                        obtain rfl := Option.some.inj H
                        try go_wp2
                        have n0_ := Aside0.mk (Kd.R_drew HO_5.out)
                        have n1_ := Aside0.mk (blk_drew BK224.out)
                        have n2_ := Aside0.mk (below_drew1 HB.out)
                        clear HO_5
                        clear BK224
                        clear HB
                        have HO_5 := n0_
                        have BK224 := n1_
                        have HB := n2_
                        clear n0_ n1_ n2_
                        have p246 : 0 ≤ (x15_5 : Int) := of_decide_eq_true (by first | (with_reducible assumption) | assumption)
                        have q246 : x15_5 < (t228.length : Int) := of_decide_eq_true (by first | (with_reducible assumption) | assumption)
                        obtain ⟨ad246, e246, hx246_0, hx246_1, hx246_2⟩ := at_Elem (Kd.R_reads' HO_5.out).2.2 x15_5 p246 q246
                        obtain rfl : ad237 = ad246 := (by injection e246)
                        replace p246 := eq_true p246
                        replace q246 := eq_true q246
                        have p247 : 0 ≤ (x10_3 : Int) := of_decide_eq_true (by first | (with_reducible assumption) | assumption)
                        have q247 : x10_3 < (t228.length : Int) := of_decide_eq_true (by first | (with_reducible assumption) | assumption)
                        obtain ⟨ad247, e247, hx247_0, hx247_1, hx247_2⟩ := at_Elem (Kd.R_reads' HO_5.out).2.2 x10_3 p247 q247
                        obtain rfl : ad237 = ad247 := (by injection e247)
                        replace p247 := eq_true p247
                        replace q247 := eq_true q247
                        refine stP (fun w' => w'.cell? (ad237.add ((x15_5).toNat * 3)) = some (.int .i64 ((rd_Elem t228 x15_5).f0)) ∧ w'.cell? ⟨(ad237.add ((x15_5).toNat * 3)).block, (ad237.add ((x15_5).toNat * 3)).off + 1, none⟩ = some (.int .i64 ((rd_Elem t228 x15_5).f1)) ∧ w'.cell? ⟨(ad237.add ((x15_5).toNat * 3)).block, (ad237.add ((x15_5).toNat * 3)).off + 2, none⟩ = some (.int .i64 ((rd_Elem t228 x15_5).f2)) ∧ w'.cell? (ad237.add ((x10_3).toNat * 3)) = some (.int .i64 ((rd_Elem t228 x10_3).f0)) ∧ w'.cell? ⟨(ad237.add ((x10_3).toNat * 3)).block, (ad237.add ((x10_3).toNat * 3)).off + 1, none⟩ = some (.int .i64 ((rd_Elem t228 x10_3).f1)) ∧ w'.cell? ⟨(ad237.add ((x10_3).toNat * 3)).block, (ad237.add ((x10_3).toNat * 3)).off + 2, none⟩ = some (.int .i64 ((rd_Elem t228 x10_3).f2))) 9 ⟨hx246_0, hx246_1, hx246_2, hx247_0, hx247_1, hx247_2⟩ (h := fun hHeld => ?_); refine with_tabW lectionarylaw6_DocSame.tab24 lectionarylaw6_DocSame.bits24 (fun HT_ HW_ => ?_)
                        generalize wr.drew = w52 at HO_5 BK224 HB hx246_0 hx246_1 hx246_2 hx247_0 hx247_1 hx247_2 hHeld ⊢
                        refine pu HT_ 0 131 1 (h := ?_)
                        refine pu HT_ 1 132 3 (h := ?_)
                        refine pu HT_ 2 133 7 (h := ?_)
                        refine pu HT_ 4 135 23 (h := ?_)
                        refine pu HT_ 5 136 55 (h := ?_)
                        refine pu HT_ 6 137 119 (h := ?_)
                        refine tk HT_ HW_ hHeld 3 134 127 (h := ?_)
                        refine tk HT_ HW_ hHeld 7 138 255 (h := ?_)
                        refine pu HT_ 8 139 511 (h := ?_)
                        refine dn HT_ (h := ?_)
                        try go_wp2
                        go_ret
                        exact ⟨re, bw HB⟩
                       rw [if_neg c51] at H
                       have c51b0 : (((rd_Elem t228 x15_5).f0) == ((rd_Elem t228 x10_3).f0) && (((rd_Elem t228 x15_5).f1) == ((rd_Elem t228 x10_3).f1) && (((rd_Elem t228 x15_5).f2) == ((rd_Elem t228 x10_3).f2)))) = false := by simpa using c51
                       (try (have c51b1 : decide (((rd_Elem t228 x15_5).f0) = ((rd_Elem t228 x10_3).f0) && (((rd_Elem t228 x15_5).f1) == ((rd_Elem t228 x10_3).f1) && (((rd_Elem t228 x15_5).f2) == ((rd_Elem t228 x10_3).f2)))) = false := by simpa using c51))
                       (try (have c51b2 : (((rd_Elem t228 x15_5).f0) == ((rd_Elem t228 x10_3).f0) && (((rd_Elem t228 x15_5).f1) == ((rd_Elem t228 x10_3).f1) && (((rd_Elem t228 x15_5).f2) == ((rd_Elem t228 x10_3).f2)))) = false := by simpa using c51))
                       (try (have c51b3 : ¬ (((rd_Elem t228 x15_5).f0) = ((rd_Elem t228 x10_3).f0) && (((rd_Elem t228 x15_5).f1) == ((rd_Elem t228 x10_3).f1) && (((rd_Elem t228 x15_5).f2) == ((rd_Elem t228 x10_3).f2)))) := by simpa using c51))
                       clear c51
                       have H' := Aside0.mk H
                       clear H
                       try go_wp2
                       have n0_ := Aside0.mk (Kd.R_drew HO_5.out)
                       have n1_ := Aside0.mk (blk_drew BK224.out)
                       have n2_ := Aside0.mk (below_drew1 HB.out)
                       clear HO_5
                       clear BK224
                       clear HB
                       have HO_5 := n0_
                       have BK224 := n1_
                       have HB := n2_
                       clear n0_ n1_ n2_
                       have p246 : 0 ≤ (x15_5 : Int) := of_decide_eq_true (by first | (with_reducible assumption) | assumption)
                       have q246 : x15_5 < (t228.length : Int) := of_decide_eq_true (by first | (with_reducible assumption) | assumption)
                       obtain ⟨ad246, e246, hx246_0, hx246_1, hx246_2⟩ := at_Elem (Kd.R_reads' HO_5.out).2.2 x15_5 p246 q246
                       obtain rfl : ad237 = ad246 := (by injection e246)
                       replace p246 := eq_true p246
                       replace q246 := eq_true q246
                       have p247 : 0 ≤ (x10_3 : Int) := of_decide_eq_true (by first | (with_reducible assumption) | assumption)
                       have q247 : x10_3 < (t228.length : Int) := of_decide_eq_true (by first | (with_reducible assumption) | assumption)
                       obtain ⟨ad247, e247, hx247_0, hx247_1, hx247_2⟩ := at_Elem (Kd.R_reads' HO_5.out).2.2 x10_3 p247 q247
                       obtain rfl : ad237 = ad247 := (by injection e247)
                       replace p247 := eq_true p247
                       replace q247 := eq_true q247
                       refine stP (fun w' => w'.cell? (ad237.add ((x15_5).toNat * 3)) = some (.int .i64 ((rd_Elem t228 x15_5).f0)) ∧ w'.cell? ⟨(ad237.add ((x15_5).toNat * 3)).block, (ad237.add ((x15_5).toNat * 3)).off + 1, none⟩ = some (.int .i64 ((rd_Elem t228 x15_5).f1)) ∧ w'.cell? ⟨(ad237.add ((x15_5).toNat * 3)).block, (ad237.add ((x15_5).toNat * 3)).off + 2, none⟩ = some (.int .i64 ((rd_Elem t228 x15_5).f2)) ∧ w'.cell? (ad237.add ((x10_3).toNat * 3)) = some (.int .i64 ((rd_Elem t228 x10_3).f0)) ∧ w'.cell? ⟨(ad237.add ((x10_3).toNat * 3)).block, (ad237.add ((x10_3).toNat * 3)).off + 1, none⟩ = some (.int .i64 ((rd_Elem t228 x10_3).f1)) ∧ w'.cell? ⟨(ad237.add ((x10_3).toNat * 3)).block, (ad237.add ((x10_3).toNat * 3)).off + 2, none⟩ = some (.int .i64 ((rd_Elem t228 x10_3).f2))) 9 ⟨hx246_0, hx246_1, hx246_2, hx247_0, hx247_1, hx247_2⟩ (h := fun hHeld => ?_); refine with_tabW lectionarylaw6_DocSame.tab24 lectionarylaw6_DocSame.bits24 (fun HT_ HW_ => ?_)
                       generalize wr.drew = w53 at HO_5 BK224 HB hx246_0 hx246_1 hx246_2 hx247_0 hx247_1 hx247_2 hHeld ⊢
                       refine pu HT_ 0 131 1 (h := ?_)
                       refine pu HT_ 1 132 3 (h := ?_)
                       refine pu HT_ 2 133 7 (h := ?_)
                       refine pu HT_ 4 135 23 (h := ?_)
                       refine pu HT_ 5 136 55 (h := ?_)
                       refine pu HT_ 6 137 119 (h := ?_)
                       refine tk HT_ HW_ hHeld 3 134 127 (h := ?_)
                       refine tk HT_ HW_ hHeld 7 138 255 (h := ?_)
                       refine pu HT_ 8 139 511 (h := ?_)
                       refine dn HT_ (h := ?_)
                       try go_wp2
                       go_roundg k5
                       case measure => have := HK1.out; have := HJ9.out; have := HK3.out; have := HJ30.out; have := HK5.out; omega
                       case rel => exact ⟨(wrap64 (x15_5 + 1)), rf, H', ⟨by have := HK1.out; have := HJ9.out; have := HK3.out; have := HJ30.out; have := HK5.out; omega⟩, ⟨by (with_reducible repeat (first | apply Kd.R_alloc | apply Kd.R_drewN | apply Kd.R_drew)); exact HO_5.out⟩, ⟨kk BK224⟩, ⟨bw HB⟩⟩
                      rw [if_neg c50] at H
                      exact absurd H (by simp)
                     rw [if_neg c49] at H
                     exact absurd H (by simp)
                    rw [if_neg c48] at H
                    exact absurd H (by simp)
                   rw [if_neg c47] at H
                   exact absurd H (by simp)
                  rw [if_neg c46] at H
                  have c46b0 : decide (x15_5 < x10_3) = false := decide_eq_false c46
                  clear c46
                  have H' := Aside0.mk H
                  clear H
                  go_wp2
                  go_roundg k5
                  case measure => have := HK1.out; have := HJ9.out; have := HK3.out; have := HJ30.out; have := HK5.out; omega
                  case rel => exact ⟨((wrap64 (x9_3 + ((Utf8.encode t238).size : Int)))), (wrap64 (x10_3 + 1)), rf, rf, H', ⟨by have := HK1.out; have := HJ9.out; have := HK3.out; have := HJ30.out; have := HK5.out; omega⟩, ⟨by (with_reducible repeat (first | apply Kd.R_alloc | apply Kd.R_drewN | apply Kd.R_drew)); exact HO_5.out⟩, ⟨kk BK224⟩, ⟨bw HB⟩⟩
             rw [if_neg c28] at H
             exact absurd H (by simp)
            rw [if_neg c27] at H
            have c27b0 : decide (x10_3 < (t228.length : Int)) = false := decide_eq_false c27
            clear c27
            by_cases c54 : x9_3 = (t232.size : Int)
            ·rw [if_pos c54] at H
             have c54b0 : (x9_3 == (t232.size : Int)) = true := beq_iff_eq.mpr c54
             have c54b1 : (x9_3 != (t232.size : Int)) = false := bne_eq_false_iff_eq.mpr c54
             clear c54
             have H' := Aside0.mk H
             clear H
             obtain ⟨Ao55, co55, eo55⟩ := Kd.R_slice HO_5.out
             subst eo55
             go_wp2
             go_loopg [16] k3 (fun kq v16 w' => ∃ (x16_4 : Int), v16 = .int .i64 x16_4 ∧ Aside0 (lectionarylaw6_DocSame.l3 kq x3_1 (rd_LOp l0_0 x3_1) t228 x16_4 l0_0 l0_1 l0_2 l0_3 = some r) ∧ Aside0 (kq ≤ k3) ∧ Aside0 (Kd.R kElem 36 w' w.heap.size (fun _ => True) (.slice Ao55 t228.length co55) t228) ∧ Aside0 (w'.heap[gb224]? = some (.cells #[(.slice (some ad227) l0_0.length c0_0), (.slice A0_1 l0_1.length c0_1), (.slice A0_2 l0_2.length c0_2), (.slice A0_3 l0_3.length c0_3)] 27 (0, 0))) ∧ Aside0 (Below w.heap.size w w'))
             case atStart => exact ⟨(0), rf, H', ⟨Nat.le_refl _⟩, ⟨by (with_reducible repeat (first | apply Kd.R_alloc | apply Kd.R_drewN | apply Kd.R_drew)); exact HO_5.out⟩, ⟨kk BK224⟩, ⟨bw HB⟩⟩
             case round =>
              clear H'
              try clear c27b0; try clear c54b0; try clear c54b1
              obtain ⟨x16_4, rfl, HA, HK4, HO_5, BK224, HB⟩ := hrel
              cases gk with
              | zero => exact absurd HA.out (by simp [lectionarylaw6_DocSame.l3])
              | succ k4 =>
               have H := HA.out
               clear HA
               simp only [lectionarylaw6_DocSame.l3] at H
               by_cases c56 : x16_4 < ((rd_LOp l0_0 x3_1).length : Int)
               ·rw [if_pos c56] at H
                have c56b0 : decide (x16_4 < ((rd_LOp l0_0 x3_1).length : Int)) = true := decide_eq_true c56
                clear c56
                by_cases c57 : 0 ≤ x16_4
                ·rw [if_pos c57] at H
                 have c57b0 : decide (0 ≤ x16_4) = true := decide_eq_true c57
                 clear c57
                 replace H := Option.bind_eq_some_iff.mp H
                 obtain ⟨⟨t250, t251⟩, A580, H⟩ := H
                 replace H : (lectionarylaw6_DocSame.l4 k4 x3_1 (rd_LOp l0_0 x3_1) t228 x16_4 t250 t251 0 l0_0 l0_1 l0_2 l0_3) = some r := H
                 have A58 := Aside0.mk A580
                 clear A580
                 have H' := Aside0.mk H
                 clear H
                 try go_wp2
                 have n0_ := Aside0.mk (Kd.R_drew HO_5.out)
                 have n1_ := Aside0.mk (blk_drew BK224.out)
                 have n2_ := Aside0.mk (below_drew1 HB.out)
                 clear HO_5
                 clear BK224
                 clear HB
                 have HO_5 := n0_
                 have BK224 := n1_
                 have HB := n2_
                 clear n0_ n1_ n2_
                 have p248 : 0 ≤ (x16_4 : Int) := of_decide_eq_true (by first | (with_reducible assumption) | assumption)
                 have q248 : x16_4 < ((rd_LOp l0_0 x3_1).length : Int) := of_decide_eq_true (by first | (with_reducible assumption) | assumption)
                 obtain ⟨ad248, A248_7, c248_7, e248, hx248_0, hx248_1, hx248_2, hx248_3, hx248_4, hx248_5, hx248_6, hx248_7, hx248_8, hx248_9, hx248_10, hl248_7, hi248_7⟩ := at_Op HR227_0.out x16_4 p248 q248
                 have hw248_10 := hx248_10
                 have hw248_9 := hx248_9
                 have hw248_8 := hx248_8
                 have hw248_7 := hx248_7
                 have hw248_6 := hx248_6
                 have hw248_5 := hx248_5
                 have hw248_4 := hx248_4
                 have hw248_3 := hx248_3
                 have hw248_2 := hx248_2
                 have hw248_1 := hx248_1
                 have hw248_0 := hx248_0
                 cases e248
                 replace hx248_0 := cl HB hx248_0
                 replace hx248_1 := cl HB hx248_1
                 replace hx248_2 := cl HB hx248_2
                 replace hx248_3 := cl HB hx248_3
                 replace hx248_4 := cl HB hx248_4
                 replace hx248_5 := cl HB hx248_5
                 replace hx248_6 := cl HB hx248_6
                 replace hx248_7 := cl HB hx248_7
                 replace hx248_8 := cl HB hx248_8
                 replace hx248_9 := cl HB hx248_9
                 replace hx248_10 := cl HB hx248_10
                 have HR248_7 := Aside0.mk hi248_7
                 have HC248_7 := Aside0.mk hl248_7
                 clear hi248_7 hl248_7
                 replace p248 := eq_true p248
                 replace q248 := eq_true q248
                 have p249 : 0 ≤ (x16_4 : Int) := of_decide_eq_true (by first | (with_reducible assumption) | assumption)
                 have q249 : x16_4 < ((rd_LOp l0_0 x3_1).length : Int) := of_decide_eq_true (by first | (with_reducible assumption) | assumption)
                 obtain ⟨ad249, A249_7, c249_7, e249, hx249_0, hx249_1, hx249_2, hx249_3, hx249_4, hx249_5, hx249_6, hx249_7, hx249_8, hx249_9, hx249_10, hl249_7, hi249_7⟩ := at_Op HR227_0.out x16_4 p249 q249
                 have hw249_10 := hx249_10
                 have hw249_9 := hx249_9
                 have hw249_8 := hx249_8
                 have hw249_7 := hx249_7
                 have hw249_6 := hx249_6
                 have hw249_5 := hx249_5
                 have hw249_4 := hx249_4
                 have hw249_3 := hx249_3
                 have hw249_2 := hx249_2
                 have hw249_1 := hx249_1
                 have hw249_0 := hx249_0
                 obtain rfl : ad248 = ad249 := (by injection e249)
                 replace hx249_0 := cl HB hx249_0
                 replace hx249_1 := cl HB hx249_1
                 replace hx249_2 := cl HB hx249_2
                 replace hx249_3 := cl HB hx249_3
                 replace hx249_4 := cl HB hx249_4
                 replace hx249_5 := cl HB hx249_5
                 replace hx249_6 := cl HB hx249_6
                 replace hx249_7 := cl HB hx249_7
                 replace hx249_8 := cl HB hx249_8
                 replace hx249_9 := cl HB hx249_9
                 replace hx249_10 := cl HB hx249_10
                 have HR249_7 := Aside0.mk hi249_7
                 have HC249_7 := Aside0.mk hl249_7
                 clear hi249_7 hl249_7
                 replace p249 := eq_true p249
                 replace q249 := eq_true q249
                 have ea_ := Option.some.inj (hx248_7.symm.trans hx249_7)
                 injection ea_ with ea_ en_ ec_
                 subst ea_
                 subst ec_
                 clear en_
                 refine stP (fun w' => w'.cell? (ad248.add ((x16_4).toNat * 11)) = some (.int .i64 ((rd_Op (rd_LOp l0_0 x3_1) x16_4).f0)) ∧ w'.cell? ⟨(ad248.add ((x16_4).toNat * 11)).block, (ad248.add ((x16_4).toNat * 11)).off + 1, none⟩ = some (.int .i64 ((rd_Op (rd_LOp l0_0 x3_1) x16_4).f1)) ∧ w'.cell? ⟨(ad248.add ((x16_4).toNat * 11)).block, (ad248.add ((x16_4).toNat * 11)).off + 2, none⟩ = some (.int .i64 ((rd_Op (rd_LOp l0_0 x3_1) x16_4).f2)) ∧ w'.cell? ⟨(ad248.add ((x16_4).toNat * 11)).block, (ad248.add ((x16_4).toNat * 11)).off + 3, none⟩ = some (.int .i64 ((rd_Op (rd_LOp l0_0 x3_1) x16_4).f3.f0)) ∧ w'.cell? ⟨(ad248.add ((x16_4).toNat * 11)).block, (ad248.add ((x16_4).toNat * 11)).off + 4, none⟩ = some (.int .i64 ((rd_Op (rd_LOp l0_0 x3_1) x16_4).f3.f1)) ∧ w'.cell? ⟨(ad248.add ((x16_4).toNat * 11)).block, (ad248.add ((x16_4).toNat * 11)).off + 5, none⟩ = some (.int .i64 ((rd_Op (rd_LOp l0_0 x3_1) x16_4).f3.f2)) ∧ w'.cell? ⟨(ad248.add ((x16_4).toNat * 11)).block, (ad248.add ((x16_4).toNat * 11)).off + 6, none⟩ = some (.string ((rd_Op (rd_LOp l0_0 x3_1) x16_4).f4)) ∧ w'.cell? ⟨(ad248.add ((x16_4).toNat * 11)).block, (ad248.add ((x16_4).toNat * 11)).off + 7, none⟩ = some (.slice A248_7 ((rd_Op (rd_LOp l0_0 x3_1) x16_4).f5).length c248_7) ∧ w'.cell? ⟨(ad248.add ((x16_4).toNat * 11)).block, (ad248.add ((x16_4).toNat * 11)).off + 8, none⟩ = some (.int .i64 ((rd_Op (rd_LOp l0_0 x3_1) x16_4).f6)) ∧ w'.cell? ⟨(ad248.add ((x16_4).toNat * 11)).block, (ad248.add ((x16_4).toNat * 11)).off + 9, none⟩ = some (.int .i64 ((rd_Op (rd_LOp l0_0 x3_1) x16_4).f7)) ∧ w'.cell? ⟨(ad248.add ((x16_4).toNat * 11)).block, (ad248.add ((x16_4).toNat * 11)).off + 10, none⟩ = some (.int .i64 ((rd_Op (rd_LOp l0_0 x3_1) x16_4).f8)) ∧ w'.cell? (ad248.add ((x16_4).toNat * 11)) = some (.int .i64 ((rd_Op (rd_LOp l0_0 x3_1) x16_4).f0)) ∧ w'.cell? ⟨(ad248.add ((x16_4).toNat * 11)).block, (ad248.add ((x16_4).toNat * 11)).off + 1, none⟩ = some (.int .i64 ((rd_Op (rd_LOp l0_0 x3_1) x16_4).f1)) ∧ w'.cell? ⟨(ad248.add ((x16_4).toNat * 11)).block, (ad248.add ((x16_4).toNat * 11)).off + 2, none⟩ = some (.int .i64 ((rd_Op (rd_LOp l0_0 x3_1) x16_4).f2)) ∧ w'.cell? ⟨(ad248.add ((x16_4).toNat * 11)).block, (ad248.add ((x16_4).toNat * 11)).off + 3, none⟩ = some (.int .i64 ((rd_Op (rd_LOp l0_0 x3_1) x16_4).f3.f0)) ∧ w'.cell? ⟨(ad248.add ((x16_4).toNat * 11)).block, (ad248.add ((x16_4).toNat * 11)).off + 4, none⟩ = some (.int .i64 ((rd_Op (rd_LOp l0_0 x3_1) x16_4).f3.f1)) ∧ w'.cell? ⟨(ad248.add ((x16_4).toNat * 11)).block, (ad248.add ((x16_4).toNat * 11)).off + 5, none⟩ = some (.int .i64 ((rd_Op (rd_LOp l0_0 x3_1) x16_4).f3.f2)) ∧ w'.cell? ⟨(ad248.add ((x16_4).toNat * 11)).block, (ad248.add ((x16_4).toNat * 11)).off + 6, none⟩ = some (.string ((rd_Op (rd_LOp l0_0 x3_1) x16_4).f4)) ∧ w'.cell? ⟨(ad248.add ((x16_4).toNat * 11)).block, (ad248.add ((x16_4).toNat * 11)).off + 7, none⟩ = some (.slice A248_7 ((rd_Op (rd_LOp l0_0 x3_1) x16_4).f5).length c248_7) ∧ w'.cell? ⟨(ad248.add ((x16_4).toNat * 11)).block, (ad248.add ((x16_4).toNat * 11)).off + 8, none⟩ = some (.int .i64 ((rd_Op (rd_LOp l0_0 x3_1) x16_4).f6)) ∧ w'.cell? ⟨(ad248.add ((x16_4).toNat * 11)).block, (ad248.add ((x16_4).toNat * 11)).off + 9, none⟩ = some (.int .i64 ((rd_Op (rd_LOp l0_0 x3_1) x16_4).f7)) ∧ w'.cell? ⟨(ad248.add ((x16_4).toNat * 11)).block, (ad248.add ((x16_4).toNat * 11)).off + 10, none⟩ = some (.int .i64 ((rd_Op (rd_LOp l0_0 x3_1) x16_4).f8))) 17 ⟨(cl HB hw248_0), (cl HB hw248_1), (cl HB hw248_2), (cl HB hw248_3), (cl HB hw248_4), (cl HB hw248_5), (cl HB hw248_6), (cl HB hw248_7), (cl HB hw248_8), (cl HB hw248_9), (cl HB hw248_10), (cl HB hw249_0), (cl HB hw249_1), (cl HB hw249_2), (cl HB hw249_3), (cl HB hw249_4), (cl HB hw249_5), (cl HB hw249_6), (cl HB hw249_7), (cl HB hw249_8), (cl HB hw249_9), (cl HB hw249_10)⟩ (h := fun hHeld => ?_); refine with_tabW lectionarylaw6_DocSame.tab31 lectionarylaw6_DocSame.bits31 (fun HT_ HW_ => ?_)
                 generalize wr.drew = w59 at HO_5 BK224 HB HR248_7 HR249_7 hx248_0 hx248_1 hx248_10 hx248_2 hx248_3 hx248_4 hx248_5 hx248_6 hx248_7 hx248_8 hx248_9 hx249_0 hx249_1 hx249_10 hx249_2 hx249_3 hx249_4 hx249_5 hx249_6 hx249_7 hx249_8 hx249_9 hHeld ⊢
                 refine pu HT_ 0 151 1 (h := ?_)
                 refine pu HT_ 1 152 3 (h := ?_)
                 refine pu HT_ 2 153 7 (h := ?_)
                 refine pu HT_ 3 154 15 (h := ?_)
                 refine pu HT_ 4 155 31 (h := ?_)
                 refine pu HT_ 6 157 95 (h := ?_)
                 refine pu HT_ 7 158 223 (h := ?_)
                 refine pu HT_ 8 159 479 (h := ?_)
                 refine pu HT_ 9 160 991 (h := ?_)
                 refine tk HT_ HW_ hHeld 5 156 1023 (h := ?_)
                 refine tk HT_ HW_ hHeld 10 161 2047 (h := ?_)
                 refine on HT_ 11 (some 162) 4095 (h := fun K hK => ?_)
                 refine gS Try.func11 #[.slice (some ad248) (rd_LOp l0_0 x3_1).length c227_0, .int .i64 ((rd_Op (rd_LOp l0_0 x3_1) x16_4).f0), .int .i64 ((rd_Op (rd_LOp l0_0 x3_1) x16_4).f1)] (h := ?_)
                 with_reducible refine (doc_Effective.calls k4 _ _ (rd_LOp l0_0 x3_1) ((rd_Op (rd_LOp l0_0 x3_1) x16_4).f0) ((rd_Op (rd_LOp l0_0 x3_1) x16_4).f1) t250 t251 _ ?side1 ?side2 A58.out).mono ?_
                 (case side1 => repeat (first | exact (Kd.C_below HR227_0.out HB.out) | (with_reducible refine Kd.C_alloc ?_ _) | (with_reducible refine Kd.C_drewN ?_ _) | (with_reducible refine Kd.C_drew ?_)))
                 (case side2 => exact HC227_0.out)
                 rintro e w60 ⟨rfl, hb⟩
                 refine ⟨_, rfl, ?_⟩
                 have n0_ := Aside0.mk (Kd.R_below (by (with_reducible repeat (first | apply Kd.R_alloc | apply Kd.R_drewN | apply Kd.R_drew)); exact HO_5.out) hb)
                 have n1_ := bl BK224 hb
                 have n2_ := bs HB hb
                 clear HO_5
                 clear BK224
                 clear HB
                 have HO_5 := n0_
                 have BK224 := n1_
                 have HB := n2_
                 clear n0_ n1_ n2_
                 (try clear hb)
                 (try clear hb2)
                 (try clear hk)
                 (try clear hi)
                 refine hK.out _ _ ⟨(cl HB hw248_0), (cl HB hw248_1), (cl HB hw248_2), (cl HB hw248_3), (cl HB hw248_4), (cl HB hw248_5), (cl HB hw248_6), (cl HB hw248_7), (cl HB hw248_8), (cl HB hw248_9), (cl HB hw248_10), (cl HB hw249_0), (cl HB hw249_1), (cl HB hw249_2), (cl HB hw249_3), (cl HB hw249_4), (cl HB hw249_5), (cl HB hw249_6), (cl HB hw249_7), (cl HB hw249_8), (cl HB hw249_9), (cl HB hw249_10)⟩ (fun hHeld => ?_)
                 clear hK K
                 refine nm (h := ?_)
                 refine pu HT_ 12 150 8191 (h := ?_)
                 refine pu HT_ 13 163 16383 (h := ?_)
                 refine pu HT_ 14 164 32767 (h := ?_)
                 refine pu HT_ 15 17 65535 (h := ?_)
                 refine pu HT_ 16 18 131071 (h := ?_)
                 refine dn HT_ (h := ?_)
                 try go_wp2
                 go_loopg [19] k4 (fun kq v19 w' => ∃ (x19_5 : Int), v19 = .int .i64 x19_5 ∧ Aside0 (lectionarylaw6_DocSame.l4 kq x3_1 (rd_LOp l0_0 x3_1) t228 x16_4 t250 t251 x19_5 l0_0 l0_1 l0_2 l0_3 = some r) ∧ Aside0 (kq ≤ k4) ∧ Aside0 (Kd.R kElem 36 w' w.heap.size (fun _ => True) (.slice Ao55 t228.length co55) t228) ∧ Aside0 (w'.heap[gb224]? = some (.cells #[(.slice (some ad227) l0_0.length c0_0), (.slice A0_1 l0_1.length c0_1), (.slice A0_2 l0_2.length c0_2), (.slice A0_3 l0_3.length c0_3)] 27 (0, 0))) ∧ Aside0 (Below w.heap.size w w'))
                 case atStart => exact ⟨(0), rf, H', ⟨Nat.le_refl _⟩, ⟨by (with_reducible repeat (first | apply Kd.R_alloc | apply Kd.R_drewN | apply Kd.R_drew)); exact HO_5.out⟩, ⟨kk BK224⟩, ⟨bw HB⟩⟩
                 case round =>
                  clear H'
                  try clear c56b0; try clear c57b0; try clear hx248_0; try clear hx248_1; try clear hx248_10; try clear hx248_2; try clear hx248_3; try clear hx248_4; try clear hx248_5; try clear hx248_6; try clear hx248_7; try clear hx248_8; try clear hx248_9; try clear hx249_0; try clear hx249_1; try clear hx249_10; try clear hx249_2; try clear hx249_3; try clear hx249_4; try clear hx249_5; try clear hx249_6; try clear hx249_7; try clear hx249_8; try clear hx249_9; try clear p248; try clear p249; try clear q248; try clear q249
                  obtain ⟨x19_5, rfl, HA, HK5, HO_5, BK224, HB⟩ := hrel
                  cases gk with
                  | zero => exact absurd HA.out (by simp [lectionarylaw6_DocSame.l4])
                  | succ k5 =>
                   have H := HA.out
                   clear HA
                   simp only [lectionarylaw6_DocSame.l4] at H
                   have HC61 := Aside0.mk H
                   clear H
                   go_upto_region 33 with (fail)
                   go_cut [180] (fun v180 wc => ∃ (kq : Nat) (x180_60 : Bool), v180 = .bool x180_60 ∧ Aside0 (lectionarylaw6_DocSame.j7 kq x3_1 (rd_LOp l0_0 x3_1) t228 x16_4 t250 t251 x19_5 x180_60 l0_0 l0_1 l0_2 l0_3 = some r) ∧ Aside0 (kq ≤ k5) ∧ Aside0 (Kd.R kElem 36 wc w.heap.size (fun _ => True) (.slice Ao55 t228.length co55) t228) ∧ Aside0 (wc.heap[gb224]? = some (.cells #[(.slice (some ad227) l0_0.length c0_0), (.slice A0_1 l0_1.length c0_1), (.slice A0_2 l0_2.length c0_2), (.slice A0_3 l0_3.length c0_3)] 27 (0, 0))) ∧ Aside0 (Below w.heap.size w wc))
                   case first =>
                    have H := HC61.out
                    clear HC61
                    by_cases c62 : 0 ≤ x16_4
                    ·rw [if_pos c62] at H
                     have c62b0 : decide (0 ≤ x16_4) = true := decide_eq_true c62
                     clear c62
                     (first | rw [c62b0] | (simp only [i64_w, i32_w]; rw [c62b0]) | skip)
                     by_cases c63 : x16_4 < ((rd_LOp l0_0 x3_1).length : Int)
                     ·rw [if_pos c63] at H
                      have c63b0 : decide (x16_4 < ((rd_LOp l0_0 x3_1).length : Int)) = true := decide_eq_true c63
                      clear c63
                      by_cases c64 : x19_5 < (((rd_Op (rd_LOp l0_0 x3_1) x16_4).f5).length : Int)
                      ·rw [if_pos c64] at H
                       have c64b0 : decide (x19_5 < (((rd_Op (rd_LOp l0_0 x3_1) x16_4).f5).length : Int)) = true := decide_eq_true c64
                       clear c64
                       replace H := Option.bind_eq_some_iff.mp H
                       obtain ⟨t253, A650, H⟩ := H
                       replace H : (if t253 = 0 then (lectionarylaw6_DocSame.j7 k5 x3_1 (rd_LOp l0_0 x3_1) t228 x16_4 t250 t251 x19_5 t250 l0_0 l0_1 l0_2 l0_3) else (lectionarylaw6_DocSame.j7 k5 x3_1 (rd_LOp l0_0 x3_1) t228 x16_4 t250 t251 x19_5 false l0_0 l0_1 l0_2 l0_3)) = some r := H
                       have A65 := Aside0.mk A650
                       clear A650
                       by_cases c66 : t253 = 0
                       ·rw [if_pos c66] at H
                        have c66b0 : (t253 == 0) = true := beq_iff_eq.mpr c66
                        have c66b1 : (t253 != 0) = false := bne_eq_false_iff_eq.mpr c66
                        clear c66
                        have H' := Aside0.mk H
                        clear H
                        have p252 : 0 ≤ (x16_4 : Int) := of_decide_eq_true (by first | (with_reducible assumption) | assumption)
                        have q252 : x16_4 < ((rd_LOp l0_0 x3_1).length : Int) := of_decide_eq_true (by first | (with_reducible assumption) | assumption)
                        obtain ⟨ad252, A252_7, c252_7, e252, hx252_0, hx252_1, hx252_2, hx252_3, hx252_4, hx252_5, hx252_6, hx252_7, hx252_8, hx252_9, hx252_10, hl252_7, hi252_7⟩ := at_Op HR227_0.out x16_4 p252 q252
                        obtain rfl : ad248 = ad252 := (by injection e252)
                        replace hx252_0 := cl HB hx252_0
                        replace hx252_1 := cl HB hx252_1
                        replace hx252_2 := cl HB hx252_2
                        replace hx252_3 := cl HB hx252_3
                        replace hx252_4 := cl HB hx252_4
                        replace hx252_5 := cl HB hx252_5
                        replace hx252_6 := cl HB hx252_6
                        replace hx252_7 := cl HB hx252_7
                        replace hx252_8 := cl HB hx252_8
                        replace hx252_9 := cl HB hx252_9
                        replace hx252_10 := cl HB hx252_10
                        have HR252_7 := Aside0.mk hi252_7
                        have HC252_7 := Aside0.mk hl252_7
                        clear hi252_7 hl252_7
                        replace p252 := eq_true p252
                        replace q252 := eq_true q252
                        go_wp2_with (first | (go_at_call 8; (with_reducible refine (lectionarylaw6_num.calls t251 t253 _ A65.out).mono ?_); rintro e w' ⟨rfl, ⟨nd, rfl⟩⟩))
                        go_meet
                        case rel => exact ⟨_, (t250), rf, H', ⟨by have := HK1.out; have := HJ9.out; have := HK3.out; have := HK4.out; have := HK5.out; first | omega | exact Nat.le_refl _⟩, ⟨by (with_reducible repeat (first | apply Kd.R_alloc | apply Kd.R_drewN | apply Kd.R_drew)); exact HO_5.out⟩, ⟨kk BK224⟩, ⟨bw HB⟩⟩
                       rw [if_neg c66] at H
                       have c66b0 : (t253 == 0) = false := beq_eq_false_iff_ne.mpr c66
                       have c66b1 : (t253 != 0) = true := bne_iff_ne.mpr c66
                       have H' := Aside0.mk H
                       clear H
                       have p252 : 0 ≤ (x16_4 : Int) := of_decide_eq_true (by first | (with_reducible assumption) | assumption)
                       have q252 : x16_4 < ((rd_LOp l0_0 x3_1).length : Int) := of_decide_eq_true (by first | (with_reducible assumption) | assumption)
                       obtain ⟨ad252, A252_7, c252_7, e252, hx252_0, hx252_1, hx252_2, hx252_3, hx252_4, hx252_5, hx252_6, hx252_7, hx252_8, hx252_9, hx252_10, hl252_7, hi252_7⟩ := at_Op HR227_0.out x16_4 p252 q252
                       obtain rfl : ad248 = ad252 := (by injection e252)
                       replace hx252_0 := cl HB hx252_0
                       replace hx252_1 := cl HB hx252_1
                       replace hx252_2 := cl HB hx252_2
                       replace hx252_3 := cl HB hx252_3
                       replace hx252_4 := cl HB hx252_4
                       replace hx252_5 := cl HB hx252_5
                       replace hx252_6 := cl HB hx252_6
                       replace hx252_7 := cl HB hx252_7
                       replace hx252_8 := cl HB hx252_8
                       replace hx252_9 := cl HB hx252_9
                       replace hx252_10 := cl HB hx252_10
                       have HR252_7 := Aside0.mk hi252_7
                       have HC252_7 := Aside0.mk hl252_7
                       clear hi252_7 hl252_7
                       replace p252 := eq_true p252
                       replace q252 := eq_true q252
                       go_wp2_with (first | (go_at_call 8; (with_reducible refine (lectionarylaw6_num.calls t251 t253 _ A65.out).mono ?_); rintro e w' ⟨rfl, ⟨nd, rfl⟩⟩))
                       go_meet
                       case rel => exact ⟨_, (false), rf, H', ⟨by have := HK1.out; have := HJ9.out; have := HK3.out; have := HK4.out; have := HK5.out; first | omega | exact Nat.le_refl _⟩, ⟨by (with_reducible repeat (first | apply Kd.R_alloc | apply Kd.R_drewN | apply Kd.R_drew)); exact HO_5.out⟩, ⟨kk BK224⟩, ⟨bw HB⟩⟩
                      rw [if_neg c64] at H
                      have c64b0 : decide (x19_5 < (((rd_Op (rd_LOp l0_0 x3_1) x16_4).f5).length : Int)) = false := decide_eq_false c64
                      clear c64
                      have H' := Aside0.mk H
                      clear H
                      have p252 : 0 ≤ (x16_4 : Int) := of_decide_eq_true (by first | (with_reducible assumption) | assumption)
                      have q252 : x16_4 < ((rd_LOp l0_0 x3_1).length : Int) := of_decide_eq_true (by first | (with_reducible assumption) | assumption)
                      obtain ⟨ad252, A252_7, c252_7, e252, hx252_0, hx252_1, hx252_2, hx252_3, hx252_4, hx252_5, hx252_6, hx252_7, hx252_8, hx252_9, hx252_10, hl252_7, hi252_7⟩ := at_Op HR227_0.out x16_4 p252 q252
                      obtain rfl : ad248 = ad252 := (by injection e252)
                      replace hx252_0 := cl HB hx252_0
                      replace hx252_1 := cl HB hx252_1
                      replace hx252_2 := cl HB hx252_2
                      replace hx252_3 := cl HB hx252_3
                      replace hx252_4 := cl HB hx252_4
                      replace hx252_5 := cl HB hx252_5
                      replace hx252_6 := cl HB hx252_6
                      replace hx252_7 := cl HB hx252_7
                      replace hx252_8 := cl HB hx252_8
                      replace hx252_9 := cl HB hx252_9
                      replace hx252_10 := cl HB hx252_10
                      have HR252_7 := Aside0.mk hi252_7
                      have HC252_7 := Aside0.mk hl252_7
                      clear hi252_7 hl252_7
                      replace p252 := eq_true p252
                      replace q252 := eq_true q252
                      go_wp2
                      go_meet
                      case rel => exact ⟨_, (false), rf, H', ⟨by have := HK1.out; have := HJ9.out; have := HK3.out; have := HK4.out; have := HK5.out; first | omega | exact Nat.le_refl _⟩, ⟨by (with_reducible repeat (first | apply Kd.R_alloc | apply Kd.R_drewN | apply Kd.R_drew)); exact HO_5.out⟩, ⟨kk BK224⟩, ⟨bw HB⟩⟩
                     rw [if_neg c63] at H
                     exact absurd H (by simp)
                    rw [if_neg c62] at H
                    exact absurd H (by simp)
                   case rest =>
                    clear HC61
                    obtain ⟨kq, x180_60, rfl, HA, HJ60, HO_5, BK224, HB⟩ := hcut
                    cases kq with
                    | zero => exact absurd HA.out (by simp [lectionarylaw6_DocSame.j7])
                    | succ kj60 =>
                     have H := HA.out
                     clear HA
                     simp only [lectionarylaw6_DocSame.j7] at H
                     by_cases c67 : x180_60 = true
                     ·subst c67
                      have H1 : (if 0 ≤ x16_4 then (if x16_4 < ((rd_LOp l0_0 x3_1).length : Int) then (if 0 ≤ x19_5 then (if x19_5 < (((rd_Op (rd_LOp l0_0 x3_1) x16_4).f5).length : Int) then ((lectionaryref0_At.f kj60 t228 ((rd_Elem ((rd_Op (rd_LOp l0_0 x3_1) x16_4).f5) x19_5).f0) ((rd_Elem ((rd_Op (rd_LOp l0_0 x3_1) x16_4).f5) x19_5).f1) ((rd_Elem ((rd_Op (rd_LOp l0_0 x3_1) x16_4).f5) x19_5).f2)).bind fun t256 => (if t256 ≥ 0 then (some false) else (lectionarylaw6_DocSame.l4 kj60 x3_1 (rd_LOp l0_0 x3_1) t228 x16_4 t250 t251 (wrap64 (x19_5 + 1)) l0_0 l0_1 l0_2 l0_3))) else (none)) else (none)) else (none)) else (none)) = some r := by rw [if_pos rfl] at H; exact H
                      clear H
                      have H := H1
                      clear H1
                      by_cases c68 : 0 ≤ x16_4
                      ·rw [if_pos c68] at H
                       have c68b0 : decide (0 ≤ x16_4) = true := decide_eq_true c68
                       clear c68
                       by_cases c69 : x16_4 < ((rd_LOp l0_0 x3_1).length : Int)
                       ·rw [if_pos c69] at H
                        have c69b0 : decide (x16_4 < ((rd_LOp l0_0 x3_1).length : Int)) = true := decide_eq_true c69
                        clear c69
                        by_cases c70 : 0 ≤ x19_5
                        ·rw [if_pos c70] at H
                         have c70b0 : decide (0 ≤ x19_5) = true := decide_eq_true c70
                         clear c70
                         by_cases c71 : x19_5 < (((rd_Op (rd_LOp l0_0 x3_1) x16_4).f5).length : Int)
                         ·rw [if_pos c71] at H
                          have c71b0 : decide (x19_5 < (((rd_Op (rd_LOp l0_0 x3_1) x16_4).f5).length : Int)) = true := decide_eq_true c71
                          clear c71
                          replace H := Option.bind_eq_some_iff.mp H
                          obtain ⟨t256, A720, H⟩ := H
                          replace H : (if t256 ≥ 0 then (some false) else (lectionarylaw6_DocSame.l4 kj60 x3_1 (rd_LOp l0_0 x3_1) t228 x16_4 t250 t251 (wrap64 (x19_5 + 1)) l0_0 l0_1 l0_2 l0_3)) = some r := H
                          have A72 := Aside0.mk A720
                          clear A720
                          by_cases c73 : t256 ≥ 0
                          ·rw [if_pos c73] at H
                           have c73b0 : decide (0 ≤ t256) = true := decide_eq_true c73
                           clear c73
                           obtain rfl := Option.some.inj H
                           have p254 : 0 ≤ (x16_4 : Int) := of_decide_eq_true (by first | (with_reducible assumption) | assumption)
                           have q254 : x16_4 < ((rd_LOp l0_0 x3_1).length : Int) := of_decide_eq_true (by first | (with_reducible assumption) | assumption)
                           obtain ⟨ad254, A254_7, c254_7, e254, hx254_0, hx254_1, hx254_2, hx254_3, hx254_4, hx254_5, hx254_6, hx254_7, hx254_8, hx254_9, hx254_10, hl254_7, hi254_7⟩ := at_Op HR227_0.out x16_4 p254 q254
                           obtain rfl : ad248 = ad254 := (by injection e254)
                           replace hx254_0 := cl HB hx254_0
                           replace hx254_1 := cl HB hx254_1
                           replace hx254_2 := cl HB hx254_2
                           replace hx254_3 := cl HB hx254_3
                           replace hx254_4 := cl HB hx254_4
                           replace hx254_5 := cl HB hx254_5
                           replace hx254_6 := cl HB hx254_6
                           replace hx254_7 := cl HB hx254_7
                           replace hx254_8 := cl HB hx254_8
                           replace hx254_9 := cl HB hx254_9
                           replace hx254_10 := cl HB hx254_10
                           have HR254_7 := Aside0.mk hi254_7
                           have HC254_7 := Aside0.mk hl254_7
                           clear hi254_7 hl254_7
                           replace p254 := eq_true p254
                           replace q254 := eq_true q254
                           have p255 : 0 ≤ (x19_5 : Int) := of_decide_eq_true (by first | (with_reducible assumption) | assumption)
                           have q255 : x19_5 < (((rd_Op (rd_LOp l0_0 x3_1) x16_4).f5).length : Int) := of_decide_eq_true (by first | (with_reducible assumption) | assumption)
                           obtain ⟨ad255, e255, hx255_0, hx255_1, hx255_2⟩ := at_Elem HR254_7.out x19_5 p255 q255
                           cases e255
                           replace hx255_0 := cl HB hx255_0
                           replace hx255_1 := cl HB hx255_1
                           replace hx255_2 := cl HB hx255_2
                           replace p255 := eq_true p255
                           replace q255 := eq_true q255
                           go_wp2_with (first | ((with_reducible refine gate_callee (f := 17) rfl ?_); refine gl (some 192) Try.func17 #[.slice Ao55 t228.length co55, .agg #[.int .i64 ((rd_Elem ((rd_Op (rd_LOp l0_0 x3_1) x16_4).f5) x19_5).f0), .int .i64 ((rd_Elem ((rd_Op (rd_LOp l0_0 x3_1) x16_4).f5) x19_5).f1), .int .i64 ((rd_Elem ((rd_Op (rd_LOp l0_0 x3_1) x16_4).f5) x19_5).f2)]] (h := ?_); (with_reducible refine (lectionaryref0_At.calls kj60 _ _ t228 ((rd_Elem ((rd_Op (rd_LOp l0_0 x3_1) x16_4).f5) x19_5).f0) ((rd_Elem ((rd_Op (rd_LOp l0_0 x3_1) x16_4).f5) x19_5).f1) ((rd_Elem ((rd_Op (rd_LOp l0_0 x3_1) x16_4).f5) x19_5).f2) t256 _ ?side1 ?side2 A72.out).mono ?_); (case side1 => repeat (first | exact (Kd.R_reads' HO_5.out).2.2 | (with_reducible refine Kd.C_alloc ?_ _) | (with_reducible refine Kd.C_drewN ?_ _) | (with_reducible refine Kd.C_drew ?_))); (case side2 => exact (Kd.R_reads' HO_5.out).2.1); rintro e w74 ⟨rfl, hb⟩; refine ⟨_, rfl, ?_⟩; replace HO_5 := Aside0.mk (Kd.R_below (by (with_reducible repeat (first | apply Kd.R_alloc | apply Kd.R_drewN | apply Kd.R_drew)); exact HO_5.out) hb); replace BK224 := bl BK224 hb; replace HB := bs HB hb; (try clear hb); (try clear hb2); (try clear hk); (try clear hi)))
                           go_ret
                           exact ⟨re, bw HB⟩
                          rw [if_neg c73] at H
                          have c73b0 : decide (0 ≤ t256) = false := decide_eq_false c73
                          clear c73
                          have H' := Aside0.mk H
                          clear H
                          have p254 : 0 ≤ (x16_4 : Int) := of_decide_eq_true (by first | (with_reducible assumption) | assumption)
                          have q254 : x16_4 < ((rd_LOp l0_0 x3_1).length : Int) := of_decide_eq_true (by first | (with_reducible assumption) | assumption)
                          obtain ⟨ad254, A254_7, c254_7, e254, hx254_0, hx254_1, hx254_2, hx254_3, hx254_4, hx254_5, hx254_6, hx254_7, hx254_8, hx254_9, hx254_10, hl254_7, hi254_7⟩ := at_Op HR227_0.out x16_4 p254 q254
                          obtain rfl : ad248 = ad254 := (by injection e254)
                          replace hx254_0 := cl HB hx254_0
                          replace hx254_1 := cl HB hx254_1
                          replace hx254_2 := cl HB hx254_2
                          replace hx254_3 := cl HB hx254_3
                          replace hx254_4 := cl HB hx254_4
                          replace hx254_5 := cl HB hx254_5
                          replace hx254_6 := cl HB hx254_6
                          replace hx254_7 := cl HB hx254_7
                          replace hx254_8 := cl HB hx254_8
                          replace hx254_9 := cl HB hx254_9
                          replace hx254_10 := cl HB hx254_10
                          have HR254_7 := Aside0.mk hi254_7
                          have HC254_7 := Aside0.mk hl254_7
                          clear hi254_7 hl254_7
                          replace p254 := eq_true p254
                          replace q254 := eq_true q254
                          have p255 : 0 ≤ (x19_5 : Int) := of_decide_eq_true (by first | (with_reducible assumption) | assumption)
                          have q255 : x19_5 < (((rd_Op (rd_LOp l0_0 x3_1) x16_4).f5).length : Int) := of_decide_eq_true (by first | (with_reducible assumption) | assumption)
                          obtain ⟨ad255, e255, hx255_0, hx255_1, hx255_2⟩ := at_Elem HR254_7.out x19_5 p255 q255
                          cases e255
                          replace hx255_0 := cl HB hx255_0
                          replace hx255_1 := cl HB hx255_1
                          replace hx255_2 := cl HB hx255_2
                          replace p255 := eq_true p255
                          replace q255 := eq_true q255
                          go_wp2_with (first | ((with_reducible refine gate_callee (f := 17) rfl ?_); refine gl (some 192) Try.func17 #[.slice Ao55 t228.length co55, .agg #[.int .i64 ((rd_Elem ((rd_Op (rd_LOp l0_0 x3_1) x16_4).f5) x19_5).f0), .int .i64 ((rd_Elem ((rd_Op (rd_LOp l0_0 x3_1) x16_4).f5) x19_5).f1), .int .i64 ((rd_Elem ((rd_Op (rd_LOp l0_0 x3_1) x16_4).f5) x19_5).f2)]] (h := ?_); (with_reducible refine (lectionaryref0_At.calls kj60 _ _ t228 ((rd_Elem ((rd_Op (rd_LOp l0_0 x3_1) x16_4).f5) x19_5).f0) ((rd_Elem ((rd_Op (rd_LOp l0_0 x3_1) x16_4).f5) x19_5).f1) ((rd_Elem ((rd_Op (rd_LOp l0_0 x3_1) x16_4).f5) x19_5).f2) t256 _ ?side1 ?side2 A72.out).mono ?_); (case side1 => repeat (first | exact (Kd.R_reads' HO_5.out).2.2 | (with_reducible refine Kd.C_alloc ?_ _) | (with_reducible refine Kd.C_drewN ?_ _) | (with_reducible refine Kd.C_drew ?_))); (case side2 => exact (Kd.R_reads' HO_5.out).2.1); rintro e w75 ⟨rfl, hb⟩; refine ⟨_, rfl, ?_⟩; replace HO_5 := Aside0.mk (Kd.R_below (by (with_reducible repeat (first | apply Kd.R_alloc | apply Kd.R_drewN | apply Kd.R_drew)); exact HO_5.out) hb); replace BK224 := bl BK224 hb; replace HB := bs HB hb; (try clear hb); (try clear hb2); (try clear hk); (try clear hi)))
                          go_roundg kj60
                          case measure => have := HK1.out; have := HJ9.out; have := HK3.out; have := HK4.out; have := HK5.out; have := HJ60.out; omega
                          case rel => exact ⟨(wrap64 (x19_5 + 1)), rf, H', ⟨by have := HK1.out; have := HJ9.out; have := HK3.out; have := HK4.out; have := HK5.out; have := HJ60.out; omega⟩, ⟨by (with_reducible repeat (first | apply Kd.R_alloc | apply Kd.R_drewN | apply Kd.R_drew)); exact HO_5.out⟩, ⟨kk BK224⟩, ⟨bw HB⟩⟩
                         rw [if_neg c71] at H
                         exact absurd H (by simp)
                        rw [if_neg c70] at H
                        exact absurd H (by simp)
                       rw [if_neg c69] at H
                       exact absurd H (by simp)
                      rw [if_neg c68] at H
                      exact absurd H (by simp)
                     replace c67 := Bool.eq_false_iff.mpr c67
                     subst c67
                     have H1 : (lectionarylaw6_DocSame.l3 kj60 x3_1 (rd_LOp l0_0 x3_1) t228 (wrap64 (x16_4 + 1)) l0_0 l0_1 l0_2 l0_3) = some r := by rw [if_neg (show ¬ (false = true) by decide)] at H; exact H
                     clear H
                     have H := H1
                     clear H1
                     have H' := Aside0.mk H
                     clear H
                     go_wp2
                     go_roundg kj60
                     case measure => have := HK1.out; have := HJ9.out; have := HK3.out; have := HK4.out; have := HK5.out; have := HJ60.out; omega
                     case rel => exact ⟨(wrap64 (x16_4 + 1)), rf, H', ⟨by have := HK1.out; have := HJ9.out; have := HK3.out; have := HK4.out; have := HK5.out; have := HJ60.out; omega⟩, ⟨by (with_reducible repeat (first | apply Kd.R_alloc | apply Kd.R_drewN | apply Kd.R_drew)); exact HO_5.out⟩, ⟨kk BK224⟩, ⟨bw HB⟩⟩
                rw [if_neg c57] at H
                exact absurd H (by simp)
               rw [if_neg c56] at H
               have c56b0 : decide (x16_4 < ((rd_LOp l0_0 x3_1).length : Int)) = false := decide_eq_false c56
               clear c56
               have H' := Aside0.mk H
               clear H
               go_wp2
               go_roundg k4
               case measure => have := HK1.out; have := HJ9.out; have := HK3.out; have := HK4.out; omega
               case rel => exact ⟨(wrap64 (x3_1 + 1)), rf, H', ⟨by have := HK1.out; have := HJ9.out; have := HK3.out; have := HK4.out; omega⟩, ⟨kk BK224⟩, ⟨bw HB⟩⟩
            rw [if_neg c54] at H
            have c54b0 : (x9_3 == (t232.size : Int)) = false := beq_eq_false_iff_ne.mpr c54
            have c54b1 : (x9_3 != (t232.size : Int)) = true := bne_iff_ne.mpr c54
            obtain rfl := Option.some.inj H
            obtain ⟨Ao76, co76, eo76⟩ := Kd.R_slice HO_5.out
            subst eo76
            go_wp2
            go_ret
            exact ⟨re, bw HB⟩
         rw [if_neg c23] at H
         have c23b0 : (t236 == 0) = false := beq_eq_false_iff_ne.mpr c23
         have c23b1 : (t236 != 0) = true := bne_iff_ne.mpr c23
         have H' := Aside0.mk H
         clear H
         obtain ⟨hcz77_0, hcz77_1, hcz77_2, hcz77_3, hfz77_0, hfz77_1, hfz77_2, hfz77_3⟩ := kc4 BK224
         have p227 : 0 ≤ (x3_1 : Int) := of_decide_eq_true (by first | (with_reducible assumption) | assumption)
         have q227 : x3_1 < (l0_0.length : Int) := of_decide_eq_true (by first | (with_reducible assumption) | assumption)
         obtain ⟨ad227, A227_0, c227_0, e227, hx227_0, hl227_0, hi227_0⟩ := at_LOp HR0_0.out x3_1 p227 q227
         cases e227
         replace hx227_0 := cl HB hx227_0
         have HR227_0 := Aside0.mk hi227_0
         have HC227_0 := Aside0.mk hl227_0
         clear hi227_0 hl227_0
         replace p227 := eq_true p227
         replace q227 := eq_true q227
         go_wp2_with (first | ((with_reducible refine gate_callee (f := 15) rfl ?_); refine gl (some 40) Try.func15 #[.slice A227_0 (rd_LOp l0_0 x3_1).length c227_0] (h := ?_); (with_reducible refine (doc_Visible.calls _ _ (rd_LOp l0_0 x3_1) t228 t229 _ ?side1 ?side2 A17.out).mono ?_); (case side1 => repeat (first | exact (Kd.C_below HR227_0.out HB.out) | (with_reducible refine Kd.C_alloc ?_ _) | (with_reducible refine Kd.C_drewN ?_ _) | (with_reducible refine Kd.C_drew ?_))); (case side2 => exact HC227_0.out); rintro e w78 ⟨v230, rfl, ho0, hb⟩; refine ⟨_, rfl, ?_⟩; have HO231 := Aside0.mk (Kd.R_lower ho0 (below_size (bw HB))); replace BK224 := bl BK224 hb; replace HB := bs HB hb; (try clear hb); (try clear hb2); (try clear hk); (try clear hi); (try clear ho0)) | ((with_reducible refine gate_callee (f := 7) rfl ?_); refine gl (some 45) Try.func7 #[.slice A227_0 (rd_LOp l0_0 x3_1).length c227_0] (h := ?_); (with_reducible refine (doc_Text.calls _ _ (rd_LOp l0_0 x3_1) t232 t233 _ ?side1 ?side2 A18.out).mono ?_); (case side1 => repeat (first | exact (Kd.C_below HR227_0.out HB.out) | (with_reducible refine Kd.C_alloc ?_ _) | (with_reducible refine Kd.C_drewN ?_ _) | (with_reducible refine Kd.C_drew ?_))); (case side2 => exact HC227_0.out); rintro e w79 ⟨rfl, hb⟩; refine ⟨_, rfl, ?_⟩; replace HO231 := Aside0.mk (Kd.R_below (by (with_reducible repeat (first | apply Kd.R_alloc | apply Kd.R_drewN | apply Kd.R_drew)); exact HO231.out) hb); replace BK224 := bl BK224 hb; replace HB := bs HB hb; (try clear hb); (try clear hb2); (try clear hk); (try clear hi)) | ((with_reducible refine gate_callee (f := 8) rfl ?_); refine gl (some 49) Try.func8 #[.int .i64 t229] (h := ?_); (with_reducible refine (lectionarylaw6_num.calls t229 t234 _ A19.out).mono ?_); rintro e w' ⟨rfl, ⟨nd, rfl⟩⟩; refine ⟨_, rfl, ?_⟩) | ((with_reducible refine gate_callee (f := 8) rfl ?_); refine gl (some 51) Try.func8 #[.int .i64 t233] (h := ?_); (with_reducible refine (lectionarylaw6_num.calls t233 t235 _ A20.out).mono ?_); rintro e w' ⟨rfl, ⟨nd, rfl⟩⟩; refine ⟨_, rfl, ?_⟩) | ((with_reducible refine gate_callee (f := 8) rfl ?_); refine gl (some 54) Try.func8 #[.int .i64 t229] (h := ?_); (with_reducible refine (lectionarylaw6_num.calls t229 t236 _ A22.out).mono ?_); rintro e w' ⟨rfl, ⟨nd, rfl⟩⟩; refine ⟨_, rfl, ?_⟩))
         go_roundg kj9
         case measure => have := HK1.out; have := HJ9.out; omega
         case rel => exact ⟨(wrap64 (x3_1 + 1)), rf, H', ⟨by have := HK1.out; have := HJ9.out; omega⟩, ⟨kk BK224⟩, ⟨bw HB⟩⟩
        rw [if_neg c21] at H
        have c21b0 : (t234 == t235) = false := beq_eq_false_iff_ne.mpr c21
        have c21b1 : (t234 != t235) = true := bne_iff_ne.mpr c21
        obtain rfl := Option.some.inj H
        obtain ⟨hcz80_0, hcz80_1, hcz80_2, hcz80_3, hfz80_0, hfz80_1, hfz80_2, hfz80_3⟩ := kc4 BK224
        have p227 : 0 ≤ (x3_1 : Int) := of_decide_eq_true (by first | (with_reducible assumption) | assumption)
        have q227 : x3_1 < (l0_0.length : Int) := of_decide_eq_true (by first | (with_reducible assumption) | assumption)
        obtain ⟨ad227, A227_0, c227_0, e227, hx227_0, hl227_0, hi227_0⟩ := at_LOp HR0_0.out x3_1 p227 q227
        cases e227
        replace hx227_0 := cl HB hx227_0
        have HR227_0 := Aside0.mk hi227_0
        have HC227_0 := Aside0.mk hl227_0
        clear hi227_0 hl227_0
        replace p227 := eq_true p227
        replace q227 := eq_true q227
        go_wp2_with (first | ((with_reducible refine gate_callee (f := 15) rfl ?_); refine gl (some 40) Try.func15 #[.slice A227_0 (rd_LOp l0_0 x3_1).length c227_0] (h := ?_); (with_reducible refine (doc_Visible.calls _ _ (rd_LOp l0_0 x3_1) t228 t229 _ ?side1 ?side2 A17.out).mono ?_); (case side1 => repeat (first | exact (Kd.C_below HR227_0.out HB.out) | (with_reducible refine Kd.C_alloc ?_ _) | (with_reducible refine Kd.C_drewN ?_ _) | (with_reducible refine Kd.C_drew ?_))); (case side2 => exact HC227_0.out); rintro e w81 ⟨v230, rfl, ho0, hb⟩; refine ⟨_, rfl, ?_⟩; have HO231 := Aside0.mk (Kd.R_lower ho0 (below_size (bw HB))); replace BK224 := bl BK224 hb; replace HB := bs HB hb; (try clear hb); (try clear hb2); (try clear hk); (try clear hi); (try clear ho0)) | ((with_reducible refine gate_callee (f := 7) rfl ?_); refine gl (some 45) Try.func7 #[.slice A227_0 (rd_LOp l0_0 x3_1).length c227_0] (h := ?_); (with_reducible refine (doc_Text.calls _ _ (rd_LOp l0_0 x3_1) t232 t233 _ ?side1 ?side2 A18.out).mono ?_); (case side1 => repeat (first | exact (Kd.C_below HR227_0.out HB.out) | (with_reducible refine Kd.C_alloc ?_ _) | (with_reducible refine Kd.C_drewN ?_ _) | (with_reducible refine Kd.C_drew ?_))); (case side2 => exact HC227_0.out); rintro e w82 ⟨rfl, hb⟩; refine ⟨_, rfl, ?_⟩; replace HO231 := Aside0.mk (Kd.R_below (by (with_reducible repeat (first | apply Kd.R_alloc | apply Kd.R_drewN | apply Kd.R_drew)); exact HO231.out) hb); replace BK224 := bl BK224 hb; replace HB := bs HB hb; (try clear hb); (try clear hb2); (try clear hk); (try clear hi)) | ((with_reducible refine gate_callee (f := 8) rfl ?_); refine gl (some 49) Try.func8 #[.int .i64 t229] (h := ?_); (with_reducible refine (lectionarylaw6_num.calls t229 t234 _ A19.out).mono ?_); rintro e w' ⟨rfl, ⟨nd, rfl⟩⟩; refine ⟨_, rfl, ?_⟩) | ((with_reducible refine gate_callee (f := 8) rfl ?_); refine gl (some 51) Try.func8 #[.int .i64 t233] (h := ?_); (with_reducible refine (lectionarylaw6_num.calls t233 t235 _ A20.out).mono ?_); rintro e w' ⟨rfl, ⟨nd, rfl⟩⟩; refine ⟨_, rfl, ?_⟩))
        go_ret
        exact ⟨re, bw HB⟩
       rw [if_neg c16] at H
       exact absurd H (by simp)
      rw [if_neg c15] at H
      exact absurd H (by simp)
     replace c14 := Bool.eq_false_iff.mpr c14
     subst c14
     have H1 : ((lectionarylaw6_wakes.f).bind fun t226 => (some t226)) = some r := by rw [if_neg (show ¬ (false = true) by decide)] at H; exact H
     clear H
     have H := H1
     clear H1
     replace H := Option.bind_eq_some_iff.mp H
     obtain ⟨t226, A830, H⟩ := H
     replace H : (some t226) = some r := H
     have A83 := Aside0.mk A830
     clear A830
     obtain rfl := Option.some.inj H
     go_wp2_with (first | ((with_reducible refine gate_callee (f := 14) rfl ?_); refine gl (some 194) Try.func14 #[] (h := ?_); (with_reducible refine (lectionarylaw6_wakes.calls  t226 _ A83.out).mono ?_); rintro e w84 ⟨rfl, hb⟩; refine ⟨_, rfl, ?_⟩; replace BK224 := bl BK224 hb; replace HB := bs HB hb; (try clear hb); (try clear hb2); (try clear hk); (try clear hi)))
     go_ret
     exact ⟨re, bw HB⟩
end Go.Proofs.Ytonoaflfobajcaa.L
end

section
namespace Go.Proofs.Ytonoaflfobajcaa.L
open Go.RowKit Go.Proofs.YtonoaflfobajcaaW.PrintWords Go.Proofs.YtonoaflfobajcaaW.PrintLast Go.Proofs.YtonoaflfobajcaaW.PrintMore
set_option linter.unusedVariables false
set_option linter.unusedSimpArgs false
theorem doc_Seen_f {L : List SOp} (hs : smalls L = true) (h : RowOk L) : doc_Seen.f L = some (seenL L) := by unfold doc_Seen.f; exact if_pos ⟨hs, (mayB_iff L).2 h⟩
theorem doc_Plain_f {L : List SOp} (hs : smalls L = true) (h : RowOk L) : doc_Plain.f L = some (plainR L) := by unfold doc_Plain.f; exact if_pos ⟨hs, (mayB_iff L).2 h⟩
theorem doc_Visible_ok {L : List SOp} (hs : smalls L = true) (h : RowOk L) : doc_Visible.f L = some (seenL L, 0) := by
  unfold doc_Visible.f
  rw [tree_May_f hs, (mayB_iff L).2 h, Option.bind_some, if_pos rfl, doc_Seen_f hs h]; rfl
theorem doc_Visible_no {L : List SOp} (hs : smalls L = true) (hm : mayB L = false) : doc_Visible.f L = some ([], 1) := by
  unfold doc_Visible.f
  rw [tree_May_f hs, hm]; rfl
theorem doc_Text_ok {L : List SOp} (hs : smalls L = true) (h : RowOk L) : doc_Text.f L = some (plainR L, 0) := by
  unfold doc_Text.f
  rw [tree_May_f hs, (mayB_iff L).2 h, Option.bind_some, if_pos rfl, doc_Plain_f hs h]; rfl
theorem doc_Text_no {L : List SOp} (hs : smalls L = true) (hm : mayB L = false) : doc_Text.f L = some ((⟨#[]⟩ : ByteArray), 1) := by
  unfold doc_Text.f
  rw [tree_May_f hs, hm]; rfl
theorem runesBytes_from (ns : List Int) : ∀ s : ByteArray, ns.foldl (fun r n => r ++ Utf8.encode n) s = s ++ runesBytes ns := by
  induction ns with
  | nil => intro s; show s = s ++ ByteArray.empty; exact ByteArray.append_empty.symm
  | cons n ns ih =>
    intro s
    unfold runesBytes
    rw [List.foldl_cons, List.foldl_cons, ih, ih, ByteArray.empty_append, ByteArray.append_assoc]
theorem runesBytes_app (a b : List Int) : runesBytes (a ++ b) = runesBytes a ++ runesBytes b := by
  rw [← runesBytes_from b (runesBytes a)]; unfold runesBytes; rw [List.foldl_append]
theorem runesBytes_one (r : Int) : runesBytes [r] = Utf8.encode r := by
  unfold runesBytes; rw [List.foldl_cons, List.foldl_nil, ByteArray.empty_append]
theorem seen_len {L : List SOp} (h : RowOk L) : (seenL L).length ≤ 200 := Nat.le_trans (List.length_filter_le _ _) (by rw [(ordL_nodup h).2]; exact h.sums.2)
end Go.Proofs.Ytonoaflfobajcaa.L
end

section
namespace Go.Proofs.Ytonoaflfobajcaa.L
open Go.RowKit Go.Proofs.YtonoaflfobajcaaW.PrintWords Go.Proofs.YtonoaflfobajcaaW.PrintLast Go.Proofs.YtonoaflfobajcaaW.PrintMore
set_option linter.unusedVariables false
set_option linter.unusedSimpArgs false
theorem doc_Edit_at {L : List SOp} (hs : smalls L = true) (h : RowOk L) {i : Nat} (hi : i < L.length) {a b : Int} (hf : findOp L a b = (i : Int)) : doc_Edit.f L a b = some (if L[i].f2 = 1 then ((i : Int), 0) else (0, 3)) := by
  have h40 := h.sums.1
  unfold doc_Edit.f
  rw [tree_May_f hs, (mayB_iff L).2 h, Option.bind_some, if_pos rfl, tree_Find_f (by omega), Option.bind_some, hf, if_neg (by omega), if_pos (by omega), if_pos (by omega), rd_Op_nat _ _ hi]
  split <;> rfl
theorem cntR_nonneg {L : List SOp} (h : RowOk L) {i : Nat} (hi : i < L.length) : 0 ≤ cntR L L[i].f0 L[i].f1 ∧ cntR L L[i].f0 L[i].f1 ≤ L.length := by
  rw [← counts_at h hi, List.getD_eq_getElem?_getD]
  cases hq : (countsL L)[i]? with
  | none => exact ⟨Int.le_refl _, by simp⟩
  | some y => exact counts_bound y (List.mem_of_getElem? hq)
theorem Count_ev {L : List SOp} (hs : smalls L = true) (h : RowOk L) {i : Nat} (hi : i < L.length) {a b : Int} (hf : findOp L a b = (i : Int)) : Ev (fun k => doc_Count.f k L a b) (if L[i].f2 = 1 then (cntR L L[i].f0 L[i].f1, 0) else (0, 3)) := by
  by_cases h1 : L[i].f2 = 1
  · rw [if_pos h1]
    refine Ev.congr (f := fun k => (doc_Counts.f k L).bind fun t => if 0 ≤ (i : Int) then (if (i : Int) < (t.length : Int) then some (rd t (i : Int), (0 : Int)) else none) else none) (fun k => ?_) (Ev.bind (f := fun _ t => if 0 ≤ (i : Int) then (if (i : Int) < (t.length : Int) then some (rd t (i : Int), (0 : Int)) else none) else none) (Counts_ev h) ?_)
    · unfold doc_Count.f
      rw [doc_Edit_at hs h hi hf, if_pos h1]; rfl
    · refine Ev.congr (fun k => ?_) (Ev.now _)
      rw [if_pos (by omega), if_pos (by rw [counts_length]; omega)]
      unfold rd
      rw [Int.toNat_natCast, counts_at h hi]
  · rw [if_neg h1]
    refine Ev.congr (fun k => ?_) (Ev.now _)
    unfold doc_Count.f
    rw [doc_Edit_at hs h hi hf, if_neg h1]; rfl
theorem Effective_ev {L : List SOp} (hs : smalls L = true) (h : RowOk L) {i : Nat} (hi : i < L.length) {a b : Int} (hf : findOp L a b = (i : Int)) : Ev (fun k => doc_Effective.f k L a b) (workE L L[i], if L[i].f2 = 1 then 0 else 3) := by
  refine Ev.bind (f := fun _ (bt : Int × Int) => if bt.2 = 0 then some ((Int.tmod bt.1 2) == 0, bt.2) else some (false, bt.2)) (Count_ev hs h hi hf) ?_
  refine Ev.congr (fun k => ?_) (Ev.now _)
  unfold workE
  by_cases h1 : L[i].f2 = 1
  · rw [if_pos h1, if_pos h1, if_pos rfl, h1, Int.tmod_eq_emod_of_nonneg (cntR_nonneg h hi).1]; rfl
  · rw [if_neg h1, if_neg h1, if_neg (by decide)]
    have : (L[i].f2 == 1) = false := by simp [h1]
    rw [this]; rfl
end Go.Proofs.Ytonoaflfobajcaa.L
end

section
namespace Go.Proofs.Ytonoaflfobajcaa.L
open Go.RowKit Go.Proofs.YtonoaflfobajcaaW.PrintWords Go.Proofs.YtonoaflfobajcaaW.PrintLast Go.Proofs.YtonoaflfobajcaaW.PrintMore
set_option linter.unusedVariables false
set_option linter.unusedSimpArgs false
def idxE (l : List SElem) (e : SElem) : Int := firstAt (fun i => decide (rd_Elem l (i : Int) = e)) l.length l.length 0
theorem eqE_iff (x : SElem) (a b c : Int) : (x.f0 == a && (x.f1 == b && (x.f2 == c))) = decide (x = ⟨a, b, c⟩) := by
  rw [Bool.eq_iff_iff]
  simp only [Bool.and_eq_true, beq_iff_eq, decide_eq_true_eq]
  exact ⟨fun h => SElem.ext3 h.1 h.2.1 h.2.2, fun h => by subst h; exact ⟨rfl, rfl, rfl⟩⟩
theorem At_loop (l : List SElem) (hl : l.length ≤ 1000000000) (a b c : Int) : ∀ d i, i + d = l.length → Ev (fun k => lectionaryref0_At.l0 k l (i : Int) a b c) (firstAt (fun i => decide (rd_Elem l (i : Int) = ⟨a, b, c⟩)) l.length d i)
  | 0, i, h => Ev.step (f := fun _ => some (-1)) (fun k => by simp only [lectionaryref0_At.l0]; rw [if_neg (by omega)]) (Ev.now _)
  | d + 1, i, h => by
    have ih := At_loop l hl a b c d (i + 1) (by omega)
    unfold firstAt
    rw [if_pos (show i < l.length by omega)]
    by_cases he : rd_Elem l (i : Int) = ⟨a, b, c⟩
    · rw [if_pos (by simp [he])]
      refine Ev.step (f := fun _ => some (i : Int)) (fun k => ?_) (Ev.now _)
      simp only [lectionaryref0_At.l0, eqE_iff]
      rw [if_pos (by omega), if_pos (by omega), if_pos (by simp [he])]
    · rw [if_neg (by simp [he])]
      refine Ev.step (fun k => ?_) ih
      simp only [lectionaryref0_At.l0, eqE_iff]
      rw [if_pos (by omega), if_pos (by omega), if_neg (by simp [he]), wrapS (show i < l.length by omega) (by omega)]
theorem At_ev (l : List SElem) (hl : l.length ≤ 1000000000) (e : SElem) : Ev (fun k => lectionaryref0_At.f k l e.f0 e.f1 e.f2) (idxE l e) :=
  At_loop l hl e.f0 e.f1 e.f2 l.length 0 (Nat.zero_add _)
theorem idxE_cases (l : List SElem) (e : SElem) : (∃ i, ∃ h : i < l.length, l[i] = e ∧ (∀ j (hj : j < i), l[j]'(by omega) ≠ e) ∧ idxE l e = (i : Int)) ∨ (e ∉ l ∧ idxE l e = -1) := by
  unfold idxE
  rcases firstAt_cases (fun i => decide (rd_Elem l (i : Int) = e)) l.length with ⟨i, h1, h2, h3, h4⟩ | ⟨h1, h2⟩
  · refine .inl ⟨i, h1, ?_, fun j hj => ?_, h4⟩
    · rw [rd_Elem_nat _ _ h1] at h2; simpa using h2
    · have := h3 j hj
      rw [rd_Elem_nat _ _ (by omega)] at this; simpa using this
  · refine .inr ⟨fun hm => ?_, h2⟩
    obtain ⟨i, hi, rfl⟩ := List.getElem_of_mem hm
    have := h1 i hi
    rw [rd_Elem_nat _ _ hi] at this; simp at this
end Go.Proofs.Ytonoaflfobajcaa.L
end

section
namespace Go.Proofs.Ytonoaflfobajcaa.L
open Go.RowKit Go.Proofs.YtonoaflfobajcaaW.PrintWords Go.Proofs.YtonoaflfobajcaaW.PrintLast Go.Proofs.YtonoaflfobajcaaW.PrintMore
set_option linter.unusedVariables false
set_option linter.unusedSimpArgs false
theorem wakes6_f : lectionarylaw6_wakes.f = some true := by decide +kernel
theorem num6_f (a : Int) : lectionarylaw6_num.f a = some a := rfl
theorem tree_Written_f {l : List SOp} (hs : smalls l = true) (a b c : Int) : tree_Written.f l a b c = some (writtenB l ⟨a, b, c⟩) := by
  have hlen : l.length ≤ 9223372036854775807 := by
    unfold smalls at hs; simp only [Bool.and_eq_true, decide_eq_true_eq] at hs; exact hs.1
  unfold tree_Written.f tree_Find.f writtenB
  rw [if_pos hlen, Option.bind_some]
  simp only
  rcases findOp_cases l a b with ⟨i, hi, _, _, _, e⟩ | ⟨_, e⟩
  · rw [e, if_pos (by omega)]
    by_cases hc : c ≥ 0
    · rw [if_pos hc, if_pos (by omega), if_pos (by omega), op_Size_f _ (smalls_at hs hi), Option.bind_some]
      have h1 : decide ((0 : Int) ≤ (i : Int)) = true := decide_eq_true (by omega)
      have h2 : decide ((0 : Int) ≤ c) = true := decide_eq_true hc
      rw [h1, h2]; simp
    · rw [if_neg hc]
      have h2 : decide ((0 : Int) ≤ c) = false := decide_eq_false (by omega)
      rw [h2]; simp
  · rw [e, if_neg (by omega)]; simp
theorem Rune_ok {L : List SOp} (hs : smalls L = true) (h : RowOk L) {e : SElem} (he : e ∈ ordL L) : doc_Rune.f L e.f0 e.f1 e.f2 = some (atR L e, 0) := by
  unfold doc_Rune.f
  rw [tree_May_f hs, (mayB_iff L).2 h, Option.bind_some, if_pos rfl, tree_Written_f hs, (show writtenB L ⟨e.f0, e.f1, e.f2⟩ = true from (mem_written h e).2 he), Option.bind_some, if_pos rfl, At_ok h he]
  rfl
section
variable {l0 : List (List SOp)} {l1 : List SElem} {l2 : List SOp} {l3 : List Int} {L : List SOp}
theorem DS_l4 (hs : smalls L = true) (h : RowOk L) (x3 : Int) {i : Nat} (hi : i < L.length) (hnext : Ev (fun k => lectionarylaw6_DocSame.l3 k x3 L (seenL L) ((i + 1 : Nat) : Int) l0 l1 l2 l3) true) : ∀ d j, j + d = L[i].f5.length →
    Ev (fun k => lectionarylaw6_DocSame.l4 k x3 L (seenL L) (i : Int) (workE L L[i]) (if L[i].f2 = 1 then 0 else 3) (j : Int) l0 l1 l2 l3) true := by
  have h40 := h.sums.1
  have hno : ∀ j c, Ev (fun k => lectionarylaw6_DocSame.j7 k x3 L (seenL L) (i : Int) (workE L L[i]) (if L[i].f2 = 1 then 0 else 3) c false l0 l1 l2 l3) j → True := fun _ _ _ => trivial
  have hf : ∀ c, Ev (fun k => lectionarylaw6_DocSame.j7 k x3 L (seenL L) (i : Int) (workE L L[i]) (if L[i].f2 = 1 then 0 else 3) c false l0 l1 l2 l3) true := by
    intro c
    refine Ev.step (fun k => ?_) hnext
    simp only [lectionarylaw6_DocSame.j7]
    rw [if_neg (by decide), wrapS hi (by omega)]
  intro d
  induction d with
  | zero =>
    intro j hj
    refine Ev.step (fun k => ?_) (hf (j : Int))
    simp only [lectionarylaw6_DocSame.l4]
    rw [if_pos (by omega), if_pos (by omega), rd_Op_nat _ _ hi, if_neg (by omega)]
  | succ d ih =>
    intro j hj
    have hlt : j < L[i].f5.length := by omega
    by_cases hw : workE L L[i] = true
    · have h1 : L[i].f2 = 1 := by
        unfold workE at hw
        simp only [Bool.and_eq_true, beq_iff_eq] at hw
        exact hw.1
      have hnm : L[i].f5[j] ∉ seenL L := by
        intro hm
        have hg := (seen_mem.1 hm).2.1
        have : goneE L L[i].f5[j] = true := by
          unfold goneE
          rw [List.any_eq_true]
          exact ⟨L[i], List.getElem_mem hi, by rw [hw, decide_eq_true (List.getElem_mem hlt)]; rfl⟩
        rw [this] at hg; cases hg
      have hix : idxE (seenL L) L[i].f5[j] = -1 := by
        rcases idxE_cases (seenL L) L[i].f5[j] with ⟨q, hq, he, _, _⟩ | ⟨_, e⟩
        · exact absurd (by rw [← he]; exact List.getElem_mem hq) hnm
        · exact e
      have hA := At_ev (seenL L) (by have := seen_len h; omega) L[i].f5[j]
      rw [hix] at hA
      have ih := ih (j + 1) (by omega)
      have hg200 := opOk_gone200 (h.oks _ (List.getElem_mem hi))
      refine Ev.step (f := fun k => lectionarylaw6_DocSame.j7 k x3 L (seenL L) (i : Int) (workE L L[i]) (if L[i].f2 = 1 then 0 else 3) (j : Int) true l0 l1 l2 l3) (fun k => ?_) (Ev.step (fun k => ?_) (Ev.bind (f := fun k t => if t ≥ 0 then some false else lectionarylaw6_DocSame.l4 k x3 L (seenL L) (i : Int) (workE L L[i]) (if L[i].f2 = 1 then 0 else 3) ((j + 1 : Nat) : Int) l0 l1 l2 l3) hA (Ev.congr (fun k => if_neg (by decide)) ih)))
      · simp only [lectionarylaw6_DocSame.l4]
        rw [if_pos (by omega), if_pos (by omega), rd_Op_nat _ _ hi, if_pos (by omega), num6_f, Option.bind_some, if_pos (by rw [if_pos h1]), hw]
      · simp only [lectionarylaw6_DocSame.j7]
        rw [if_pos True.intro, if_pos (by omega), if_pos (by omega), rd_Op_nat _ _ hi, if_pos (by omega), if_pos (by omega), rd_Elem_nat _ _ hlt, wrapS hlt (by omega)]
    · have hw' : workE L L[i] = false := by cases hq : workE L L[i]; rfl; exact absurd hq hw
      refine Ev.step (f := fun k => lectionarylaw6_DocSame.j7 k x3 L (seenL L) (i : Int) (workE L L[i]) (if L[i].f2 = 1 then 0 else 3) (j : Int) false l0 l1 l2 l3) (fun k => ?_) (hf (j : Int))
      simp only [lectionarylaw6_DocSame.l4]
      rw [if_pos (by omega), if_pos (by omega), rd_Op_nat _ _ hi, if_pos (by omega), num6_f, Option.bind_some, hw']
      split <;> rfl
theorem DS_l3 (hs : smalls L = true) (h : RowOk L) (x3 : Int) (hnext : Ev (fun k => lectionarylaw6_DocSame.l0 k (wrap64 (x3 + 1)) l0 l1 l2 l3) true) : ∀ d i, i + d = L.length → Ev (fun k => lectionarylaw6_DocSame.l3 k x3 L (seenL L) (i : Int) l0 l1 l2 l3) true
  | 0, i, hi => by
    refine Ev.step (fun k => ?_) hnext
    simp only [lectionarylaw6_DocSame.l3]
    rw [if_neg (by omega)]
  | d + 1, i, hi => by
    have hlt : i < L.length := by omega
    have ih := DS_l3 hs h x3 hnext d (i + 1) (by omega)
    have hE := Effective_ev hs h hlt (findOp_at h hlt)
    refine Ev.step (fun k => ?_) (Ev.bind (f := fun k (bt : Bool × Int) => lectionarylaw6_DocSame.l4 k x3 L (seenL L) (i : Int) bt.1 bt.2 0 l0 l1 l2 l3) hE (DS_l4 hs h x3 hlt ih _ 0 (Nat.zero_add _)))
    simp only [lectionarylaw6_DocSame.l3]
    rw [if_pos (by omega), if_pos (by omega), rd_Op_nat _ _ hlt]
theorem DS_l2 (x3 : Int) (v : List SElem) (hv : v.Nodup) (h200 : v.length ≤ 200) (s : ByteArray) (n : Int) {i : Nat} (hi : i < v.length) (hnext : Ev (fun k => lectionarylaw6_DocSame.l1 k x3 L v s n ((i + 1 : Nat) : Int) l0 l1 l2 l3) true) : ∀ d j, j + d = i → Ev (fun k => lectionarylaw6_DocSame.l2 k x3 L v s n (i : Int) (j : Int) l0 l1 l2 l3) true
  | 0, j, hj => by
    refine Ev.step (fun k => ?_) hnext
    simp only [lectionarylaw6_DocSame.l2]
    rw [if_neg (by omega), wrapS hi (by omega)]
  | d + 1, j, hj => by
    have hlt : j < v.length := by omega
    have ih := DS_l2 x3 v hv h200 s n hi hnext d (j + 1) (by omega)
    refine Ev.step (fun k => ?_) ih
    have hne : v[j] ≠ v[i] := fun e => by have := (List.getElem_inj hv).1 e; omega
    have hq : ((v[j].f0) == (v[i].f0) && ((v[j].f1) == (v[i].f1) && ((v[j].f2) == (v[i].f2)))) = false := by
      rw [eqE_iff]; exact decide_eq_false hne
    simp only [lectionarylaw6_DocSame.l2]
    rw [if_pos (by omega), if_pos (by omega), if_pos (by omega), if_pos (by omega), if_pos (by omega), rd_Elem_nat _ _ hlt, rd_Elem_nat _ _ hi, hq, if_neg (by decide), wrapS hlt (by omega)]
def cutR (L : List SOp) (j : Nat) : ByteArray := runesBytes (((seenL L).take j).map (atR L))
theorem cutR_succ (L : List SOp) {j : Nat} (hj : j < (seenL L).length) : cutR L (j + 1) = cutR L j ++ Utf8.encode (atR L (seenL L)[j]) := by
  unfold cutR
  rw [List.take_succ_eq_append_getElem hj, List.map_append, runesBytes_app]
  show _ ++ runesBytes [_] = _
  rw [runesBytes_one]
theorem cutR_rest (L : List SOp) (j : Nat) : ∃ R, plainR L = cutR L j ++ R := by
  refine ⟨runesBytes (((seenL L).drop j).map (atR L)), ?_⟩
  unfold cutR plainR
  rw [← runesBytes_app, ← List.map_append, List.take_append_drop]
theorem mid_data (a b c : Array UInt8) : (a ++ b ++ c).extract a.size (a.size + b.size) = b := by
  rw [Array.append_assoc]
  apply Array.ext
  · simp
  · intro i h1 h2
    rw [Array.getElem_extract, Array.getElem_append_right (by omega), Array.getElem_append_left (by omega)]
    simp
theorem mid_extract (a b c : ByteArray) : (a ++ b ++ c).extract a.size (a.size + b.size) = b := by
  apply ByteArray.ext
  rw [ByteArray.data_extract, ByteArray.data_append, ByteArray.data_append]
  exact mid_data a.data b.data c.data
theorem four {p n m R : Nat} (h : p = n + m + R) : ¬ ((p : Int) < ((n + m : Nat) : Int)) ∧ (0 : Int) ≤ (n : Int) ∧ (n : Int) ≤ ((n + m : Nat) : Int) ∧ ((n + m : Nat) : Int) ≤ (p : Int) := by omega
theorem DS_l1 (hs : smalls L = true) (h : RowOk L) (x3 : Int) (hnext : Ev (fun k => lectionarylaw6_DocSame.l0 k (wrap64 (x3 + 1)) l0 l1 l2 l3) true) : ∀ d i, i + d = (seenL L).length → Ev (fun k => lectionarylaw6_DocSame.l1 k x3 L (seenL L) (plainR L) ((cutR L i).size : Int) (i : Int) l0 l1 l2 l3) true
  | 0, i, hi => by
    have hp : plainR L = cutR L i := by unfold plainR cutR; rw [List.take_of_length_le (by omega)]
    refine Ev.step (fun k => ?_) (DS_l3 hs h x3 hnext L.length 0 (Nat.zero_add _))
    simp only [lectionarylaw6_DocSame.l1]
    rw [if_neg (by omega), if_pos (by rw [hp])]
    rfl
  | d + 1, i, hi => by
    have hlt : i < (seenL L).length := by omega
    have h200 := seen_len h
    have ih := DS_l1 hs h x3 hnext d (i + 1) (by omega)
    have hm : (seenL L)[i] ∈ seenL L := List.getElem_mem hlt
    have ho := seen_mem.1 hm
    obtain ⟨q, hq, hqf, hqc, _⟩ := elem_op h ho.1
    have hE := Effective_ev hs h hq hqf
    have hw : workE L L[q] = true := by
      have := there_iff h ho.1
      rw [hqf, rd_Op_nat _ _ hq] at this
      rw [← this]; exact ho.2.2
    have h1 : L[q].f2 = 1 := by
      unfold workE at hw
      simp only [Bool.and_eq_true, beq_iff_eq] at hw
      exact hw.1
    rw [hw, if_pos h1] at hE
    have hsz : (plainR L).size ≤ 800 := by
      have := runesBytes_size_le ((seenL L).map (atR L))
      rw [List.length_map] at this
      unfold plainR; omega
    have hR := Rune_ok hs h ho.1
    obtain ⟨R, hrest⟩ := cutR_rest L (i + 1)
    have hc := cutR_succ L hlt
    rw [hc] at hrest ih
    have hex := mid_extract (cutR L i) (Utf8.encode (atR L (seenL L)[i])) R
    rw [← hrest] at hex
    have hs2 : (plainR L).size = (cutR L i).size + (Utf8.encode (atR L (seenL L)[i])).size + R.size := by rw [hrest, ByteArray.size_append, ByteArray.size_append]
    generalize hr : atR L (seenL L)[i] = r at hR hrest ih hex hs2
    rw [ByteArray.size_append] at ih
    have hw1 : wrap64 (((cutR L i).size : Int) + ((Utf8.encode r).size : Int)) = (((cutR L i).size + (Utf8.encode r).size : Nat) : Int) := by rw [wrap64_small (by omega) (by omega)]; omega
    have hj3 : Ev (fun k => lectionarylaw6_DocSame.j3 k x3 L (seenL L) (plainR L) ((cutR L i).size : Int) (i : Int) r false l0 l1 l2 l3) true := by
      refine Ev.step (fun k => ?_) (DS_l2 x3 (seenL L) (seen_nodup h) h200 (plainR L) (((cutR L i).size + (Utf8.encode r).size : Nat) : Int) hlt ih i 0 (Nat.zero_add _))
      simp only [lectionarylaw6_DocSame.j3]
      rw [if_neg (by decide), hw1]
      rfl
    generalize plainR L = P at hrest hex hs2 hsz hj3 ⊢
    generalize hcl : (cutR L i).size = n at hs2 hw1 hj3 hex ⊢
    generalize hel : (Utf8.encode r).size = m at hs2 hw1 hj3 hex
    obtain ⟨q1, q2, q3, q4⟩ := four hs2
    refine Ev.step (fun k => by simp only [lectionarylaw6_DocSame.l1]; rw [if_pos (by omega), if_pos (by omega), rd_Elem_nat _ _ hlt, hR, Option.bind_some]) (Ev.bind hE ?_)
    simp only [num6_f, Option.bind_some, if_true, hel, hw1, if_neg q1, if_pos q2, if_pos q3, if_pos q4, Int.toNat_natCast, hex, bne_self_eq_false]
    exact hj3
theorem DS_l0 (hg : GoodAsk l0 l1 l2 l3) : ∀ d i, i + d = l0.length → Ev (fun k => lectionarylaw6_DocSame.l0 k (i : Int) l0 l1 l2 l3) true
  | 0, i, h => by
    refine Ev.step (f := fun k => lectionarylaw6_DocSame.j1 k (i : Int) false l0 l1 l2 l3) (fun k => ?_) (Ev.step (f := fun _ => some true) (fun k => ?_) (Ev.now _))
    · simp only [lectionarylaw6_DocSame.l0]; rw [if_neg (by omega)]
    · simp only [lectionarylaw6_DocSame.j1]; rw [if_neg (by decide), wakes6_f]; rfl
  | d + 1, i, h => by
    have ih := DS_l0 hg d (i + 1) (by omega)
    have hn0 := hg.n0
    have hw : wrap64 ((i : Int) + 1) = ((i + 1 : Nat) : Int) := wrapS (show i < l0.length by omega) (by omega)
    by_cases h4 : (i : Int) < 4
    · have hm := rd_LOp_mem l0 i (by omega)
      have hs := good_smalls (hg.r0 _ hm)
      refine Ev.step (f := fun k => lectionarylaw6_DocSame.j1 k (i : Int) true l0 l1 l2 l3) (fun k => ?_) ?_
      · simp only [lectionarylaw6_DocSame.l0]; rw [if_pos (by omega), decide_eq_true h4]
      · generalize hL : rd_LOp l0 (i : Int) = L at hm hs
        cases hmay : mayB L
        · refine Ev.step (fun k => ?_) ih
          simp only [lectionarylaw6_DocSame.j1]
          rw [if_pos True.intro, if_pos (by omega), if_pos (by omega), hL, doc_Visible_no hs hmay, doc_Text_no hs hmay]
          simp only [num6_f, Option.bind_some]
          rw [if_pos True.intro, if_neg (by decide), hw]
        · have hr := (mayB_iff _).1 hmay
          have hl1 := DS_l1 (l1 := l1) (l2 := l2) (l3 := l3) hs hr (i : Int) (by rw [hw]; exact ih) _ 0 (Nat.zero_add _)
          refine Ev.step (fun k => ?_) hl1
          simp only [lectionarylaw6_DocSame.j1]
          rw [if_pos True.intro, if_pos (by omega), if_pos (by omega), hL, doc_Visible_ok hs hr, doc_Text_ok hs hr]
          simp only [num6_f, Option.bind_some]
          rw [if_pos True.intro, if_pos True.intro]
          rfl
    · refine Ev.step (f := fun k => lectionarylaw6_DocSame.j1 k (i : Int) false l0 l1 l2 l3) (fun k => ?_) (Ev.step (f := fun _ => some true) (fun k => ?_) (Ev.now _))
      · simp only [lectionarylaw6_DocSame.l0]; rw [if_pos (by omega), decide_eq_false h4]
      · simp only [lectionarylaw6_DocSame.j1]; rw [if_neg (by decide), wakes6_f]; rfl
end
theorem PureDocSame (l0 : List (List SOp)) (l1 : List SElem) (l2 : List SOp) (l3 : List Int) (hg : GoodAsk l0 l1 l2 l3) : ∃ k, lectionarylaw6_DocSame.f k l0 l1 l2 l3 = some true := by
  obtain ⟨b, hb⟩ := Heavy_some hg
  refine Ev.rounds (Ev.bind (f := fun k t => if t = true then some true else lectionarylaw6_DocSame.l0 k 0 l0 l1 l2 l3) hb ?_)
  cases b
  · exact Ev.congr (fun k => if_neg (by decide)) (DS_l0 hg _ 0 (Nat.zero_add _))
  · exact Ev.congr (fun k => if_pos rfl) (Ev.now true)
end Go.Proofs.Ytonoaflfobajcaa.L
end
