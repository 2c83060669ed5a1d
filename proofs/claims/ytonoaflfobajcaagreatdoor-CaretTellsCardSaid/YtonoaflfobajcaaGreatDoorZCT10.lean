/- Part 10 of the proof that for every argument the law CaretTells answers true: which element stands ahead of any place of any row, any element's place, and what is near it, are the page's, or the error is. -/
import Derived.Test.YtonoaflfobajcaaGreatDoorZCT9
import Derived.Lib.RuneCountTail
import Derived.Laws.IdiomStrings
import Derived.Laws.Cover4
section
namespace Go.Proofs.YtonoaflfobajcaaGreatDoor.L
open Go.RowKit Go.Proofs.YtonoaflfobajcaaGreatDoorW.PrintWords Go.Proofs.YtonoaflfobajcaaGreatDoorW.PrintLast Go.Proofs.YtonoaflfobajcaaGreatDoorW.PrintMore
set_option linter.unusedVariables false
set_option linter.unusedSimpArgs false
set_option maxHeartbeats 40000000
set_option maxRecDepth 1000000
section
attribute [local go_sem] Qbl Qbj Qbu Qbt Qbb Qba Qbk Qbi
attribute [local go_sem high] Qdb
mutual
def w11_CaretTells.l0 : Nat → List Int → Int → List (List (SOp)) → List (SElem) → List (SOp) → List Int → Option (Bool)
 | 0,_,_,_,_,_,_ => none
 | k + 1,x3,x4,x436000,x436001,x436002,x436003 => if x4 < (x436000.length : Int) then (w11_CaretTells.j1 k x3 x4 (decide (x4 < 4)) x436000 x436001 x436002 x436003) else (w11_CaretTells.j1 k x3 x4 false x436000 x436001 x436002 x436003)
def w11_CaretTells.j1 : Nat → List Int → Int → Bool → List (List (SOp)) → List (SElem) → List (SOp) → List Int → Option (Bool)
 | 0,_,_,_,_,_,_,_ => none
 | k + 1,x3,x4,x37,x436000,x436001,x436002,x436003 => if x37 = true then (if 0 ≤ x4 then (if x4 < (x436000.length : Int) then ((r0_CopyOps.f k (Qdc x436000 x4)).bind fun t445 => ((r4_Row.f k (Qdc x436000 x4)).bind fun t449 => (w11_CaretTells.l1 k x3 x4 t445 t449 0 x436000 x436001 x436002 x436003))) else (none)) else (none)) else ((w11_wakes.f k).bind fun t443 => (some t443))
def w11_CaretTells.l1 : Nat → List Int → Int → List (SOp) → Bool → Int → List (List (SOp)) → List (SElem) → List (SOp) → List Int → Option (Bool)
 | 0,_,_,_,_,_,_,_,_,_ => none
 | k + 1,x3,x4,x5,x6,x7,x436000,x436001,x436002,x436003 => if x7 < (x3.length : Int) then (w11_CaretTells.j3 k x3 x4 x5 x6 x7 (decide (x7 < 12)) x436000 x436001 x436002 x436003) else (w11_CaretTells.j3 k x3 x4 x5 x6 x7 false x436000 x436001 x436002 x436003)
def w11_CaretTells.j3 : Nat → List Int → Int → List (SOp) → Bool → Int → Bool → List (List (SOp)) → List (SElem) → List (SOp) → List Int → Option (Bool)
 | 0,_,_,_,_,_,_,_,_,_,_ => none
 | k + 1,x3,x4,x5,x6,x7,x59,x436000,x436001,x436002,x436003 => if x59 = true then (if 0 ≤ x7 then (if x7 < (x3.length : Int) then ((caret_Set.f k x5 (rd x3 x7)).bind fun bt451 => (if x6 = true then ((r9_Set.f k x5 (rd x3 x7)).bind fun bt458 => (if bt458.2.2.2 = true then (w11_CaretTells.j4 k x3 x4 x5 x6 x7 bt451.2.2.2 0 x436000 x436001 x436002 x436003 bt451.1 bt451.2.1 bt451.2.2.1 bt458.1 bt458.2.1 bt458.2.2.1) else (w11_CaretTells.j4 k x3 x4 x5 x6 x7 bt451.2.2.2 2 x436000 x436001 x436002 x436003 bt451.1 bt451.2.1 bt451.2.2.1 0 0 0))) else (w11_CaretTells.j4 k x3 x4 x5 x6 x7 bt451.2.2.2 1 x436000 x436001 x436002 x436003 bt451.1 bt451.2.1 bt451.2.2.1 0 0 0))) else (none)) else (none)) else ((w5_Elems.f k x436000 x436001 x436002 x436003 x5).bind fun t464 => (w11_CaretTells.l2 k x3 x4 x5 x6 t464 0 x436000 x436001 x436002 x436003))
def w11_CaretTells.j4 : Nat → List Int → Int → List (SOp) → Bool → Int → Int → Int → List (List (SOp)) → List (SElem) → List (SOp) → List Int → Int → Int → Int → Int → Int → Int → Option (Bool)
 | 0,_,_,_,_,_,_,_,_,_,_,_,_,_,_,_,_,_ => none
 | k + 1,x3,x4,x5,x6,x7,x9,x10,x436000,x436001,x436002,x436003,x456000,x456001,x456002,x457000,x457001,x457002 => (w11_num.f x9).bind fun t463 => (if t463 = x10 then (if (!(x456000 == x457000) || (!(x456001 == x457001) || (!(x456002 == x457002)))) = true then (some false) else (w11_CaretTells.l1 k x3 x4 x5 x6 (wrap64 (x7 + 1)) x436000 x436001 x436002 x436003)) else (some false))
def w11_CaretTells.l2 : Nat → List Int → Int → List (SOp) → Bool → List (SElem) → Int → List (List (SOp)) → List (SElem) → List (SOp) → List Int → Option (Bool)
 | 0,_,_,_,_,_,_,_,_,_,_ => none
 | k + 1,x3,x4,x5,x6,x14,x15,x436000,x436001,x436002,x436003 => if x15 < (x14.length : Int) then (if 0 ≤ x15 then ((caret_Place.f x5 ((Qaa x14 x15).f0) ((Qaa x14 x15).f1) ((Qaa x14 x15).f2)).bind fun bt468 => ((caret_Near.f x5 ((Qaa x14 x15).f0) ((Qaa x14 x15).f1) ((Qaa x14 x15).f2)).bind fun bt471 => (if x6 = true then (if (((Qaa x14 x15).f0) == 0 && (((Qaa x14 x15).f1) == 0 && (((Qaa x14 x15).f2) == 0))) = true then (w11_CaretTells.j6 k x3 x4 x5 x6 x14 x15 bt468.1 bt468.2 bt471.2.2.2 3 0 true x436000 x436001 x436002 x436003 bt471.1 bt471.2.1 bt471.2.2.1 0 0 0) else ((r4_Written.f k x5 ((Qaa x14 x15).f0) ((Qaa x14 x15).f1) ((Qaa x14 x15).f2)).bind fun t479 => (w11_CaretTells.j6 k x3 x4 x5 x6 x14 x15 bt468.1 bt468.2 bt471.2.2.2 3 0 t479 x436000 x436001 x436002 x436003 bt471.1 bt471.2.1 bt471.2.2.1 0 0 0))) else (w11_CaretTells.j7 k x3 x4 x5 x6 x14 x15 bt468.1 bt468.2 bt471.2.2.2 1 0 x436000 x436001 x436002 x436003 bt471.1 bt471.2.1 bt471.2.2.1 0 0 0)))) else (none)) else (if 0 ≤ x4 then (if x4 < (x436000.length : Int) then ((r0_EqOps.f k x5 (Qdc x436000 x4)).bind fun t489 => (if t489 = true then (w11_CaretTells.l0 k x3 (wrap64 (x4 + 1)) x436000 x436001 x436002 x436003) else (some false))) else (none)) else (none))
def w11_CaretTells.j7 : Nat → List Int → Int → List (SOp) → Bool → List (SElem) → Int → Int → Int → Int → Int → Int → List (List (SOp)) → List (SElem) → List (SOp) → List Int → Int → Int → Int → Int → Int → Int → Option (Bool)
 | 0,_,_,_,_,_,_,_,_,_,_,_,_,_,_,_,_,_,_,_,_,_ => none
 | k + 1,x3,x4,x5,x6,x14,x15,x16,x17,x19,x20,x21,x436000,x436001,x436002,x436003,x476000,x476001,x476002,x477000,x477001,x477002 => (w11_num.f x17).bind fun t486 => (if t486 = x20 then (if x16 = x21 then ((w11_num.f x19).bind fun t487 => (if t487 = x20 then (w11_CaretTells.j8 k x3 x4 x5 x6 x14 x15 (!(x476000 == x477000) || (!(x476001 == x477001) || (!(x476002 == x477002)))) x436000 x436001 x436002 x436003) else (w11_CaretTells.j8 k x3 x4 x5 x6 x14 x15 true x436000 x436001 x436002 x436003))) else (w11_CaretTells.j8 k x3 x4 x5 x6 x14 x15 true x436000 x436001 x436002 x436003)) else (w11_CaretTells.j8 k x3 x4 x5 x6 x14 x15 true x436000 x436001 x436002 x436003))
def w11_CaretTells.j8 : Nat → List Int → Int → List (SOp) → Bool → List (SElem) → Int → Bool → List (List (SOp)) → List (SElem) → List (SOp) → List Int → Option (Bool)
 | 0,_,_,_,_,_,_,_,_,_,_,_ => none
 | k + 1,x3,x4,x5,x6,x14,x15,x165,x436000,x436001,x436002,x436003 => if x165 = true then (some false) else (w11_CaretTells.l2 k x3 x4 x5 x6 x14 (wrap64 (x15 + 1)) x436000 x436001 x436002 x436003)
def w11_CaretTells.j6 : Nat → List Int → Int → List (SOp) → Bool → List (SElem) → Int → Int → Int → Int → Int → Int → Bool → List (List (SOp)) → List (SElem) → List (SOp) → List Int → Int → Int → Int → Int → Int → Int → Option (Bool)
 | 0,_,_,_,_,_,_,_,_,_,_,_,_,_,_,_,_,_,_,_,_,_,_ => none
 | k + 1,x3,x4,x5,x6,x14,x15,x16,x17,x19,x20,x21,x133,x436000,x436001,x436002,x436003,x476000,x476001,x476002,x477000,x477001,x477002 => if x133 = true then (if 0 ≤ x15 then (if x15 < (x14.length : Int) then ((r9_Place.f k x5 ((Qaa x14 x15).f0) ((Qaa x14 x15).f1) ((Qaa x14 x15).f2)).bind fun t481 => ((r9_Near.f k x5 ((Qaa x14 x15).f0) ((Qaa x14 x15).f1) ((Qaa x14 x15).f2)).bind fun bt483 => (w11_CaretTells.j7 k x3 x4 x5 x6 x14 x15 x16 x17 x19 0 t481 x436000 x436001 x436002 x436003 x476000 x476001 x476002 bt483.1 bt483.2.1 bt483.2.2))) else (none)) else (none)) else (w11_CaretTells.j7 k x3 x4 x5 x6 x14 x15 x16 x17 x19 x20 x21 x436000 x436001 x436002 x436003 x476000 x476001 x476002 x477000 x477001 x477002)
end
def w11_CaretTells.f (k : Nat) (l0_0 : List (List (SOp))) (l0_1 : List (SElem)) (l0_2 : List (SOp)) (l0_3 : List Int) : Option (Bool):=(w5_Heavy.f k l0_0 l0_1 l0_2 l0_3).bind fun t436 => (if t436 = true then (some true) else ((some (([0,1,2,5,(-1),999] : List Int) : List Int)).bind fun y437 => (if y437.length + l0_3.length < 17592186044416 then (w11_CaretTells.l0 k (y437 ++ l0_3) 0 l0_0 l0_1 l0_2 l0_3) else (none))))
def w11_CaretTells.T33 : Bool × List (List Nat × List Nat):=(true,[([],[]),([],[]),([],[]),([1,2],[1,2]),([3],[3]),([0,4],[0,4]),([],[]),([],[]),([],[]),([7,8],[7,8]),([9],[9]),([6,10,5],[6,10]),([11],[]),([5,12,0,1,2,3,4,5,12],[5]),([11,13,0,1,2,3,4,5,6,7,8,9,10,11,12,13],[11])])
def w11_CaretTells.B33 : List Nat:=[0,0,0,6,14,31,0,0,0,384,896,2047,4095,8191,16383]
theorem w11_CaretTells.tab33 : rtab .any (Qcy Tryz.f3 33) = w11_CaretTells.T33:=by kernel_rfl
theorem w11_CaretTells.bits33 : Qaw w11_CaretTells.T33.2 w11_CaretTells.B33 = true:=by kernel_rfl
theorem w11_CaretTells.calls (k : Nat) (A0_0 : Option Addr) (c0_0 : Nat) (l0_0 : List (List (SOp))) (A0_1 : Option Addr) (c0_1 : Nat) (l0_1 : List (SElem)) (A0_2 : Option Addr) (c0_2 : Nat) (l0_2 : List (SOp)) (A0_3 : Option Addr) (c0_3 : Nat) (l0_3 : List Int) (r : Bool) (w : World) (hr0_0 : Kd.C (Kd.slice 64 kOp) w A0_0 l0_0.length l0_0) (hc0_0 : l0_0.length ≤ c0_0) (hr0_1 : Kd.C Qar w A0_1 l0_1.length l0_1) (hc0_1 : l0_1.length ≤ c0_1) (hr0_2 : Kd.C kOp w A0_2 l0_2.length l0_2) (hc0_2 : l0_2.length ≤ c0_2) (hr0_3 : Kd.C (Kd.int .i64) w A0_3 l0_3.length l0_3) (hc0_3 : l0_3.length ≤ c0_3) (hT : GT w) (h : w11_CaretTells.f k l0_0 l0_1 l0_2 l0_3 = some r) :
  Calls Tryz.prog 3 #[.agg #[.slice A0_0 l0_0.length c0_0, .slice A0_1 l0_1.length c0_1, .slice A0_2 l0_2.length c0_2, .slice A0_3 l0_3.length c0_3]] w fun e w' => e = .returned (.bool r) ∧ Below w.heap.size w w':=by
 have hu27:=Tryz.underlying27
 have hu32:=Tryz.underlying32
 have HR0_0:=Aside0.mk hr0_0
 have HC0_0:=Aside0.mk hc0_0
 clear hr0_0 hc0_0
 have HR0_1:=Aside0.mk hr0_1
 have HC0_1:=Aside0.mk hc0_1
 clear hr0_1 hc0_1
 have HR0_2:=Aside0.mk hr0_2
 have HC0_2:=Aside0.mk hc0_2
 clear hr0_2 hc0_2
 have HR0_3:=Aside0.mk hr0_3
 have HC0_3:=Aside0.mk hc0_3
 clear hr0_3 hc0_3
 have HB:=Aside0.mk (Below.refl w.heap.size w)
 unfold w11_CaretTells.f at h; have H:=h
 clear h
 obtain ⟨t436,A2,H⟩:=bE H
 by_cases c3 : t436 = true
 ·subst c3
  rw [if_pos rfl] at H
  obtain rfl:=Option.some.inj H
  go_enter Tryz.func3,Tryz.ntmps3
  go_wp2_with (first | ((with_reducible refine Qae (N:=1) rfl ?_); refine bx 1 #[.slice A0_0 l0_0.length c0_0, .slice A0_1 l0_1.length c0_1, .slice A0_2 l0_2.length c0_2, .slice A0_3 l0_3.length c0_3] 27 (h := ?_); intro gb435 hg w4 hbox hb; have BK435:=Aside0.mk (hbox); have GW435:=bz HB hg; have GE435:=bz HB hg; replace HB:=bs HB hb; clear hb hbox hg; obtain ⟨_,_,_,_,_,_,_,_⟩:=kc4 BK435) | ((with_reducible refine Qac (f:=5) rfl ?_); refine gl (some 24) Tryz.func5 #[.agg #[.slice A0_0 l0_0.length c0_0, .slice A0_1 l0_1.length c0_1, .slice A0_2 l0_2.length c0_2, .slice A0_3 l0_3.length c0_3]] (h := ?_); (with_reducible refine (w5_Heavy.calls k _ _ l0_0 _ _ l0_1 _ _ l0_2 _ _ l0_3 true _ ?side1 ?side2 ?side3 ?side4 ?side5 ?side6 ?side7 ?side8 A2.out).mono ?_); (case side1 => exact cb HR0_0 HB); (case side2 => exact HC0_0.out); (case side3 => exact cb HR0_1 HB); (case side4 => exact HC0_1.out); (case side5 => exact cb HR0_2 HB); (case side6 => exact HC0_2.out); (case side7 => exact cb HR0_3 HB); (case side8 => exact HC0_3.out); rintro e w6 ⟨rfl,hb⟩; refine ⟨_,rfl, ?_⟩; replace BK435:=bl BK435 hb; replace HB:=bs HB hb; clear hb))
  go_ret
  exact ⟨re,bw HB⟩
 replace c3:=Bool.eq_false_iff.mpr c3
 subst c3
 rw [if_neg nft] at H
 obtain ⟨y437,hy437⟩ : ∃ y_ : List Int,y_ = (([0,1,2,5,(-1),999] : List Int)):=⟨_,rfl⟩
 first | rw [Option.bind_some,← hy437] at H | rw [← hy437] at H
 have Ny437:=Aside0.mk hy437
 clear hy437
 by_cases c7 : y437.length + l0_3.length < 17592186044416; rotate_left
 ·rw [if_neg c7] at H
  exact absurd H (by simp)
 rw [if_pos c7] at H
 have LMc7:=Aside0.mk c7
 clear c7
 obtain ⟨y440,hy440⟩ : ∃ y_ : List Int,y_ = (y437 ++ l0_3):=⟨_,rfl⟩
 first | rw [Option.bind_some,← hy440] at H | rw [← hy440] at H
 have Ny440:=Aside0.mk hy440
 clear hy440
 have H':=Aside0.mk H
 clear H
 go_enter Tryz.func3,Tryz.ntmps3
 go_wp2_with (first | ((with_reducible refine Qae (N:=1) rfl ?_); refine bx 1 #[.slice A0_0 l0_0.length c0_0, .slice A0_1 l0_1.length c0_1, .slice A0_2 l0_2.length c0_2, .slice A0_3 l0_3.length c0_3] 27 (h := ?_); intro gb435 hg w8 hbox hb; have BK435:=Aside0.mk (hbox); have GW435:=bz HB hg; have GE435:=bz HB hg; replace HB:=bs HB hb; clear hb hbox hg; obtain ⟨_,_,_,_,_,_,_,_⟩:=kc4 BK435) | ((with_reducible refine Qac (f:=5) rfl ?_); refine gl (some 24) Tryz.func5 #[.agg #[.slice A0_0 l0_0.length c0_0, .slice A0_1 l0_1.length c0_1, .slice A0_2 l0_2.length c0_2, .slice A0_3 l0_3.length c0_3]] (h := ?_); (with_reducible refine (w5_Heavy.calls k _ _ l0_0 _ _ l0_1 _ _ l0_2 _ _ l0_3 false _ ?side1 ?side2 ?side3 ?side4 ?side5 ?side6 ?side7 ?side8 A2.out).mono ?_); (case side1 => exact cb HR0_0 HB); (case side2 => exact HC0_0.out); (case side3 => exact cb HR0_1 HB); (case side4 => exact HC0_1.out); (case side5 => exact cb HR0_2 HB); (case side6 => exact HC0_2.out); (case side7 => exact cb HR0_3 HB); (case side8 => exact HC0_3.out); rintro e w10 ⟨rfl,hb⟩; refine ⟨_,rfl, ?_⟩; replace BK435:=bl BK435 hb; replace HB:=bs HB hb; clear hb) | ((with_reducible refine Qae (N:=25) rfl ?_); refine Kd.R_lit (Kd.int .i64) _ 3 ?hg (N:=25) ?hd (xs:=([0,1,2,5,(-1),999] : List Int)) (inner:=[.int .i64 0, .int .i64 1, .int .i64 2, .int .i64 5, .int .i64 (-1), .int .i64 999]) (ok:=fun _ => True) (okp:=fun _ => True) ?hr ?hp (fun _ hk => hk) trivial (Below.refl _ _) (Nat.le_refl _) (by simp) ?_; (case hd => rfl); (case hg => rfl); (case hr => first | (go_simp; done) | (go_simp; rfl)); (case hp => exact (Reps.one (show Kd.M (Kd.int .i64) _ _ _ 0 [.int .i64 0] from rfl) (Reps.one (show Kd.M (Kd.int .i64) _ _ _ 1 [.int .i64 1] from rfl) (Reps.one (show Kd.M (Kd.int .i64) _ _ _ 2 [.int .i64 2] from rfl) (Reps.one (show Kd.M (Kd.int .i64) _ _ _ 5 [.int .i64 5] from rfl) (Reps.one (show Kd.M (Kd.int .i64) _ _ _ (-1) [.int .i64 (-1)] from rfl) (Reps.one (show Kd.M (Kd.int .i64) _ _ _ 999 [.int .i64 999] from rfl) (Reps.none _ _)))))))); intro v438 w11 ho12 hb hg_ hnew_; clear hg_ hnew_; (first | rw [← Ny437.out] at ho12 | (simp only [Int.reduceToNat] at ho12; rw [← Ny437.out] at ho12)); have HO439:=Aside0.mk (Kd.R_lower ho12 (Qak (bw HB))); replace BK435:=bl BK435 hb; replace HB:=bs HB hb; clear hb ho12; obtain ⟨_,_,_,_,_,_,_,_⟩:=kc4 BK435) | ((with_reducible refine Qbv (b:=.append) (xs:=#[.tmp 25, .tmp 27]) rfl ?_); at_builtin; refine Kd.R_append_rows (Kd.int .i64) (w0:=w) w.heap.size rfl (.tmp 25) (.tmp 27) 25 3 (.int .i64 0) 8 rfl Tryz.underlying25 info3 rfl (by decide) (by omega) v438 y437 l0_3 _ _ _ (fun _ => True) (fun _ => False) rfl rfl ?aO ?aR (fun _ _ h => h) (fun _ h => h.elim) ?aF ?aB ?aS ?aL ?_; (case aR => exact cb HR0_3 HB); (case aB => exact (bw HB)); (case aF => exact (fun _ _ => trivial)); (case aO => exact (rk HO439)); (case aS => exact (Qak (bw HB))); (case aL => have:=LMc7.out; omega); intro v441 w14 ho hb hg hat; rw [← Ny440.out] at ho; have n0_:=Aside0.mk (Qci (kk BK435) hg (Kd.R_ne HO439.out BK435.out (by decide))); have n1_:=Aside0.mk (hb); have n2_:=Aside0.mk (ho); clear BK435; clear HB; clear HO439; have BK435:=n0_; have HB:=n1_; have HO442:=n2_; clear n0_ n1_ n2_; clear ho hb hg hat))
 go_loopg [4] k (fun kq v4 w' => ∃ (x4_1 : Int),v4 = .int .i64 x4_1 ∧ Aside0 (w11_CaretTells.l0 kq y440 x4_1 l0_0 l0_1 l0_2 l0_3 = some r) ∧ Aside0 (kq ≤ k) ∧ Aside0 (Kd.R (Kd.int .i64) 3 w' w.heap.size (fun _ => True) v441 y440) ∧ Aside0 (w'.heap[gb435]? = some (.cells #[(.slice A0_0 l0_0.length c0_0),(.slice A0_1 l0_1.length c0_1),(.slice A0_2 l0_2.length c0_2),(.slice A0_3 l0_3.length c0_3)] 27 (0,0))) ∧ Aside0 (Below w.heap.size w w'))
 case atStart => exact ⟨(0),rf,H',⟨Nat.le_refl _⟩,⟨rk HO442⟩,⟨kk BK435⟩,⟨bw HB⟩⟩
 case round =>
  clear H'
  try clear c3
  obtain ⟨x4_1,rfl,HA,HK1,HO_3,BK435,HB⟩:=hrel
  cases gk with
  | zero => exact absurd HA.out (by simp [w11_CaretTells.l0])
  | succ k1 =>
   have H:=HA.out
   clear HA
   simp only [w11_CaretTells.l0] at H
   have HC15:=Aside0.mk H
   clear H
   go_upto_region 5 with (fail)
   go_cut [37] (fun v37 wc => ∃ (kq : Nat) (x37_14 : Bool),v37 = .bool x37_14 ∧ Aside0 (w11_CaretTells.j1 kq y440 x4_1 x37_14 l0_0 l0_1 l0_2 l0_3 = some r) ∧ Aside0 (kq ≤ k1) ∧ Aside0 (Kd.R (Kd.int .i64) 3 wc w.heap.size (fun _ => True) v441 y440) ∧ Aside0 (wc.heap[gb435]? = some (.cells #[(.slice A0_0 l0_0.length c0_0),(.slice A0_1 l0_1.length c0_1),(.slice A0_2 l0_2.length c0_2),(.slice A0_3 l0_3.length c0_3)] 27 (0,0))) ∧ Aside0 (Below w.heap.size w wc))
   case first =>
    have H:=HC15.out
    clear HC15
    by_cases c16 : x4_1 < (l0_0.length : Int)
    ·rw [if_pos c16] at H
     have c16b0:=decide_eq_true c16
     clear c16
     (first | rw [c16b0] | (simp only [Qax,Qbc]; rw [c16b0]) | skip)
     have H':=Aside0.mk H
     clear H
     obtain ⟨_,_,_,_,_,_,_,_⟩:=kc4 BK435
     go_wp2
     go_meet
     case rel => exact ⟨_,(decide (x4_1 < 4)),rf,H',⟨by have:=HK1.out; first | omega | exact Nat.le_refl _⟩,⟨rk HO_3⟩,⟨kk BK435⟩,⟨bw HB⟩⟩
    rw [if_neg c16] at H
    have c16b0:=decide_eq_false c16
    clear c16
    (first | rw [c16b0] | (simp only [Qax,Qbc]; rw [c16b0]) | skip)
    have H':=Aside0.mk H
    clear H
    obtain ⟨_,_,_,_,_,_,_,_⟩:=kc4 BK435
    go_wp2
    go_meet
    case rel => exact ⟨_,(false),rf,H',⟨by have:=HK1.out; first | omega | exact Nat.le_refl _⟩,⟨rk HO_3⟩,⟨kk BK435⟩,⟨bw HB⟩⟩
   case rest =>
    clear HC15
    obtain ⟨kq,x37_14,rfl,HA,HJ14,HO_3,BK435,HB⟩:=hcut
    cases kq with
    | zero => exact absurd HA.out (by simp [w11_CaretTells.j1])
    | succ kj14 =>
     have H:=HA.out
     clear HA
     simp only [w11_CaretTells.j1] at H
     by_cases c19 : x37_14 = true; rotate_left
     ·replace c19:=Bool.eq_false_iff.mpr c19
      subst c19
      rw [if_neg nft] at H
      obtain ⟨t443,A131,H⟩:=bE H
      obtain rfl:=Option.some.inj H
      go_wp2_with (first | ((with_reducible refine Qac (f:=18) rfl ?_); refine gl (some 174) Tryz.func18 #[] (h := ?_); (with_reducible refine (w11_wakes.calls kj14  t443 _ A131.out).mono ?_); rintro e w132 ⟨rfl,hb⟩; refine ⟨_,rfl, ?_⟩; replace HO_3:=rb HO_3 hb; replace BK435:=bl BK435 hb; replace HB:=bs HB hb; clear hb))
      go_ret
      exact ⟨re,bw HB⟩
     subst c19
     rw [if_pos rfl] at H
     by_cases c20 : 0 ≤ x4_1; rotate_left
     ·rw [if_neg c20] at H
      exact absurd H (by simp)
     rw [if_pos c20] at H
     have c20b0:=decide_eq_true c20
     clear c20
     by_cases c21 : x4_1 < (l0_0.length : Int); rotate_left
     ·rw [if_neg c21] at H
      exact absurd H (by simp)
     rw [if_pos c21] at H
     have c21b0:=decide_eq_true c21
     clear c21
     obtain ⟨t445,A22,H⟩:=bE H
     obtain ⟨t449,A23,H⟩:=bE H
     have H':=Aside0.mk H
     clear H
     obtain ⟨_,_,_,_,_,_,_,_⟩:=kc4 BK435
     have p444 : 0 ≤ (x4_1 : Int):=od
     have q444 : x4_1 < (l0_0.length : Int):=od
     obtain ⟨ad444,A444_0,c444_0,e444,hx444_0,hl444_0,hi444_0⟩:=at_LOp HR0_0.out x4_1 p444 q444
     cases e444
     replace hx444_0:=cl HB hx444_0
     have HR444_0:=Aside0.mk hi444_0
     have HC444_0:=Aside0.mk hl444_0
     clear hi444_0 hl444_0
     replace p444:=eq_true p444
     replace q444:=eq_true q444
     go_wp2_with (first | ((with_reducible refine Qac (f:=6) rfl ?_); refine gl (some 45) Tryz.func6 #[.slice A444_0 (Qdc l0_0 x4_1).length c444_0] (h := ?_); (with_reducible refine (r0_CopyOps.calls kj14 _ _ (Qdc l0_0 x4_1) t445 _ ?side1 ?side2 A22.out).mono ?_); (case side1 => exact cb HR444_0 HB); (case side2 => exact HC444_0.out); rintro e w25 ⟨v446,rfl,ho0,hb⟩; refine ⟨_,rfl, ?_⟩; have HO447:=Aside0.mk (Kd.S_lower ho0 (Qak (bw HB))); replace HO_3:=rb HO_3 hb; replace BK435:=bl BK435 hb; replace HB:=bs HB hb; clear hb; clear ho0; obtain ⟨_,_,_,_,_,_,_,_⟩:=kc4 BK435; have p448 : 0 ≤ (x4_1 : Int):=od; have q448 : x4_1 < (l0_0.length : Int):=od; obtain ⟨ad448,A448_0,c448_0,e448,hx448_0,hl448_0,hi448_0⟩:=at_LOp HR0_0.out x4_1 p448 q448; obtain rfl : ad444 = ad448:=(by injection e448); replace hx448_0:=cl HB hx448_0; have HR448_0:=Aside0.mk hi448_0; have HC448_0:=Aside0.mk hl448_0; clear hi448_0 hl448_0; replace p448:=eq_true p448; replace q448:=eq_true q448) | ((with_reducible refine Qac (f:=7) rfl ?_); refine gl (some 51) Tryz.func7 #[.slice A448_0 (Qdc l0_0 x4_1).length c448_0] (h := ?_); (with_reducible refine (r4_Row.calls kj14 _ _ (Qdc l0_0 x4_1) t449 _ ?side1 ?side2 ?side3 A23.out).mono ?_); (case side1 => exact cb HR448_0 HB); (case side2 => exact HC448_0.out); (case side3 => exact (hT.below (bw HB))); rintro e w27 ⟨rfl,hb⟩; refine ⟨_,rfl, ?_⟩; replace HO_3:=rb HO_3 hb; replace HO447:=sb HO447 hb; replace BK435:=bl BK435 hb; replace HB:=bs HB hb; clear hb))
     go_loopg [7] kj14 (fun kq v7 w' => ∃ (x7_3 : Int),v7 = .int .i64 x7_3 ∧ Aside0 (w11_CaretTells.l1 kq y440 x4_1 t445 t449 x7_3 l0_0 l0_1 l0_2 l0_3 = some r) ∧ Aside0 (kq ≤ kj14) ∧ Aside0 (Kd.R (Kd.int .i64) 3 w' w.heap.size (fun _ => True) v441 y440) ∧ Aside0 (Kd.S kOp 64 w' w.heap.size (fun _ => True) v446 t445) ∧ Aside0 (w'.heap[gb435]? = some (.cells #[(.slice (some ad444) l0_0.length c0_0),(.slice A0_1 l0_1.length c0_1),(.slice A0_2 l0_2.length c0_2),(.slice A0_3 l0_3.length c0_3)] 27 (0,0))) ∧ Aside0 (Below w.heap.size w w'))
     case atStart => exact ⟨(0),rf,H',⟨Nat.le_refl _⟩,⟨rk HO_3⟩,⟨sk HO447⟩,⟨kk BK435⟩,⟨bw HB⟩⟩
     case round =>
      clear H'
      try clear c19; try clear c20b0; try clear c21b0; try clear hx444_0; try clear hx448_0; try clear p444; try clear p448; try clear q444; try clear q448
      obtain ⟨x7_3,rfl,HA,HK3,HO_3,HO_5,BK435,HB⟩:=hrel
      cases gk with
      | zero => exact absurd HA.out (by simp [w11_CaretTells.l1])
      | succ k3 =>
       have H:=HA.out
       clear HA
       simp only [w11_CaretTells.l1] at H
       have HC28:=Aside0.mk H
       clear H
       go_upto_region 10 with (fail)
       go_cut [59] (fun v59 wc => ∃ (kq : Nat) (x59_27 : Bool),v59 = .bool x59_27 ∧ Aside0 (w11_CaretTells.j3 kq y440 x4_1 t445 t449 x7_3 x59_27 l0_0 l0_1 l0_2 l0_3 = some r) ∧ Aside0 (kq ≤ k3) ∧ Aside0 (Kd.R (Kd.int .i64) 3 wc w.heap.size (fun _ => True) v441 y440) ∧ Aside0 (Kd.S kOp 64 wc w.heap.size (fun _ => True) v446 t445) ∧ Aside0 (wc.heap[gb435]? = some (.cells #[(.slice (some ad444) l0_0.length c0_0),(.slice A0_1 l0_1.length c0_1),(.slice A0_2 l0_2.length c0_2),(.slice A0_3 l0_3.length c0_3)] 27 (0,0))) ∧ Aside0 (Below w.heap.size w wc))
       case first =>
        have H:=HC28.out
        clear HC28
        by_cases c29 : x7_3 < (y440.length : Int)
        ·rw [if_pos c29] at H
         have c29b0:=decide_eq_true c29
         clear c29
         (first | rw [c29b0] | (simp only [Qax,Qbc]; rw [c29b0]) | skip)
         have H':=Aside0.mk H
         clear H
         obtain ⟨Ao30,co30,eo30⟩:=Kd.R_slice HO_3.out
         subst eo30
         go_wp2
         go_meet
         case rel => exact ⟨_,(decide (x7_3 < 12)),rf,H',⟨by have:=HK1.out; have:=HJ14.out; have:=HK3.out; first | omega | exact Nat.le_refl _⟩,⟨rk HO_3⟩,⟨sk HO_5⟩,⟨kk BK435⟩,⟨bw HB⟩⟩
        rw [if_neg c29] at H
        have c29b0:=decide_eq_false c29
        clear c29
        (first | rw [c29b0] | (simp only [Qax,Qbc]; rw [c29b0]) | skip)
        have H':=Aside0.mk H
        clear H
        obtain ⟨Ao31,co31,eo31⟩:=Kd.R_slice HO_3.out
        subst eo31
        go_wp2
        go_meet
        case rel => exact ⟨_,(false),rf,H',⟨by have:=HK1.out; have:=HJ14.out; have:=HK3.out; first | omega | exact Nat.le_refl _⟩,⟨rk HO_3⟩,⟨sk HO_5⟩,⟨kk BK435⟩,⟨bw HB⟩⟩
       case rest =>
        clear HC28
        obtain ⟨kq,x59_27,rfl,HA,HJ27,HO_3,HO_5,BK435,HB⟩:=hcut
        cases kq with
        | zero => exact absurd HA.out (by simp [w11_CaretTells.j3])
        | succ kj27 =>
         have H:=HA.out
         clear HA
         simp only [w11_CaretTells.j3] at H
         by_cases c32 : x59_27 = true
         ·subst c32
          rw [if_pos rfl] at H
          by_cases c33 : 0 ≤ x7_3; rotate_left
          ·rw [if_neg c33] at H
           exact absurd H (by simp)
          rw [if_pos c33] at H
          have c33b0:=decide_eq_true c33
          clear c33
          by_cases c34 : x7_3 < (y440.length : Int); rotate_left
          ·rw [if_neg c34] at H
           exact absurd H (by simp)
          rw [if_pos c34] at H
          have c34b0:=decide_eq_true c34
          clear c34
          obtain ⟨⟨t451,t452,t453,t454⟩,A35,H⟩:=bE H
          try dsimp only at H
          have HC36:=Aside0.mk H
          clear H
          obtain ⟨Ao37,co37,eo37⟩:=Kd.R_slice HO_3.out
          subst eo37
          have p450 : 0 ≤ (x7_3 : Int):=od
          have q450 : x7_3 < (y440.length : Int):=od
          obtain ⟨ad450,e450,hx450_0⟩:=Kd.at_int (Kd.R_reads' HO_3.out).2.2 x7_3 p450 q450
          cases e450
          replace p450:=eq_true p450
          replace q450:=eq_true q450
          obtain ⟨Ao38,co38,eo38⟩:=Kd.S_slice HO_5.out
          subst eo38
          go_upto_if 71 with (first | ((with_reducible refine Qac (f:=8) rfl ?_); refine gl (some 68) Tryz.func8 #[.slice Ao38 t445.length co38, .int .i64 (rd y440 x7_3)] (h := ?_); (with_reducible refine (caret_Set.calls kj27 _ _ t445 (rd y440 x7_3) t451 t452 t453 t454 _ ?side1 ?side2 A35.out).mono ?_); (case side1 => exact cs HO_5); (case side2 => exact (Kd.S_reads' HO_5.out).2.1); rintro e w39 ⟨rfl,hb⟩; refine ⟨_,rfl, ?_⟩; replace HO_3:=rb HO_3 hb; replace HO_5:=sb HO_5 hb; replace BK435:=bl BK435 hb; replace HB:=bs HB hb; clear hb) | ((with_reducible refine Qae (N:=8) rfl ?_); refine bx 8 #[.int .i64 0, .int .i64 0, .int .i64 0] 32 (h := ?_); intro gb455 hg w40 hbox hb; have BK455:=Aside0.mk (hbox); have GW455:=bz HB hg; have GE455:=bz HB hg; have NB435_455:=bn BK435 hg; have NB455_435:=bm BK435 hg; replace HO_3:=rb HO_3 hb; replace HO_5:=Aside0.mk (Kd.S_below (Kd.S_elderB (sk HO_5) gb455 (Nat.le_of_eq hg.symm)) hb); replace BK435:=bl BK435 hb; replace HB:=bs HB hb; clear hb hbox hg; have hnb41:=NB455_435.out; have hnc41:=NB435_455.out; obtain ⟨_,_,_,_,_,_⟩:=kc3 BK455) | ((with_reducible refine Qae (N:=11) rfl ?_); refine bx 11 #[.int .i64 0, .int .i64 0, .int .i64 0] 32 (h := ?_); intro gb456 hg w43 hbox hb; have BK456:=Aside0.mk (hbox); have GW456:=bz HB hg; have GE456:=bz HB hg; have NB435_456:=bn BK435 hg; have NB456_435:=bm BK435 hg; have NB455_456:=Aside0.mk ((by rw [hg]; exact Nat.ne_of_lt (blk_lt (g:=gb455) (o:=.cells #[.int .i64 t451, .int .i64 t452, .int .i64 t453] 32 (0,0)) (bp (bp (bp (kk BK455) 0) 1) 2)) : gb455 ≠ gb456)); have NB456_455:=Aside0.mk ((by rw [hg]; exact Nat.ne_of_gt (blk_lt (g:=gb455) (o:=.cells #[.int .i64 t451, .int .i64 t452, .int .i64 t453] 32 (0,0)) (bp (bp (bp (kk BK455) 0) 1) 2)) : gb456 ≠ gb455)); replace HO_3:=Aside0.mk (Kd.R_below (by (with_reducible repeat (first | apply Kd.R_alloc | apply Kd.R_drewN | apply Kd.R_drew)); exact (Kd.R_mono (Kd.R_far (p:=⟨gb455,2,none⟩) (Kd.R_far (p:=⟨gb455,1,none⟩) (Kd.R_far (p:=⟨gb455,0,none⟩) (Kd.R_types HO_3.out BK455.out (by decide)) (fun _ hk => hk.2) (.int .i64 t451)) (fun _ hk => hk.2) (.int .i64 t452)) (fun _ hk => hk.2) (.int .i64 t453)) (fun _ h_ => h_.1))) hb); replace HO_5:=Aside0.mk (Kd.S_below (Kd.S_elderB (by (with_reducible repeat (first | apply Kd.S_alloc | apply Kd.S_drewN | apply Kd.S_drew)); exact (Kd.S_mono (Kd.S_far (p:=⟨gb455,2,none⟩) (Kd.S_far (p:=⟨gb455,1,none⟩) (Kd.S_far (p:=⟨gb455,0,none⟩) (Kd.S_mono HO_5.out (fun k_ hk => (⟨hk,hk.2⟩ : _ ∧ k_ ≠ gb455))) (fun _ hk => hk.2) (.int .i64 t451)) (fun _ hk => hk.2) (.int .i64 t452)) (fun _ hk => hk.2) (.int .i64 t453)) (fun _ h_ => h_.1))) gb456 (Nat.le_of_eq hg.symm)) hb); replace BK435:=bl BK435 hb; replace BK455:=Aside0.mk (Qbs (g:=gb455) (o:=.cells #[.int .i64 t451, .int .i64 t452, .int .i64 t453] 32 (0,0)) (bp (bp (bp (kk BK455) 0) 1) 2) hb); replace HB:=bs HB hb; clear hb hbox hg))
          (try simp only [Act.put,List.setIfInBounds_toArray,List.set_cons_zero,List.set_cons_succ])
          go_cut [10] (fun v10 wc => ∃ (kq : Nat) (x10_35 : Int) (x457000_35 : Int) (x457001_35 : Int) (x457002_35 : Int),v10 = .int .i64 x10_35 ∧ Aside0 (w11_CaretTells.j4 kq y440 x4_1 t445 t449 x7_3 t454 x10_35 l0_0 l0_1 l0_2 l0_3 t451 t452 t453 x457000_35 x457001_35 x457002_35 = some r) ∧ Aside0 (kq ≤ kj27) ∧ Aside0 (Kd.R (Kd.int .i64) 3 wc w.heap.size (fun _ => True) (.slice (some ad450) y440.length co37) y440) ∧ Aside0 (Kd.S kOp 64 wc w.heap.size (fun k_ => k_ ≠ gb455 ∧ k_ ≠ gb456) (.slice Ao38 t445.length co38) t445) ∧ Aside0 (wc.heap[gb435]? = some (.cells #[(.slice (some ad444) l0_0.length c0_0),(.slice A0_1 l0_1.length c0_1),(.slice A0_2 l0_2.length c0_2),(.slice A0_3 l0_3.length c0_3)] 27 (0,0))) ∧ Aside0 (wc.heap[gb455]? = some (.cells #[.int .i64 t451, .int .i64 t452, .int .i64 t453] 32 (0,0))) ∧ Aside0 (wc.heap[gb456]? = some (.cells #[.int .i64 x457000_35, .int .i64 x457001_35, .int .i64 x457002_35] 32 (0,0))) ∧ Aside0 (Below w.heap.size w wc))
          case first =>
           have H:=HC36.out
           clear HC36
           by_cases c44 : t449 = true; rotate_left
           ·replace c44:=Bool.eq_false_iff.mpr c44
            subst c44
            rw [if_neg nft] at H
            have H':=Aside0.mk H
            clear H
            go_wp2
            go_meet
            case rel => exact ⟨_,(1),(0),(0),(0),rf,H',⟨by have:=HK1.out; have:=HJ14.out; have:=HK3.out; have:=HJ27.out; first | omega | exact Nat.le_refl _⟩,⟨rk HO_3⟩,⟨by (with_reducible repeat (first | apply Kd.S_alloc | apply Kd.S_drewN | apply Kd.S_drew)); exact Kd.S_mono HO_5.out (fun _ hk => ⟨hk.1.2,hk.2⟩)⟩,⟨kk BK435⟩,⟨kk BK455⟩,⟨kk BK456⟩,⟨bw HB⟩⟩
           subst c44
           rw [if_pos rfl] at H
           obtain ⟨⟨t458,t459,t460,t461⟩,A45,H⟩:=bE H
           try dsimp only at H
           by_cases c46 : t461 = true; rotate_left
           ·replace c46:=Bool.eq_false_iff.mpr c46
            subst c46
            rw [if_neg nft] at H
            have H':=Aside0.mk H
            clear H
            have p457 : 0 ≤ (x7_3 : Int):=od
            have q457 : x7_3 < (y440.length : Int):=od
            obtain ⟨ad457,e457,hx457_0⟩:=Kd.at_int (Kd.R_reads' HO_3.out).2.2 x7_3 p457 q457
            obtain rfl : ad450 = ad457:=(by injection e457)
            replace p457:=eq_true p457
            replace q457:=eq_true q457
            go_wp2_with (first | ((with_reducible refine Qac (f:=9) rfl ?_); refine gl (some 78) Tryz.func9 #[.slice Ao38 t445.length co38, .int .i64 (rd y440 x7_3)] (h := ?_); (with_reducible refine (r9_Set.calls kj27 _ _ t445 (rd y440 x7_3) t458 t459 t460 false _ ?side1 ?side2 ?side3 A45.out).mono ?_); (case side1 => exact cs HO_5); (case side2 => exact (Kd.S_reads' HO_5.out).2.1); (case side3 => exact (hT.below (bw HB))); rintro e w58 ⟨rfl,hb⟩; refine ⟨_,rfl, ?_⟩; replace HO_3:=rb HO_3 hb; replace HO_5:=sb HO_5 hb; replace BK435:=bl BK435 hb; replace BK455:=bl BK455 hb; replace BK456:=bl BK456 hb; replace HB:=bs HB hb; clear hb) | ((with_reducible refine Qae (N:=12) rfl ?_); refine bx 12 #[.int .i64 0, .int .i64 0, .int .i64 0] 32 (h := ?_); intro gb462 hg w59 hbox hb; have BK462:=Aside0.mk (hbox); have GW462:=bz HB hg; have GE462:=bz HB hg; have NB435_462:=bn BK435 hg; have NB462_435:=bm BK435 hg; have NB455_462:=bn BK455 hg; have NB462_455:=bm BK455 hg; have NB456_462:=bn BK456 hg; have NB462_456:=bm BK456 hg; replace HO_3:=rb HO_3 hb; replace HO_5:=Aside0.mk (Kd.S_below (Kd.S_elderB (sk HO_5) gb462 (Nat.le_of_eq hg.symm)) hb); replace BK435:=bl BK435 hb; replace BK455:=bl BK455 hb; replace BK456:=bl BK456 hb; replace HB:=bs HB hb; clear hb hbox hg; have hnb60:=NB462_435.out; have hnc60:=NB435_462.out; have hnb61:=NB462_455.out; have hnc61:=NB455_462.out; have hnb62:=NB462_456.out; have hnc62:=NB456_462.out; obtain ⟨_,_,_,_,_,_⟩:=kc3 BK462))
            go_meet
            case rel => exact ⟨_,(2),(0),(0),(0),rf,H',⟨by have:=HK1.out; have:=HJ14.out; have:=HK3.out; have:=HJ27.out; first | omega | exact Nat.le_refl _⟩,⟨by (with_reducible repeat (first | apply Kd.R_alloc | apply Kd.R_drewN | apply Kd.R_drew)); exact Kd.R_mono (Kd.R_far (p:=⟨gb462,2,none⟩) (Kd.R_far (p:=⟨gb462,1,none⟩) (Kd.R_far (p:=⟨gb462,0,none⟩) (Kd.R_types HO_3.out BK462.out (by decide)) (fun _ hk => hk.2) (.int .i64 t458)) (fun _ hk => hk.2) (.int .i64 t459)) (fun _ hk => hk.2) (.int .i64 t460)) (fun _ hk => trivial)⟩,⟨by (with_reducible repeat (first | apply Kd.S_alloc | apply Kd.S_drewN | apply Kd.S_drew)); exact Kd.S_mono (Kd.S_far (p:=⟨gb462,2,none⟩) (Kd.S_far (p:=⟨gb462,1,none⟩) (Kd.S_far (p:=⟨gb462,0,none⟩) (Kd.S_mono HO_5.out (fun k_ hk => (⟨hk,hk.2⟩ : _ ∧ k_ ≠ gb462))) (fun _ hk => hk.2) (.int .i64 t458)) (fun _ hk => hk.2) (.int .i64 t459)) (fun _ hk => hk.2) (.int .i64 t460)) (fun _ hk => ⟨hk.1.1.1.2,hk.1.1.2⟩)⟩,⟨kk BK435⟩,⟨kk BK455⟩,⟨kk BK456⟩,⟨bw HB⟩⟩
           subst c46
           rw [if_pos rfl] at H
           have H':=Aside0.mk H
           clear H
           have p457 : 0 ≤ (x7_3 : Int):=od
           have q457 : x7_3 < (y440.length : Int):=od
           obtain ⟨ad457,e457,hx457_0⟩:=Kd.at_int (Kd.R_reads' HO_3.out).2.2 x7_3 p457 q457
           obtain rfl : ad450 = ad457:=(by injection e457)
           replace p457:=eq_true p457
           replace q457:=eq_true q457
           try go_wp2_with (first | ((with_reducible refine Qac (f:=9) rfl ?_); refine gl (some 78) Tryz.func9 #[.slice Ao38 t445.length co38, .int .i64 (rd y440 x7_3)] (h := ?_); (with_reducible refine (r9_Set.calls kj27 _ _ t445 (rd y440 x7_3) t458 t459 t460 true _ ?side1 ?side2 ?side3 A45.out).mono ?_); (case side1 => exact cs HO_5); (case side2 => exact (Kd.S_reads' HO_5.out).2.1); (case side3 => exact (hT.below (bw HB))); rintro e w47 ⟨rfl,hb⟩; refine ⟨_,rfl, ?_⟩; replace HO_3:=rb HO_3 hb; replace HO_5:=sb HO_5 hb; replace BK435:=bl BK435 hb; replace BK455:=bl BK455 hb; replace BK456:=bl BK456 hb; replace HB:=bs HB hb; clear hb) | ((with_reducible refine Qae (N:=12) rfl ?_); refine bx 12 #[.int .i64 0, .int .i64 0, .int .i64 0] 32 (h := ?_); intro gb462 hg w48 hbox hb; have BK462:=Aside0.mk (hbox); have GW462:=bz HB hg; have GE462:=bz HB hg; have NB435_462:=bn BK435 hg; have NB462_435:=bm BK435 hg; have NB455_462:=bn BK455 hg; have NB462_455:=bm BK455 hg; have NB456_462:=bn BK456 hg; have NB462_456:=bm BK456 hg; replace HO_3:=rb HO_3 hb; replace HO_5:=Aside0.mk (Kd.S_below (Kd.S_elderB (sk HO_5) gb462 (Nat.le_of_eq hg.symm)) hb); replace BK435:=bl BK435 hb; replace BK455:=bl BK455 hb; replace BK456:=bl BK456 hb; replace HB:=bs HB hb; clear hb hbox hg; have hnb49:=NB462_435.out; have hnc49:=NB435_462.out; have hnb50:=NB462_455.out; have hnc50:=NB455_462.out; have hnb51:=NB462_456.out; have hnc51:=NB456_462.out; obtain ⟨_,_,_,_,_,_⟩:=kc3 BK462))
           generalize hgz : (((w48.setCell ⟨gb462,0,none⟩ (.int .i64 t458)).setCell ⟨gb462,1,none⟩ (.int .i64 t459)).setCell ⟨gb462,2,none⟩ (.int .i64 t460)) = w53
           have n0_ : Aside0 (Kd.R (Kd.int .i64) 3 w53 w.heap.size (fun _ => True) (.slice (some ad450) y440.length co37) y440):=by rw [← hgz]; exact ⟨by (with_reducible repeat (first | apply Kd.R_alloc | apply Kd.R_drewN | apply Kd.R_drew)); exact Kd.R_mono (Kd.R_far (p:=⟨gb462,2,none⟩) (Kd.R_far (p:=⟨gb462,1,none⟩) (Kd.R_far (p:=⟨gb462,0,none⟩) (Kd.R_types HO_3.out BK462.out (by decide)) (fun _ hk => hk.2) (.int .i64 t458)) (fun _ hk => hk.2) (.int .i64 t459)) (fun _ hk => hk.2) (.int .i64 t460)) (fun _ hk => trivial)⟩
           have n1_ : Aside0 (Kd.S kOp 64 w53 w.heap.size (fun k_ => k_ ≠ gb455 ∧ k_ ≠ gb456 ∧ k_ ≠ gb462) (.slice Ao38 t445.length co38) t445):=by rw [← hgz]; exact ⟨by (with_reducible repeat (first | apply Kd.S_alloc | apply Kd.S_drewN | apply Kd.S_drew)); exact Kd.S_mono (Kd.S_far (p:=⟨gb462,2,none⟩) (Kd.S_far (p:=⟨gb462,1,none⟩) (Kd.S_far (p:=⟨gb462,0,none⟩) (Kd.S_mono HO_5.out (fun k_ hk => (⟨hk,hk.2⟩ : _ ∧ k_ ≠ gb462))) (fun _ hk => hk.2) (.int .i64 t458)) (fun _ hk => hk.2) (.int .i64 t459)) (fun _ hk => hk.2) (.int .i64 t460)) (fun _ hk => ⟨hk.1.1.1.2,⟨hk.1.1.2,hk.1.2⟩⟩)⟩
           have n2_ : Aside0 (w53.heap[gb435]? = some (.cells #[.slice (some ad444) l0_0.length c0_0, .slice A0_1 l0_1.length c0_1, .slice A0_2 l0_2.length c0_2, .slice A0_3 l0_3.length c0_3] 27 (0,0))):=by rw [← hgz]; exact ⟨kk BK435⟩
           have n3_ : Aside0 (w53.heap[gb455]? = some (.cells #[.int .i64 t451, .int .i64 t452, .int .i64 t453] 32 (0,0))):=by rw [← hgz]; exact ⟨kk BK455⟩
           have n4_ : Aside0 (w53.heap[gb456]? = some (.cells #[.int .i64 0, .int .i64 0, .int .i64 0] 32 (0,0))):=by rw [← hgz]; exact ⟨kk BK456⟩
           have n5_ : Aside0 (w53.heap[gb462]? = some (.cells #[.int .i64 t458, .int .i64 t459, .int .i64 t460] 32 (0,0))):=by rw [← hgz]; exact ⟨bp (bp (bp (kk BK462) 0) 1) 2⟩
           have n6_ : Aside0 (Below w.heap.size w w53):=by rw [← hgz]; exact ⟨bw HB⟩
           (try clear HO_3)
           (try clear HO_5)
           (try clear BK435)
           (try clear BK455)
           (try clear BK456)
           (try clear BK462)
           (try clear HB)
           clear hgz
           have HO_3:=n0_
           have HO_5:=n1_
           have BK435:=n2_
           have BK455:=n3_
           have BK456:=n4_
           have BK462:=n5_
           have HB:=n6_
           clear n0_ n1_ n2_ n3_ n4_ n5_ n6_
           have n0_:=Aside0.mk (Kd.R_drew HO_3.out)
           have n1_:=Aside0.mk (Kd.S_drew HO_5.out)
           have n2_:=Aside0.mk (Qam BK435.out)
           have n3_:=Aside0.mk (Qam BK455.out)
           have n4_:=Aside0.mk (Qam BK456.out)
           have n5_:=Aside0.mk (Qam BK462.out)
           have n6_:=Aside0.mk (Qaf HB.out)
           clear HO_3
           clear HO_5
           clear BK435
           clear BK455
           clear BK456
           clear BK462
           clear HB
           have HO_3:=n0_
           have HO_5:=n1_
           have BK435:=n2_
           have BK455:=n3_
           have BK456:=n4_
           have BK462:=n5_
           have HB:=n6_
           clear n0_ n1_ n2_ n3_ n4_ n5_ n6_
           refine stP (fun w' => E3 w' gb462 (.int .i64 t458) (.int .i64 t459) (.int .i64 t460)) 3 (e3 BK462) (h:=fun hHeld => ?_)
           generalize w53.drew = w54 at HO_3 HO_5 BK435 BK455 BK456 BK462 HB hHeld ⊢
           refine pu0 1 10 2 (h := ?_)
           refine tk0 hHeld 0 82 3 (h := ?_)
           refine on0 2 none 7 (h:=fun K hK => ?_)
           have hs55 : w54.cell? ⟨gb456,0,none⟩ = some (.int .i64 0):=bc BK456 0
           have hfs55:=bf BK456 0
           have hns55_0:=NB435_456.out
           have hns55_1:=NB455_456.out
           have hns55_3:=NB462_456.out
           have hms55_0:=NB456_435.out
           have hms55_1:=NB456_455.out
           have hms55_3:=NB456_462.out
           have hs56 : w54.cell? ⟨gb456,1,none⟩ = some (.int .i64 0):=bc BK456 1
           have hfs56:=bf BK456 1
           have hns56_0:=NB435_456.out
           have hns56_1:=NB455_456.out
           have hns56_3:=NB462_456.out
           have hms56_0:=NB456_435.out
           have hms56_1:=NB456_455.out
           have hms56_3:=NB456_462.out
           have hs57 : w54.cell? ⟨gb456,2,none⟩ = some (.int .i64 0):=bc BK456 2
           have hfs57:=bf BK456 2
           have hns57_0:=NB435_456.out
           have hns57_1:=NB455_456.out
           have hns57_3:=NB462_456.out
           have hms57_0:=NB456_435.out
           have hms57_1:=NB456_455.out
           have hms57_3:=NB456_462.out
           refine skip_ (w1 := ?_) (by rfl) rfl ?_ ?_
           rotate_left
           ·go_simp
            rfl
           refine hK.out _ _ ⟨((cell_far (p:=⟨gb456,_,none⟩) NB462_456.out _).trans (((cell_far (p:=⟨gb456,_,none⟩) NB462_456.out _).trans (((cell_far (p:=⟨gb456,_,none⟩) NB462_456.out _).trans (hHeld.1)))))),((cell_far (p:=⟨gb456,_,none⟩) NB462_456.out _).trans (((cell_far (p:=⟨gb456,_,none⟩) NB462_456.out _).trans (((cell_far (p:=⟨gb456,_,none⟩) NB462_456.out _).trans (hHeld.2.1)))))),((cell_far (p:=⟨gb456,_,none⟩) NB462_456.out _).trans (((cell_far (p:=⟨gb456,_,none⟩) NB462_456.out _).trans (((cell_far (p:=⟨gb456,_,none⟩) NB462_456.out _).trans (hHeld.2.2))))))⟩ (fun hHeld => ?_)
           clear hK K
           refine dn0 (h := ?_)
           try go_wp2
           go_meet
           case rel => exact ⟨_,(0),(t458),(t459),(t460),rf,H',⟨by have:=HK1.out; have:=HJ14.out; have:=HK3.out; have:=HJ27.out; first | omega | exact Nat.le_refl _⟩,⟨by (with_reducible repeat (first | apply Kd.R_alloc | apply Kd.R_drewN | apply Kd.R_drew)); exact Kd.R_mono (Kd.R_far (p:=⟨gb456,2,none⟩) (Kd.R_far (p:=⟨gb456,1,none⟩) (Kd.R_far (p:=⟨gb456,0,none⟩) (Kd.R_types HO_3.out BK456.out (by decide)) (fun _ hk => hk.2) (.int .i64 t458)) (fun _ hk => hk.2) (.int .i64 t459)) (fun _ hk => hk.2) (.int .i64 t460)) (fun _ hk => trivial)⟩,⟨by (with_reducible repeat (first | apply Kd.S_alloc | apply Kd.S_drewN | apply Kd.S_drew)); exact Kd.S_mono (Kd.S_far (p:=⟨gb456,2,none⟩) (Kd.S_far (p:=⟨gb456,1,none⟩) (Kd.S_far (p:=⟨gb456,0,none⟩) (Kd.S_mono HO_5.out (fun k_ hk => (⟨hk,hk.2.1⟩ : _ ∧ k_ ≠ gb456))) (fun _ hk => hk.2) (.int .i64 t458)) (fun _ hk => hk.2) (.int .i64 t459)) (fun _ hk => hk.2) (.int .i64 t460)) (fun _ hk => ⟨hk.1.1,hk.1.2.1⟩)⟩,⟨kk BK435⟩,⟨kk BK455⟩,⟨bp (bp (bp (kk BK456) 0) 1) 2⟩,⟨bw HB⟩⟩
          case rest =>
           clear HC36
           try clear c32; try clear c33b0; try clear c34b0; try clear hx450_0; try clear p450; try clear q450
           obtain ⟨kq,x10_35,x457000_35,x457001_35,x457002_35,rfl,HA,HJ35,HO_3,HO_5,BK435,BK455,BK456,HB⟩:=hcut
           cases kq with
           | zero => exact absurd HA.out (by simp [w11_CaretTells.j4])
           | succ kj35 =>
            have H:=HA.out
            clear HA
            simp only [w11_CaretTells.j4] at H
            obtain ⟨t463,A64,H⟩:=bE H
            by_cases c65 : t463 = x10_35; rotate_left
            ·rw [if_neg c65] at H
             obtain ⟨c65b0,c65b1⟩:=bF c65
             obtain rfl:=Option.some.inj H
             go_wp2_with (first | ((with_reducible refine Qac (f:=10) rfl ?_); refine gl (some 84) Tryz.func10 #[.int .i64 t454] (h := ?_); (with_reducible refine (w11_num.calls t454 t463 _ A64.out).mono ?_); rintro e w' ⟨rfl,⟨nd,rfl⟩⟩; refine ⟨_,rfl, ?_⟩))
             go_ret
             exact ⟨re,bw HB⟩
            rw [if_pos c65] at H
            obtain ⟨c65b0,c65b1⟩:=bT c65
            clear c65
            by_cases c66 : (!(t451 == x457000_35) || (!(t452 == x457001_35) || (!(t453 == x457002_35)))) = true
            ·rw [if_pos c66] at H
             have c66b0 : (!(t451 == x457000_35) || (!(t452 == x457001_35) || (!(t453 == x457002_35)))) = true:=c66
             clear c66
             obtain rfl:=Option.some.inj H
             go_wp2_with (first | ((with_reducible refine Qac (f:=10) rfl ?_); refine gl (some 84) Tryz.func10 #[.int .i64 t454] (h := ?_); (with_reducible refine (w11_num.calls t454 t463 _ A64.out).mono ?_); rintro e w' ⟨rfl,⟨nd,rfl⟩⟩; refine ⟨_,rfl, ?_⟩; have hnb67:=NB455_435.out; have hnc67:=NB435_455.out; have hnb68:=NB455_456.out; have hnc68:=NB456_455.out; obtain ⟨_,_,_,_,_,_⟩:=kc3 BK455; have hnb70:=NB456_435.out; have hnc70:=NB435_456.out; obtain ⟨_,_,_,_,_,_⟩:=kc3 BK456))
             go_ret
             exact ⟨re,bw HB⟩
            rw [if_neg c66] at H
            have c66b0 : (!(t451 == x457000_35) || (!(t452 == x457001_35) || (!(t453 == x457002_35)))) = false:=by simpa using c66
            clear c66
            have H':=Aside0.mk H
            clear H
            go_wp2_with (first | ((with_reducible refine Qac (f:=10) rfl ?_); refine gl (some 84) Tryz.func10 #[.int .i64 t454] (h := ?_); (with_reducible refine (w11_num.calls t454 t463 _ A64.out).mono ?_); rintro e w' ⟨rfl,⟨nd,rfl⟩⟩; refine ⟨_,rfl, ?_⟩; have hnb72:=NB455_435.out; have hnc72:=NB435_455.out; have hnb73:=NB455_456.out; have hnc73:=NB456_455.out; obtain ⟨_,_,_,_,_,_⟩:=kc3 BK455; have hnb75:=NB456_435.out; have hnc75:=NB435_456.out; obtain ⟨_,_,_,_,_,_⟩:=kc3 BK456))
            go_roundg kj35
            case measure => have:=HK1.out; have:=HJ14.out; have:=HK3.out; have:=HJ27.out; have:=HJ35.out; omega
            case rel => exact ⟨(wrap64 (x7_3 + 1)),rf,H',⟨by have:=HK1.out; have:=HJ14.out; have:=HK3.out; have:=HJ27.out; have:=HJ35.out; omega⟩,⟨rk HO_3⟩,⟨by (with_reducible repeat (first | apply Kd.S_alloc | apply Kd.S_drewN | apply Kd.S_drew)); exact Kd.S_mono HO_5.out (fun _ hk => trivial)⟩,⟨kk BK435⟩,⟨bw HB⟩⟩
         replace c32:=Bool.eq_false_iff.mpr c32
         subst c32
         rw [if_neg nft] at H
         obtain ⟨t464,A77,H⟩:=bE H
         have H':=Aside0.mk H
         clear H
         obtain ⟨_,_,_,_,_,_,_,_⟩:=kc4 BK435
         obtain ⟨Ao79,co79,eo79⟩:=Kd.S_slice HO_5.out
         subst eo79
         go_wp2_with (first | ((with_reducible refine Qac (f:=11) rfl ?_); refine gl (some 94) Tryz.func11 #[.agg #[.slice (some ad444) l0_0.length c0_0, .slice A0_1 l0_1.length c0_1, .slice A0_2 l0_2.length c0_2, .slice A0_3 l0_3.length c0_3], .slice Ao79 t445.length co79] (h := ?_); (with_reducible refine (w5_Elems.calls kj27 _ _ l0_0 _ _ l0_1 _ _ l0_2 _ _ l0_3 _ _ t445 t464 _ ?side1 ?side2 ?side3 ?side4 ?side5 ?side6 ?side7 ?side8 ?side9 ?side10 A77.out).mono ?_); (case side1 => exact cb HR0_0 HB); (case side2 => exact HC0_0.out); (case side3 => exact cb HR0_1 HB); (case side4 => exact HC0_1.out); (case side5 => exact cb HR0_2 HB); (case side6 => exact HC0_2.out); (case side7 => exact cb HR0_3 HB); (case side8 => exact HC0_3.out); (case side9 => exact cs HO_5); (case side10 => exact (Kd.S_reads' HO_5.out).2.1); rintro e w80 ⟨v465,rfl,ho0,hb⟩; refine ⟨_,rfl, ?_⟩; have HO466:=Aside0.mk (Kd.R_lower ho0 (Qak (bw HB))); replace HO_3:=rb HO_3 hb; replace HO_5:=Aside0.mk (Kd.S_elder' (sk HO_5) (Kd.R_base ho0) hb); replace BK435:=bl BK435 hb; replace HB:=bs HB hb; clear hb; clear ho0))
         go_loopg [15] kj27 (fun kq v15 w' => ∃ (x15_5 : Int),v15 = .int .i64 x15_5 ∧ Aside0 (w11_CaretTells.l2 kq y440 x4_1 t445 t449 t464 x15_5 l0_0 l0_1 l0_2 l0_3 = some r) ∧ Aside0 (kq ≤ kj27) ∧ Aside0 (Kd.R (Kd.int .i64) 3 w' w.heap.size (fun _ => True) v441 y440) ∧ Aside0 (Kd.S kOp 64 w' w.heap.size (fun k_ => some k_ ≠ (v465 : Value).ownBlock) (.slice Ao79 t445.length co79) t445) ∧ Aside0 (Kd.R Qar 32 w' w.heap.size (fun _ => True) v465 t464) ∧ Aside0 (w'.heap[gb435]? = some (.cells #[(.slice (some ad444) l0_0.length c0_0),(.slice A0_1 l0_1.length c0_1),(.slice A0_2 l0_2.length c0_2),(.slice A0_3 l0_3.length c0_3)] 27 (0,0))) ∧ Aside0 (Below w.heap.size w w'))
         case atStart => exact ⟨(0),rf,H',⟨Nat.le_refl _⟩,⟨rk HO_3⟩,⟨by (with_reducible repeat (first | apply Kd.S_alloc | apply Kd.S_drewN | apply Kd.S_drew)); exact Kd.S_mono HO_5.out (fun _ hk => hk.2)⟩,⟨rk HO466⟩,⟨kk BK435⟩,⟨bw HB⟩⟩
         case round =>
          clear H'
          try clear c32
          obtain ⟨x15_5,rfl,HA,HK5,HO_3,HO_5,HO_14,BK435,HB⟩:=hrel
          cases gk with
          | zero => exact absurd HA.out (by simp [w11_CaretTells.l2])
          | succ k5 =>
           have H:=HA.out
           clear HA
           simp only [w11_CaretTells.l2] at H
           by_cases c81 : x15_5 < (t464.length : Int); rotate_left
           ·rw [if_neg c81] at H
            have c81b0:=decide_eq_false c81
            clear c81
            by_cases c121 : 0 ≤ x4_1; rotate_left
            ·rw [if_neg c121] at H
             exact absurd H (by simp)
            rw [if_pos c121] at H
            have c121b0:=decide_eq_true c121
            clear c121
            by_cases c122 : x4_1 < (l0_0.length : Int); rotate_left
            ·rw [if_neg c122] at H
             exact absurd H (by simp)
            rw [if_pos c122] at H
            have c122b0:=decide_eq_true c122
            clear c122
            obtain ⟨t489,A123,H⟩:=bE H
            by_cases c124 : t489 = true
            ·subst c124
             rw [if_pos rfl] at H
             have H':=Aside0.mk H
             clear H
             obtain ⟨Ao125,co125,eo125⟩:=Kd.R_slice HO_14.out
             subst eo125
             obtain ⟨_,_,_,_,_,_,_,_⟩:=kc4 BK435
             have p488 : 0 ≤ (x4_1 : Int):=od
             have q488 : x4_1 < (l0_0.length : Int):=od
             obtain ⟨ad488,A488_0,c488_0,e488,hx488_0,hl488_0,hi488_0⟩:=at_LOp HR0_0.out x4_1 p488 q488
             obtain rfl : ad444 = ad488:=(by injection e488)
             replace hx488_0:=cl HB hx488_0
             have HR488_0:=Aside0.mk hi488_0
             have HC488_0:=Aside0.mk hl488_0
             clear hi488_0 hl488_0
             replace p488:=eq_true p488
             replace q488:=eq_true q488
             go_wp2_with (first | ((with_reducible refine Qac (f:=17) rfl ?_); refine gl (some 172) Tryz.func17 #[.slice Ao79 t445.length co79, .slice A488_0 (Qdc l0_0 x4_1).length c488_0] (h := ?_); (with_reducible refine (r0_EqOps.calls k5 _ _ t445 _ _ (Qdc l0_0 x4_1) true _ ?side1 ?side2 ?side3 ?side4 A123.out).mono ?_); (case side1 => exact cs HO_5); (case side2 => exact (Kd.S_reads' HO_5.out).2.1); (case side3 => exact cb HR488_0 HB); (case side4 => exact HC488_0.out); rintro e w127 ⟨rfl,hb⟩; refine ⟨_,rfl, ?_⟩; replace HO_3:=rb HO_3 hb; replace HO_5:=sb HO_5 hb; replace HO_14:=rb HO_14 hb; replace BK435:=bl BK435 hb; replace HB:=bs HB hb; clear hb))
             go_roundg k5
             case measure => have:=HK1.out; have:=HJ14.out; have:=HK3.out; have:=HJ27.out; have:=HK5.out; omega
             case rel => exact ⟨(wrap64 (x4_1 + 1)),rf,H',⟨by have:=HK1.out; have:=HJ14.out; have:=HK3.out; have:=HJ27.out; have:=HK5.out; omega⟩,⟨rk HO_3⟩,⟨kk BK435⟩,⟨bw HB⟩⟩
            replace c124:=Bool.eq_false_iff.mpr c124
            subst c124
            rw [if_neg nft] at H
            obtain rfl:=Option.some.inj H
            obtain ⟨Ao128,co128,eo128⟩:=Kd.R_slice HO_14.out
            subst eo128
            obtain ⟨_,_,_,_,_,_,_,_⟩:=kc4 BK435
            have p488 : 0 ≤ (x4_1 : Int):=od
            have q488 : x4_1 < (l0_0.length : Int):=od
            obtain ⟨ad488,A488_0,c488_0,e488,hx488_0,hl488_0,hi488_0⟩:=at_LOp HR0_0.out x4_1 p488 q488
            obtain rfl : ad444 = ad488:=(by injection e488)
            replace hx488_0:=cl HB hx488_0
            have HR488_0:=Aside0.mk hi488_0
            have HC488_0:=Aside0.mk hl488_0
            clear hi488_0 hl488_0
            replace p488:=eq_true p488
            replace q488:=eq_true q488
            go_wp2_with (first | ((with_reducible refine Qac (f:=17) rfl ?_); refine gl (some 172) Tryz.func17 #[.slice Ao79 t445.length co79, .slice A488_0 (Qdc l0_0 x4_1).length c488_0] (h := ?_); (with_reducible refine (r0_EqOps.calls k5 _ _ t445 _ _ (Qdc l0_0 x4_1) false _ ?side1 ?side2 ?side3 ?side4 A123.out).mono ?_); (case side1 => exact cs HO_5); (case side2 => exact (Kd.S_reads' HO_5.out).2.1); (case side3 => exact cb HR488_0 HB); (case side4 => exact HC488_0.out); rintro e w130 ⟨rfl,hb⟩; refine ⟨_,rfl, ?_⟩; replace HO_3:=rb HO_3 hb; replace HO_5:=sb HO_5 hb; replace HO_14:=rb HO_14 hb; replace BK435:=bl BK435 hb; replace HB:=bs HB hb; clear hb))
            go_ret
            exact ⟨re,bw HB⟩
           rw [if_pos c81] at H
           have c81b0:=decide_eq_true c81
           clear c81
           by_cases c82 : 0 ≤ x15_5; rotate_left
           ·rw [if_neg c82] at H
            exact absurd H (by simp)
           rw [if_pos c82] at H
           have c82b0:=decide_eq_true c82
           clear c82
           obtain ⟨⟨t468,t469⟩,A83,H⟩:=bE H
           try dsimp only at H
           obtain ⟨⟨t471,t472,t473,t474⟩,A84,H⟩:=bE H
           try dsimp only at H
           have HC85:=Aside0.mk H
           clear H
           obtain ⟨Ao86,co86,eo86⟩:=Kd.R_slice HO_14.out
           subst eo86
           have p467 : 0 ≤ (x15_5 : Int):=od
           have q467 : x15_5 < (t464.length : Int):=od
           obtain ⟨ad467,e467,hx467_0,hx467_1,hx467_2⟩:=Qat (Kd.R_reads' HO_14.out).2.2 x15_5 p467 q467
           cases e467
           replace p467:=eq_true p467
           replace q467:=eq_true q467
           go_upto_if 119 with (first | ((with_reducible refine Qac (f:=12) rfl ?_); refine gl (some 107) Tryz.func12 #[.slice Ao79 t445.length co79, .agg #[.int .i64 ((Qaa t464 x15_5).f0), .int .i64 ((Qaa t464 x15_5).f1), .int .i64 ((Qaa t464 x15_5).f2)]] (h := ?_); (with_reducible refine (caret_Place.calls _ _ t445 ((Qaa t464 x15_5).f0) ((Qaa t464 x15_5).f1) ((Qaa t464 x15_5).f2) t468 t469 _ ?side1 ?side2 A83.out).mono ?_); (case side1 => exact cs HO_5); (case side2 => exact (Kd.S_reads' HO_5.out).2.1); rintro e w87 ⟨rfl,hb⟩; refine ⟨_,rfl, ?_⟩; replace HO_3:=rb HO_3 hb; replace HO_5:=sb HO_5 hb; replace HO_14:=rb HO_14 hb; replace BK435:=bl BK435 hb; replace HB:=bs HB hb; clear hb; have p470 : 0 ≤ (x15_5 : Int):=od; have q470 : x15_5 < (t464.length : Int):=od; obtain ⟨ad470,e470,hx470_0,hx470_1,hx470_2⟩:=Qat (Kd.R_reads' HO_14.out).2.2 x15_5 p470 q470; obtain rfl : ad467 = ad470:=(by injection e470); replace p470:=eq_true p470; replace q470:=eq_true q470) | ((with_reducible refine Qac (f:=13) rfl ?_); refine gl (some 116) Tryz.func13 #[.slice Ao79 t445.length co79, .agg #[.int .i64 ((Qaa t464 x15_5).f0), .int .i64 ((Qaa t464 x15_5).f1), .int .i64 ((Qaa t464 x15_5).f2)]] (h := ?_); (with_reducible refine (caret_Near.calls _ _ t445 ((Qaa t464 x15_5).f0) ((Qaa t464 x15_5).f1) ((Qaa t464 x15_5).f2) t471 t472 t473 t474 _ ?side1 ?side2 A84.out).mono ?_); (case side1 => exact cs HO_5); (case side2 => exact (Kd.S_reads' HO_5.out).2.1); rintro e w88 ⟨rfl,hb⟩; refine ⟨_,rfl, ?_⟩; replace HO_3:=rb HO_3 hb; replace HO_5:=sb HO_5 hb; replace HO_14:=rb HO_14 hb; replace BK435:=bl BK435 hb; replace HB:=bs HB hb; clear hb) | ((with_reducible refine Qae (N:=18) rfl ?_); refine bx 18 #[.int .i64 0, .int .i64 0, .int .i64 0] 32 (h := ?_); intro gb475 hg w89 hbox hb; have BK475:=Aside0.mk (hbox); have GW475:=bz HB hg; have GE475:=bz HB hg; have NB435_475:=bn BK435 hg; have NB475_435:=bm BK435 hg; replace HO_3:=rb HO_3 hb; replace HO_5:=Aside0.mk (Kd.S_below (Kd.S_elderB (sk HO_5) gb475 (Nat.le_of_eq hg.symm)) hb); replace HO_14:=Aside0.mk (Kd.R_below (Kd.R_elderB (rk HO_14) gb475 (Nat.le_of_eq hg.symm)) hb); replace BK435:=bl BK435 hb; replace HB:=bs HB hb; clear hb hbox hg; have hnb90:=NB475_435.out; have hnc90:=NB435_475.out; obtain ⟨_,_,_,_,_,_⟩:=kc3 BK475) | ((with_reducible refine Qae (N:=22) rfl ?_); refine bx 22 #[.int .i64 0, .int .i64 0, .int .i64 0] 32 (h := ?_); intro gb476 hg w92 hbox hb; have BK476:=Aside0.mk (hbox); have GW476:=bz HB hg; have GE476:=bz HB hg; have NB435_476:=bn BK435 hg; have NB476_435:=bm BK435 hg; have NB475_476:=Aside0.mk ((by rw [hg]; exact Nat.ne_of_lt (blk_lt (g:=gb475) (o:=.cells #[.int .i64 t471, .int .i64 t472, .int .i64 t473] 32 (0,0)) (bp (bp (bp (kk BK475) 0) 1) 2)) : gb475 ≠ gb476)); have NB476_475:=Aside0.mk ((by rw [hg]; exact Nat.ne_of_gt (blk_lt (g:=gb475) (o:=.cells #[.int .i64 t471, .int .i64 t472, .int .i64 t473] 32 (0,0)) (bp (bp (bp (kk BK475) 0) 1) 2)) : gb476 ≠ gb475)); replace HO_3:=Aside0.mk (Kd.R_below (by (with_reducible repeat (first | apply Kd.R_alloc | apply Kd.R_drewN | apply Kd.R_drew)); exact (Kd.R_mono (Kd.R_far (p:=⟨gb475,2,none⟩) (Kd.R_far (p:=⟨gb475,1,none⟩) (Kd.R_far (p:=⟨gb475,0,none⟩) (Kd.R_types HO_3.out BK475.out (by decide)) (fun _ hk => hk.2) (.int .i64 t471)) (fun _ hk => hk.2) (.int .i64 t472)) (fun _ hk => hk.2) (.int .i64 t473)) (fun _ h_ => h_.1))) hb); replace HO_5:=Aside0.mk (Kd.S_below (Kd.S_elderB (by (with_reducible repeat (first | apply Kd.S_alloc | apply Kd.S_drewN | apply Kd.S_drew)); exact (Kd.S_mono (Kd.S_far (p:=⟨gb475,2,none⟩) (Kd.S_far (p:=⟨gb475,1,none⟩) (Kd.S_far (p:=⟨gb475,0,none⟩) (Kd.S_mono HO_5.out (fun k_ hk => (⟨hk,hk.2⟩ : _ ∧ k_ ≠ gb475))) (fun _ hk => hk.2) (.int .i64 t471)) (fun _ hk => hk.2) (.int .i64 t472)) (fun _ hk => hk.2) (.int .i64 t473)) (fun _ h_ => h_.1))) gb476 (Nat.le_of_eq hg.symm)) hb); replace HO_14:=Aside0.mk (Kd.R_below (Kd.R_elderB (by (with_reducible repeat (first | apply Kd.R_alloc | apply Kd.R_drewN | apply Kd.R_drew)); exact (Kd.R_mono (Kd.R_far (p:=⟨gb475,2,none⟩) (Kd.R_far (p:=⟨gb475,1,none⟩) (Kd.R_far (p:=⟨gb475,0,none⟩) (Kd.R_mono HO_14.out (fun k_ hk => (⟨hk,hk.2⟩ : _ ∧ k_ ≠ gb475))) (fun _ hk => hk.2) (.int .i64 t471)) (fun _ hk => hk.2) (.int .i64 t472)) (fun _ hk => hk.2) (.int .i64 t473)) (fun _ h_ => h_.1))) gb476 (Nat.le_of_eq hg.symm)) hb); replace BK435:=bl BK435 hb; replace BK475:=Aside0.mk (Qbs (g:=gb475) (o:=.cells #[.int .i64 t471, .int .i64 t472, .int .i64 t473] 32 (0,0)) (bp (bp (bp (kk BK475) 0) 1) 2) hb); replace HB:=bs HB hb; clear hb hbox hg))
           (try simp only [Act.put,List.setIfInBounds_toArray,List.set_cons_zero,List.set_cons_succ])
           go_cut [20,21] (fun v20 v21 wc => ∃ (kq : Nat) (x20_84 : Int) (x21_84 : Int) (x477000_84 : Int) (x477001_84 : Int) (x477002_84 : Int),v20 = .int .i64 x20_84 ∧ v21 = .int .i64 x21_84 ∧ Aside0 (w11_CaretTells.j7 kq y440 x4_1 t445 t449 t464 x15_5 t468 t469 t474 x20_84 x21_84 l0_0 l0_1 l0_2 l0_3 t471 t472 t473 x477000_84 x477001_84 x477002_84 = some r) ∧ Aside0 (kq ≤ k5) ∧ Aside0 (Kd.R (Kd.int .i64) 3 wc w.heap.size (fun _ => True) v441 y440) ∧ Aside0 (Kd.S kOp 64 wc w.heap.size (fun k_ => some k_ ≠ ((.slice (some ad467) t464.length co86) : Value).ownBlock ∧ k_ ≠ gb475 ∧ k_ ≠ gb476) (.slice Ao79 t445.length co79) t445) ∧ Aside0 (Kd.R Qar 32 wc w.heap.size (fun k_ => k_ ≠ gb475 ∧ k_ ≠ gb476) (.slice (some ad467) t464.length co86) t464) ∧ Aside0 (wc.heap[gb435]? = some (.cells #[(.slice (some ad444) l0_0.length c0_0),(.slice A0_1 l0_1.length c0_1),(.slice A0_2 l0_2.length c0_2),(.slice A0_3 l0_3.length c0_3)] 27 (0,0))) ∧ Aside0 (wc.heap[gb475]? = some (.cells #[.int .i64 t471, .int .i64 t472, .int .i64 t473] 32 (0,0))) ∧ Aside0 (wc.heap[gb476]? = some (.cells #[.int .i64 x477000_84, .int .i64 x477001_84, .int .i64 x477002_84] 32 (0,0))) ∧ Aside0 (Below w.heap.size w wc))
           case first =>
            have H:=HC85.out
            clear HC85
            by_cases c93 : t449 = true; rotate_left
            ·replace c93:=Bool.eq_false_iff.mpr c93
             subst c93
             rw [if_neg nft] at H
             have H':=Aside0.mk H
             clear H
             go_wp2
             go_meet
             case rel => exact ⟨_,(1),(0),(0),(0),(0),rf,rf,H',⟨by have:=HK1.out; have:=HJ14.out; have:=HK3.out; have:=HJ27.out; have:=HK5.out; first | omega | exact Nat.le_refl _⟩,⟨rk HO_3⟩,⟨by (with_reducible repeat (first | apply Kd.S_alloc | apply Kd.S_drewN | apply Kd.S_drew)); exact Kd.S_mono HO_5.out (fun _ hk => ⟨hk.1.1,⟨hk.1.2,hk.2⟩⟩)⟩,⟨by (with_reducible repeat (first | apply Kd.R_alloc | apply Kd.R_drewN | apply Kd.R_drew)); exact Kd.R_mono HO_14.out (fun _ hk => ⟨hk.1.2,hk.2⟩)⟩,⟨kk BK435⟩,⟨kk BK475⟩,⟨kk BK476⟩,⟨bw HB⟩⟩
            subst c93
            rw [if_pos rfl] at H
            have HC94:=Aside0.mk H
            clear H
            go_upto_region 32 with (fail)
            go_cut [133] (fun v133 wc => ∃ (kq : Nat) (x133_93 : Bool),v133 = .bool x133_93 ∧ Aside0 (w11_CaretTells.j6 kq y440 x4_1 t445 true t464 x15_5 t468 t469 t474 3 0 x133_93 l0_0 l0_1 l0_2 l0_3 t471 t472 t473 0 0 0 = some r) ∧ Aside0 (kq ≤ k5) ∧ Aside0 (Kd.R (Kd.int .i64) 3 wc w.heap.size (fun _ => True) v441 y440) ∧ Aside0 (Kd.S kOp 64 wc w.heap.size (fun k_ => some k_ ≠ ((.slice (some ad467) t464.length co86) : Value).ownBlock ∧ k_ ≠ gb475 ∧ k_ ≠ gb476) (.slice Ao79 t445.length co79) t445) ∧ Aside0 (Kd.R Qar 32 wc w.heap.size (fun k_ => k_ ≠ gb475 ∧ k_ ≠ gb476) (.slice (some ad467) t464.length co86) t464) ∧ Aside0 (wc.heap[gb435]? = some (.cells #[(.slice (some ad444) l0_0.length c0_0),(.slice A0_1 l0_1.length c0_1),(.slice A0_2 l0_2.length c0_2),(.slice A0_3 l0_3.length c0_3)] 27 (0,0))) ∧ Aside0 (wc.heap[gb475]? = some (.cells #[.int .i64 t471, .int .i64 t472, .int .i64 t473] 32 (0,0))) ∧ Aside0 (wc.heap[gb476]? = some (.cells #[.int .i64 0, .int .i64 0, .int .i64 0] 32 (0,0))) ∧ Aside0 (Below w.heap.size w wc))
            case first =>
             have H:=HC94.out
             clear HC94
             by_cases c95 : (((Qaa t464 x15_5).f0) == 0 && (((Qaa t464 x15_5).f1) == 0 && (((Qaa t464 x15_5).f2) == 0))) = true
             ·rw [if_pos c95] at H
              have c95b0 : (((Qaa t464 x15_5).f0) == 0 && (((Qaa t464 x15_5).f1) == 0 && (((Qaa t464 x15_5).f2) == 0))) = true:=c95
              (try (have c95b1 : decide (((Qaa t464 x15_5).f0) = 0 && (((Qaa t464 x15_5).f1) == 0 && (((Qaa t464 x15_5).f2) == 0))) = true:=by simpa using c95))
              (try (have c95b2 : (((Qaa t464 x15_5).f0) == 0 && (((Qaa t464 x15_5).f1) == 0 && (((Qaa t464 x15_5).f2) == 0))) = true:=by simpa using c95))
              clear c95
              (first | rw [c95b0] | (simp only [Qax,Qbc]; rw [c95b0]) | skip)
              have H':=Aside0.mk H
              clear H
              have p477 : 0 ≤ (x15_5 : Int):=od
              have q477 : x15_5 < (t464.length : Int):=od
              obtain ⟨ad477,e477,hx477_0,hx477_1,hx477_2⟩:=Qat (Kd.R_reads' HO_14.out).2.2 x15_5 p477 q477
              obtain rfl : ad467 = ad477:=(by injection e477)
              replace p477:=eq_true p477
              replace q477:=eq_true q477
              go_wp2
              go_meet
              case rel => exact ⟨_,(true),rf,H',⟨by have:=HK1.out; have:=HJ14.out; have:=HK3.out; have:=HJ27.out; have:=HK5.out; first | omega | exact Nat.le_refl _⟩,⟨rk HO_3⟩,⟨by (with_reducible repeat (first | apply Kd.S_alloc | apply Kd.S_drewN | apply Kd.S_drew)); exact Kd.S_mono HO_5.out (fun _ hk => ⟨hk.1.1,⟨hk.1.2,hk.2⟩⟩)⟩,⟨by (with_reducible repeat (first | apply Kd.R_alloc | apply Kd.R_drewN | apply Kd.R_drew)); exact Kd.R_mono HO_14.out (fun _ hk => ⟨hk.1.2,hk.2⟩)⟩,⟨kk BK435⟩,⟨kk BK475⟩,⟨kk BK476⟩,⟨bw HB⟩⟩
             rw [if_neg c95] at H
             have c95b0 : (((Qaa t464 x15_5).f0) == 0 && (((Qaa t464 x15_5).f1) == 0 && (((Qaa t464 x15_5).f2) == 0))) = false:=by simpa using c95
             (try (have c95b1 : decide (((Qaa t464 x15_5).f0) = 0 && (((Qaa t464 x15_5).f1) == 0 && (((Qaa t464 x15_5).f2) == 0))) = false:=by simpa using c95))
             (try (have c95b2 : (((Qaa t464 x15_5).f0) == 0 && (((Qaa t464 x15_5).f1) == 0 && (((Qaa t464 x15_5).f2) == 0))) = false:=by simpa using c95))
             (try (have c95b3 : ¬ (((Qaa t464 x15_5).f0) = 0 && (((Qaa t464 x15_5).f1) == 0 && (((Qaa t464 x15_5).f2) == 0))):=by simpa using c95))
             clear c95
             (first | rw [c95b0] | (simp only [Qax,Qbc]; rw [c95b0]) | skip)
             obtain ⟨t479,A96,H⟩:=bE H
             have H':=Aside0.mk H
             clear H
             have p477 : 0 ≤ (x15_5 : Int):=od
             have q477 : x15_5 < (t464.length : Int):=od
             obtain ⟨ad477,e477,hx477_0,hx477_1,hx477_2⟩:=Qat (Kd.R_reads' HO_14.out).2.2 x15_5 p477 q477
             obtain rfl : ad467 = ad477:=(by injection e477)
             replace p477:=eq_true p477
             replace q477:=eq_true q477
             go_wp2_with (first | (go_at_call 14; (with_reducible refine (r4_Written.calls k5 _ _ t445 ((Qaa t464 x15_5).f0) ((Qaa t464 x15_5).f1) ((Qaa t464 x15_5).f2) t479 _ ?side1 ?side2 ?side3 A96.out).mono ?_); (case side1 => exact cs HO_5); (case side2 => exact (Kd.S_reads' HO_5.out).2.1); (case side3 => exact (hT.below (bw HB))); rintro e w97 ⟨rfl,hb⟩; replace HO_3:=rb HO_3 hb; replace HO_5:=sb HO_5 hb; replace HO_14:=rb HO_14 hb; replace BK435:=bl BK435 hb; replace BK475:=bl BK475 hb; replace BK476:=bl BK476 hb; replace HB:=bs HB hb; clear hb))
             go_meet
             case rel => exact ⟨_,(t479),rf,H',⟨by have:=HK1.out; have:=HJ14.out; have:=HK3.out; have:=HJ27.out; have:=HK5.out; first | omega | exact Nat.le_refl _⟩,⟨rk HO_3⟩,⟨by (with_reducible repeat (first | apply Kd.S_alloc | apply Kd.S_drewN | apply Kd.S_drew)); exact Kd.S_mono HO_5.out (fun _ hk => ⟨hk.1.1,⟨hk.1.2,hk.2⟩⟩)⟩,⟨by (with_reducible repeat (first | apply Kd.R_alloc | apply Kd.R_drewN | apply Kd.R_drew)); exact Kd.R_mono HO_14.out (fun _ hk => ⟨hk.1.2,hk.2⟩)⟩,⟨kk BK435⟩,⟨kk BK475⟩,⟨kk BK476⟩,⟨bw HB⟩⟩
            case rest =>
             clear HC94
             try clear c81b0; try clear c82b0; try clear c93; try clear hx467_0; try clear hx467_1; try clear hx467_2; try clear hx470_0; try clear hx470_1; try clear hx470_2; try clear p467; try clear p470; try clear q467; try clear q470
             obtain ⟨kq,x133_93,rfl,HA,HJ93,HO_3,HO_5,HO_14,BK435,BK475,BK476,HB⟩:=hcut
             cases kq with
             | zero => exact absurd HA.out (by simp [w11_CaretTells.j6])
             | succ kj93 =>
              have H:=HA.out
              clear HA
              simp only [w11_CaretTells.j6] at H
              by_cases c98 : x133_93 = true; rotate_left
              ·replace c98:=Bool.eq_false_iff.mpr c98
               subst c98
               rw [if_neg nft] at H
               have H':=Aside0.mk H
               clear H
               go_wp2
               go_meet
               case rel => exact ⟨_,(3),(0),(0),(0),(0),rf,rf,H',⟨by have:=HK1.out; have:=HJ14.out; have:=HK3.out; have:=HJ27.out; have:=HK5.out; have:=HJ93.out; first | omega | exact Nat.le_refl _⟩,⟨rk HO_3⟩,⟨sk HO_5⟩,⟨rk HO_14⟩,⟨kk BK435⟩,⟨kk BK475⟩,⟨kk BK476⟩,⟨bw HB⟩⟩
              subst c98
              rw [if_pos rfl] at H
              by_cases c99 : 0 ≤ x15_5; rotate_left
              ·rw [if_neg c99] at H
               exact absurd H (by simp)
              rw [if_pos c99] at H
              have c99b0:=decide_eq_true c99
              clear c99
              by_cases c100 : x15_5 < (t464.length : Int); rotate_left
              ·rw [if_neg c100] at H
               exact absurd H (by simp)
              rw [if_pos c100] at H
              have c100b0:=decide_eq_true c100
              clear c100
              obtain ⟨t481,A101,H⟩:=bE H
              obtain ⟨⟨t483,t484,t485⟩,A102,H⟩:=bE H
              try dsimp only at H
              have H':=Aside0.mk H
              clear H
              try go_wp2
              have n0_:=Aside0.mk (Kd.R_drew HO_3.out)
              have n1_:=Aside0.mk (Kd.S_drew HO_5.out)
              have n2_:=Aside0.mk (Kd.R_drew HO_14.out)
              have n3_:=Aside0.mk (Qam BK435.out)
              have n4_:=Aside0.mk (Qam BK475.out)
              have n5_:=Aside0.mk (Qam BK476.out)
              have n6_:=Aside0.mk (Qaf HB.out)
              clear HO_3
              clear HO_5
              clear HO_14
              clear BK435
              clear BK475
              clear BK476
              clear HB
              have HO_3:=n0_
              have HO_5:=n1_
              have HO_14:=n2_
              have BK435:=n3_
              have BK475:=n4_
              have BK476:=n5_
              have HB:=n6_
              clear n0_ n1_ n2_ n3_ n4_ n5_ n6_
              have p480 : 0 ≤ (x15_5 : Int):=od
              have q480 : x15_5 < (t464.length : Int):=od
              obtain ⟨ad480,e480,hx480_0,hx480_1,hx480_2⟩:=Qat (Kd.R_reads' HO_14.out).2.2 x15_5 p480 q480
              obtain rfl : ad467 = ad480:=(by injection e480)
              replace p480:=eq_true p480
              replace q480:=eq_true q480
              refine stP (fun w' => w'.cell? (ad467.add ((x15_5).toNat * 3)) = some (.int .i64 ((Qaa t464 x15_5).f0)) ∧ w'.cell? ⟨(ad467.add ((x15_5).toNat * 3)).block,(ad467.add ((x15_5).toNat * 3)).off + 1,none⟩ = some (.int .i64 ((Qaa t464 x15_5).f1)) ∧ w'.cell? ⟨(ad467.add ((x15_5).toNat * 3)).block,(ad467.add ((x15_5).toNat * 3)).off + 2,none⟩ = some (.int .i64 ((Qaa t464 x15_5).f2))) 15 ⟨hx480_0,hx480_1,hx480_2⟩ (h:=fun hHeld => ?_); refine Qap w11_CaretTells.tab33 w11_CaretTells.bits33 (fun HT_ HW_ => ?_)
              generalize wc.drew = w103 at HO_3 HO_5 HO_14 BK435 BK475 BK476 HB hx480_0 hx480_1 hx480_2 hx480_0 hx480_1 hx480_2 hHeld ⊢
              refine pu HT_ 0 134 1 (h := ?_)
              refine pu HT_ 1 135 3 (h := ?_)
              refine pu HT_ 2 136 7 (h := ?_)
              refine pu HT_ 3 137 15 (h := ?_)
              refine pu HT_ 6 140 79 (h := ?_)
              refine pu HT_ 7 141 207 (h := ?_)
              refine pu HT_ 8 142 463 (h := ?_)
              refine pu HT_ 9 143 975 (h := ?_)
              refine tk HT_ HW_ hHeld 4 138 991 (h := ?_)
              refine tk HT_ HW_ hHeld 10 144 2015 (h := ?_)
              refine on HT_ 5 (some 139) 2047 (h:=fun K hK => ?_)
              refine gS Tryz.func15 #[.slice Ao79 t445.length co79, .agg #[.int .i64 ((Qaa t464 x15_5).f0), .int .i64 ((Qaa t464 x15_5).f1), .int .i64 ((Qaa t464 x15_5).f2)]] (h := ?_)
              with_reducible refine (r9_Place.calls kj93 _ _ t445 ((Qaa t464 x15_5).f0) ((Qaa t464 x15_5).f1) ((Qaa t464 x15_5).f2) t481 _ ?side1 ?side2 ?side3 A101.out).mono ?_
              (case side1 => exact cs HO_5)
              (case side2 => exact (Kd.S_reads' HO_5.out).2.1)
              (case side3 => exact (hT.below (bw HB)))
              rintro e w104 ⟨rfl,hb⟩
              have HS0_:=(hb.cell (World.block_lt_of_cell? _ _ (hHeld.1))).trans (hHeld.1)
              have HS1_:=(hb.cell (World.block_lt_of_cell? _ _ (hHeld.2.1))).trans (hHeld.2.1)
              have HS2_:=(hb.cell (World.block_lt_of_cell? _ _ (hHeld.2.2))).trans (hHeld.2.2)
              have HS3_:=(hb.cell (World.block_lt_of_cell? _ _ (hHeld.1))).trans (hHeld.1)
              have HS4_:=(hb.cell (World.block_lt_of_cell? _ _ (hHeld.2.1))).trans (hHeld.2.1)
              have HS5_:=(hb.cell (World.block_lt_of_cell? _ _ (hHeld.2.2))).trans (hHeld.2.2)
              refine ⟨_,rfl, ?_⟩
              have n0_:=rb HO_3 hb
              have n1_:=sb HO_5 hb
              have n2_:=rb HO_14 hb
              have n3_:=bl BK435 hb
              have n4_:=bl BK475 hb
              have n5_:=bl BK476 hb
              have n6_:=bs HB hb
              clear HO_3
              clear HO_5
              clear HO_14
              clear BK435
              clear BK475
              clear BK476
              clear HB
              have HO_3:=n0_
              have HO_5:=n1_
              have HO_14:=n2_
              have BK435:=n3_
              have BK475:=n4_
              have BK476:=n5_
              have HB:=n6_
              clear n0_ n1_ n2_ n3_ n4_ n5_ n6_
              (try clear hb)
              (try clear hb2)
              (try clear hk)
              (try clear hi)
              refine hK.out _ _ ⟨HS0_,HS1_,HS2_⟩ (fun hHeld => ?_)
              clear hK K
              refine nn 139 (h := ?_)
              refine on HT_ 11 (some 145) 4095 (h:=fun K hK => ?_)
              refine gS Tryz.func16 #[.slice Ao79 t445.length co79, .agg #[.int .i64 ((Qaa t464 x15_5).f0), .int .i64 ((Qaa t464 x15_5).f1), .int .i64 ((Qaa t464 x15_5).f2)]] (h := ?_)
              with_reducible refine (r9_Near.calls kj93 _ _ t445 ((Qaa t464 x15_5).f0) ((Qaa t464 x15_5).f1) ((Qaa t464 x15_5).f2) t483 t484 t485 _ ?side1 ?side2 ?side3 A102.out).mono ?_
              (case side1 => exact cs HO_5)
              (case side2 => exact (Kd.S_reads' HO_5.out).2.1)
              (case side3 => exact (hT.below (bw HB)))
              rintro e w105 ⟨rfl,hb⟩
              have HS0_:=(hb.cell (World.block_lt_of_cell? _ _ (hHeld.1))).trans (hHeld.1)
              have HS1_:=(hb.cell (World.block_lt_of_cell? _ _ (hHeld.2.1))).trans (hHeld.2.1)
              have HS2_:=(hb.cell (World.block_lt_of_cell? _ _ (hHeld.2.2))).trans (hHeld.2.2)
              have HS3_:=(hb.cell (World.block_lt_of_cell? _ _ (hHeld.1))).trans (hHeld.1)
              have HS4_:=(hb.cell (World.block_lt_of_cell? _ _ (hHeld.2.1))).trans (hHeld.2.1)
              have HS5_:=(hb.cell (World.block_lt_of_cell? _ _ (hHeld.2.2))).trans (hHeld.2.2)
              refine ⟨_,rfl, ?_⟩
              have n0_:=rb HO_3 hb
              have n1_:=sb HO_5 hb
              have n2_:=rb HO_14 hb
              have n3_:=bl BK435 hb
              have n4_:=bl BK475 hb
              have n5_:=bl BK476 hb
              have n6_:=bs HB hb
              clear HO_3
              clear HO_5
              clear HO_14
              clear BK435
              clear BK475
              clear BK476
              clear HB
              have HO_3:=n0_
              have HO_5:=n1_
              have HO_14:=n2_
              have BK435:=n3_
              have BK475:=n4_
              have BK476:=n5_
              have HB:=n6_
              clear n0_ n1_ n2_ n3_ n4_ n5_ n6_
              (try clear hb)
              (try clear hb2)
              (try clear hk)
              (try clear hi)
              refine hK.out _ _ ⟨HS0_,HS1_,HS2_⟩ (fun hHeld => ?_)
              clear hK K
              refine nn 145 (h := ?_)
              refine pu HT_ 12 20 8191 (h := ?_)
              refine pu HT_ 13 21 16383 (h := ?_)
              refine on HT_ 14 none 32767 (h:=fun K hK => ?_)
              have hs106 : w105.cell? ⟨gb476,0,none⟩ = some (.int .i64 0):=bc BK476 0
              have hfs106:=bf BK476 0
              have hns106_0:=NB435_476.out
              have hns106_1:=NB475_476.out
              have hms106_0:=NB476_435.out
              have hms106_1:=NB476_475.out
              have hs107 : w105.cell? ⟨gb476,1,none⟩ = some (.int .i64 0):=bc BK476 1
              have hfs107:=bf BK476 1
              have hns107_0:=NB435_476.out
              have hns107_1:=NB475_476.out
              have hms107_0:=NB476_435.out
              have hms107_1:=NB476_475.out
              have hs108 : w105.cell? ⟨gb476,2,none⟩ = some (.int .i64 0):=bc BK476 2
              have hfs108:=bf BK476 2
              have hns108_0:=NB435_476.out
              have hns108_1:=NB475_476.out
              have hms108_0:=NB476_435.out
              have hms108_1:=NB476_475.out
              refine skip_ (w1 := ?_) (by rfl) rfl ?_ ?_
              rotate_left
              ·go_simp
               rfl
              refine hK.out _ _ ⟨((cf (q:=⟨gb476,_,none⟩) (Kd.own_blk (Kd.R_away HO_14.out (fun _ hk => hk.2))) _).trans (((cf (q:=⟨gb476,_,none⟩) (Kd.own_blk (Kd.R_away HO_14.out (fun _ hk => hk.2))) _).trans (((cf (q:=⟨gb476,_,none⟩) (Kd.own_blk (Kd.R_away HO_14.out (fun _ hk => hk.2))) _).trans (hHeld.1)))))),((cf (q:=⟨gb476,_,none⟩) (Kd.own_blk (Kd.R_away HO_14.out (fun _ hk => hk.2))) _).trans (((cf (q:=⟨gb476,_,none⟩) (Kd.own_blk (Kd.R_away HO_14.out (fun _ hk => hk.2))) _).trans (((cf (q:=⟨gb476,_,none⟩) (Kd.own_blk (Kd.R_away HO_14.out (fun _ hk => hk.2))) _).trans (hHeld.2.1)))))),((cf (q:=⟨gb476,_,none⟩) (Kd.own_blk (Kd.R_away HO_14.out (fun _ hk => hk.2))) _).trans (((cf (q:=⟨gb476,_,none⟩) (Kd.own_blk (Kd.R_away HO_14.out (fun _ hk => hk.2))) _).trans (((cf (q:=⟨gb476,_,none⟩) (Kd.own_blk (Kd.R_away HO_14.out (fun _ hk => hk.2))) _).trans (hHeld.2.2))))))⟩ (fun hHeld => ?_)
              clear hK K
              refine dn HT_ (h := ?_)
              try go_wp2
              go_meet
              case rel => exact ⟨_,(0),(t481),(t483),(t484),(t485),rf,rf,H',⟨by have:=HK1.out; have:=HJ14.out; have:=HK3.out; have:=HJ27.out; have:=HK5.out; have:=HJ93.out; first | omega | exact Nat.le_refl _⟩,⟨by (with_reducible repeat (first | apply Kd.R_alloc | apply Kd.R_drewN | apply Kd.R_drew)); exact Kd.R_mono (Kd.R_far (p:=⟨gb476,2,none⟩) (Kd.R_far (p:=⟨gb476,1,none⟩) (Kd.R_far (p:=⟨gb476,0,none⟩) (Kd.R_types HO_3.out BK476.out (by decide)) (fun _ hk => hk.2) (.int .i64 t483)) (fun _ hk => hk.2) (.int .i64 t484)) (fun _ hk => hk.2) (.int .i64 t485)) (fun _ hk => trivial)⟩,⟨by (with_reducible repeat (first | apply Kd.S_alloc | apply Kd.S_drewN | apply Kd.S_drew)); exact Kd.S_mono (Kd.S_far (p:=⟨gb476,2,none⟩) (Kd.S_far (p:=⟨gb476,1,none⟩) (Kd.S_far (p:=⟨gb476,0,none⟩) (Kd.S_mono HO_5.out (fun k_ hk => (⟨hk,hk.2.2⟩ : _ ∧ k_ ≠ gb476))) (fun _ hk => hk.2) (.int .i64 t483)) (fun _ hk => hk.2) (.int .i64 t484)) (fun _ hk => hk.2) (.int .i64 t485)) (fun _ hk => ⟨hk.1.1,⟨hk.1.2.1,hk.1.2.2⟩⟩)⟩,⟨by (with_reducible repeat (first | apply Kd.R_alloc | apply Kd.R_drewN | apply Kd.R_drew)); exact Kd.R_mono (Kd.R_far (p:=⟨gb476,2,none⟩) (Kd.R_far (p:=⟨gb476,1,none⟩) (Kd.R_far (p:=⟨gb476,0,none⟩) (Kd.R_mono HO_14.out (fun k_ hk => (⟨hk,hk.2⟩ : _ ∧ k_ ≠ gb476))) (fun _ hk => hk.2) (.int .i64 t483)) (fun _ hk => hk.2) (.int .i64 t484)) (fun _ hk => hk.2) (.int .i64 t485)) (fun _ hk => ⟨hk.1.1,hk.1.2⟩)⟩,⟨kk BK435⟩,⟨kk BK475⟩,⟨bp (bp (bp (kk BK476) 0) 1) 2⟩,⟨bw HB⟩⟩
           case rest =>
            clear HC85
            try clear c81b0; try clear c82b0; try clear hx467_0; try clear hx467_1; try clear hx467_2; try clear hx470_0; try clear hx470_1; try clear hx470_2; try clear p467; try clear p470; try clear q467; try clear q470
            obtain ⟨kq,x20_84,x21_84,x477000_84,x477001_84,x477002_84,rfl,rfl,HA,HJ84,HO_3,HO_5,HO_14,BK435,BK475,BK476,HB⟩:=hcut
            cases kq with
            | zero => exact absurd HA.out (by simp [w11_CaretTells.j7])
            | succ kj84 =>
             have H:=HA.out
             clear HA
             simp only [w11_CaretTells.j7] at H
             have HC109:=Aside0.mk H
             clear H
             go_upto_region 34 with (fail)
             go_cut [165] (fun v165 wc => ∃ (kq : Nat) (x165_108 : Bool),v165 = .bool x165_108 ∧ Aside0 (w11_CaretTells.j8 kq y440 x4_1 t445 t449 t464 x15_5 x165_108 l0_0 l0_1 l0_2 l0_3 = some r) ∧ Aside0 (kq ≤ kj84) ∧ Aside0 (Kd.R (Kd.int .i64) 3 wc w.heap.size (fun _ => True) v441 y440) ∧ Aside0 (Kd.S kOp 64 wc w.heap.size (fun k_ => some k_ ≠ ((.slice (some ad467) t464.length co86) : Value).ownBlock ∧ k_ ≠ gb475 ∧ k_ ≠ gb476) (.slice Ao79 t445.length co79) t445) ∧ Aside0 (Kd.R Qar 32 wc w.heap.size (fun k_ => k_ ≠ gb475 ∧ k_ ≠ gb476) (.slice (some ad467) t464.length co86) t464) ∧ Aside0 (wc.heap[gb435]? = some (.cells #[(.slice (some ad444) l0_0.length c0_0),(.slice A0_1 l0_1.length c0_1),(.slice A0_2 l0_2.length c0_2),(.slice A0_3 l0_3.length c0_3)] 27 (0,0))) ∧ Aside0 (wc.heap[gb475]? = some (.cells #[.int .i64 t471, .int .i64 t472, .int .i64 t473] 32 (0,0))) ∧ Aside0 (wc.heap[gb476]? = some (.cells #[.int .i64 x477000_84, .int .i64 x477001_84, .int .i64 x477002_84] 32 (0,0))) ∧ Aside0 (Below w.heap.size w wc))
             case first =>
              have H:=HC109.out
              clear HC109
              obtain ⟨t486,A110,H⟩:=bE H
              by_cases c111 : t486 = x20_84; rotate_left
              ·rw [if_neg c111] at H
               obtain ⟨c111b0,c111b1⟩:=bF c111
               (first | rw [c111b0] | (simp only [Qax,Qbc]; rw [c111b0]) | skip)
               have H':=Aside0.mk H
               clear H
               go_wp2_with (first | ((with_reducible refine Qac (f:=10) rfl ?_); refine gl (some 147) Tryz.func10 #[.int .i64 t469] (h := ?_); (with_reducible refine (w11_num.calls t469 t486 _ A110.out).mono ?_); rintro e w' ⟨rfl,⟨nd,rfl⟩⟩; refine ⟨_,rfl, ?_⟩))
               go_meet
               case rel => exact ⟨_,(true),rf,H',⟨by have:=HK1.out; have:=HJ14.out; have:=HK3.out; have:=HJ27.out; have:=HK5.out; have:=HJ84.out; first | omega | exact Nat.le_refl _⟩,⟨rk HO_3⟩,⟨sk HO_5⟩,⟨rk HO_14⟩,⟨kk BK435⟩,⟨kk BK475⟩,⟨kk BK476⟩,⟨bw HB⟩⟩
              rw [if_pos c111] at H
              obtain ⟨c111b0,c111b1⟩:=bT c111
              clear c111
              (first | rw [c111b0] | (simp only [Qax,Qbc]; rw [c111b0]) | skip)
              by_cases c112 : t468 = x21_84; rotate_left
              ·rw [if_neg c112] at H
               obtain ⟨c112b0,c112b1⟩:=bF c112
               have H':=Aside0.mk H
               clear H
               go_wp2_with (first | ((with_reducible refine Qac (f:=10) rfl ?_); refine gl (some 147) Tryz.func10 #[.int .i64 t469] (h := ?_); (with_reducible refine (w11_num.calls t469 t486 _ A110.out).mono ?_); rintro e w' ⟨rfl,⟨nd,rfl⟩⟩; refine ⟨_,rfl, ?_⟩))
               go_meet
               case rel => exact ⟨_,(true),rf,H',⟨by have:=HK1.out; have:=HJ14.out; have:=HK3.out; have:=HJ27.out; have:=HK5.out; have:=HJ84.out; first | omega | exact Nat.le_refl _⟩,⟨rk HO_3⟩,⟨sk HO_5⟩,⟨rk HO_14⟩,⟨kk BK435⟩,⟨kk BK475⟩,⟨kk BK476⟩,⟨bw HB⟩⟩
              rw [if_pos c112] at H
              obtain ⟨c112b0,c112b1⟩:=bT c112
              clear c112
              obtain ⟨t487,A113,H⟩:=bE H
              by_cases c114 : t487 = x20_84
              ·rw [if_pos c114] at H
               obtain ⟨c114b0,c114b1⟩:=bT c114
               clear c114
               have H':=Aside0.mk H
               clear H
               go_wp2_with (first | ((with_reducible refine Qac (f:=10) rfl ?_); refine gl (some 147) Tryz.func10 #[.int .i64 t469] (h := ?_); (with_reducible refine (w11_num.calls t469 t486 _ A110.out).mono ?_); rintro e w' ⟨rfl,⟨nd,rfl⟩⟩; refine ⟨_,rfl, ?_⟩) | (go_at_call 10; (with_reducible refine (w11_num.calls t474 t487 _ A113.out).mono ?_); rintro e w' ⟨rfl,⟨nd,rfl⟩⟩; have hnb115:=NB475_435.out; have hnc115:=NB435_475.out; have hnb116:=NB475_476.out; have hnc116:=NB476_475.out; obtain ⟨_,_,_,_,_,_⟩:=kc3 BK475; have hnb118:=NB476_435.out; have hnc118:=NB435_476.out; obtain ⟨_,_,_,_,_,_⟩:=kc3 BK476))
               go_meet
               case rel => exact ⟨_,((!(t471 == x477000_84) || (!(t472 == x477001_84) || (!(t473 == x477002_84))))),rf,H',⟨by have:=HK1.out; have:=HJ14.out; have:=HK3.out; have:=HJ27.out; have:=HK5.out; have:=HJ84.out; first | omega | exact Nat.le_refl _⟩,⟨rk HO_3⟩,⟨sk HO_5⟩,⟨rk HO_14⟩,⟨kk BK435⟩,⟨kk BK475⟩,⟨kk BK476⟩,⟨bw HB⟩⟩
              rw [if_neg c114] at H
              obtain ⟨c114b0,c114b1⟩:=bF c114
              have H':=Aside0.mk H
              clear H
              go_wp2_with (first | ((with_reducible refine Qac (f:=10) rfl ?_); refine gl (some 147) Tryz.func10 #[.int .i64 t469] (h := ?_); (with_reducible refine (w11_num.calls t469 t486 _ A110.out).mono ?_); rintro e w' ⟨rfl,⟨nd,rfl⟩⟩; refine ⟨_,rfl, ?_⟩) | (go_at_call 10; (with_reducible refine (w11_num.calls t474 t487 _ A113.out).mono ?_); rintro e w' ⟨rfl,⟨nd,rfl⟩⟩))
              go_meet
              case rel => exact ⟨_,(true),rf,H',⟨by have:=HK1.out; have:=HJ14.out; have:=HK3.out; have:=HJ27.out; have:=HK5.out; have:=HJ84.out; first | omega | exact Nat.le_refl _⟩,⟨rk HO_3⟩,⟨sk HO_5⟩,⟨rk HO_14⟩,⟨kk BK435⟩,⟨kk BK475⟩,⟨kk BK476⟩,⟨bw HB⟩⟩
             case rest =>
              clear HC109
              obtain ⟨kq,x165_108,rfl,HA,HJ108,HO_3,HO_5,HO_14,BK435,BK475,BK476,HB⟩:=hcut
              cases kq with
              | zero => exact absurd HA.out (by simp [w11_CaretTells.j8])
              | succ kj108 =>
               have H:=HA.out
               clear HA
               simp only [w11_CaretTells.j8] at H
               by_cases c120 : x165_108 = true
               ·subst c120
                rw [if_pos rfl] at H
                obtain rfl:=Option.some.inj H
                go_wp2
                go_ret
                exact ⟨re,bw HB⟩
               replace c120:=Bool.eq_false_iff.mpr c120
               subst c120
               rw [if_neg nft] at H
               have H':=Aside0.mk H
               clear H
               go_wp2
               go_roundg kj108
               case measure => have:=HK1.out; have:=HJ14.out; have:=HK3.out; have:=HJ27.out; have:=HK5.out; have:=HJ84.out; have:=HJ108.out; omega
               case rel => exact ⟨(wrap64 (x15_5 + 1)),rf,H',⟨by have:=HK1.out; have:=HJ14.out; have:=HK3.out; have:=HJ27.out; have:=HK5.out; have:=HJ84.out; have:=HJ108.out; omega⟩,⟨rk HO_3⟩,⟨by (with_reducible repeat (first | apply Kd.S_alloc | apply Kd.S_drewN | apply Kd.S_drew)); exact Kd.S_mono HO_5.out (fun _ hk => hk.1)⟩,⟨by (with_reducible repeat (first | apply Kd.R_alloc | apply Kd.R_drewN | apply Kd.R_drew)); exact Kd.R_mono HO_14.out (fun _ hk => trivial)⟩,⟨kk BK435⟩,⟨bw HB⟩⟩
end
section
theorem ref1_Rune_f (r : Int) : r1_Rune.f r = some (runeOk r):=by
 unfold r1_Rune.f runeOk
 by_cases h10 : r = 10
 ·simp [h10]
 ·have e10 : (r == 10) = false:=by simp [h10]
  rw [if_neg h10,e10,Bool.false_or]
  by_cases h1 : 32 ≤ r <;> by_cases h2 : r ≤ 1114111 <;> by_cases h3 : r = 127 <;> by_cases h4 : r = 65533 <;> by_cases h5 : r ≤ 55295 <;> by_cases h6 : 57344 ≤ r <;> (first | (exfalso; omega) | simp [h1,h2,h3,h4,h5,h6])
theorem decodeN_le (n b0 b1 b2 b3 : Nat) (h : 1 ≤ n) : (Lib.decodeN n b0 b1 b2 b3).2 ≤ n:=by
 unfold Lib.decodeN
 repeat' split
 all_goals (simp_all <;> omega)
theorem decode_le (s : ByteArray) (i : Nat) (h : i < s.size) : 1 ≤ (Utf8.decode s i).2 ∧ i + (Utf8.decode s i).2 ≤ s.size:=by
 refine ⟨Lib.decode_width_pos s i h, ?_⟩
 rw [Lib.decode_at]
 have:=decodeN_le (s.size - i) (s.get! i).toNat (s.get! (i + 1)).toNat (s.get! (i + 2)).toNat (s.get! (i + 3)).toNat (by omega)
 omega
theorem decFrom_more (s : ByteArray) : ∀ d pos f,s.size ≤ pos + d → d ≤ f → Qcc s f pos = Qcc s d pos
 | 0,pos,f,h,_ => by cases f <;> simp [Qcc,Nat.not_lt.2 (show s.size ≤ pos by omega)]
 | d + 1,pos,0,h,hf => by omega
 | d + 1,pos,f + 1,h,hf => by
  unfold Qcc
  by_cases hp : pos < s.size
  ·rw [if_pos hp,if_pos hp,decFrom_more s d _ f (by have:=(decode_le s pos hp).1; omega) (by omega)]
  ·rw [if_neg hp,if_neg hp]
theorem decFrom_step (s : ByteArray) (pos : Nat) (h : pos < s.size) : Qcc s s.size pos = ((Utf8.decode s pos).1 : Int) :: Qcc s s.size (pos + (Utf8.decode s pos).2):=by
 have hw:=decode_le s pos h
 rw [decFrom_more s (s.size - pos) pos s.size (by omega) (by omega),show s.size - pos = (s.size - pos - 1) + 1 by omega]
 conv => lhs; unfold Qcc
 rw [if_pos h,← decFrom_more s (s.size - pos - 1) (pos + (Utf8.decode s pos).2) s.size (by omega) (by omega)]
theorem decFrom_end (s : ByteArray) (pos : Nat) (h : s.size ≤ pos) : Qcc s s.size pos = []:=by
 rw [decFrom_more s 0 pos s.size (by omega) (by omega)]; rfl
theorem decFrom_len (s : ByteArray) : ∀ f pos,(Qcc s f pos).length ≤ f
 | 0,_ => Nat.le_refl _
 | f + 1,pos => by
  unfold Qcc
  split
  ·simp only [List.length_cons]; have:=decFrom_len s f (pos + (Utf8.decode s pos).2); omega
  ·simp
theorem decodeGo_at (s : ByteArray) (pos : Nat) (h : pos < s.size) : Lib.decodeGo (s.extract pos s.size) = Utf8.decode s pos:=by
 unfold Lib.decodeGo
 rw [if_neg (by rw [ByteArray.size_extract]; omega),Lib.tail_decode,Nat.add_zero]
def runesR (s : ByteArray) (acc : List Int) (pos : Nat) : List Int × Bool:=if (Qcc s s.size pos).all runeOk = true then (acc ++ Qcc s s.size pos,true) else ([],false)
theorem Runes_loop (s : ByteArray) (hs : s.size ≤ 35184372088000) : ∀ d pos (acc : List Int),s.size ≤ pos + d → pos ≤ s.size → acc.length ≤ pos → Ev (fun k => r1_Runes.l0 k s acc (pos : Int)) (runesR s acc pos)
 | 0,pos,acc,h,hp,_ => by
  unfold runesR
  rw [decFrom_end s pos (by omega),List.all_nil,if_pos rfl,List.append_nil]
  exact Ev.step (f:=fun _ => some (acc,true)) (fun k => by simp only [r1_Runes.l0]; rw [if_neg (by omega)]) (Ev.now _)
 | d + 1,pos,acc,h,hp,ha => by
  by_cases hlt : pos < s.size
  ·have hw:=decode_le s pos hlt
   have ih:=Runes_loop s hs d (pos + (Utf8.decode s pos).2) (acc ++ [((Utf8.decode s pos).1 : Int)]) (by omega) hw.2 (by simp; omega)
   have hf : utf8_DecodeRuneInString.f (s.extract (pos : Int).toNat s.size) = some (((Utf8.decode s pos).1 : Int),((Utf8.decode s pos).2 : Int)):=by
    unfold utf8_DecodeRuneInString.f
    rw [Int.toNat_natCast,decodeGo_at s pos hlt]
   unfold runesR at ih ⊢
   rw [decFrom_step s pos hlt,List.all_cons]
   cases hr : runeOk ((Utf8.decode s pos).1 : Int)
   ·simp only [Bool.false_and,Bool.false_eq_true,if_false]
    refine Ev.step (f:=fun _ => some ([],false)) (fun k => ?_) (Ev.now _)
    simp only [r1_Runes.l0]
    rw [if_pos (by omega),if_pos (by omega),if_pos (by omega),hf,Option.bind_some,ref1_Rune_f,Option.bind_some,hr]
    rfl
   ·simp only [Bool.true_and]
    rw [List.append_assoc,List.singleton_append] at ih
    refine Ev.step (fun k => ?_) ih
    simp only [r1_Runes.l0]
    rw [if_pos (by omega),if_pos (by omega),if_pos (by omega),hf,Option.bind_some,ref1_Rune_f,Option.bind_some,hr,if_pos rfl,if_pos (by omega),Qai (by omega) (by omega)]
    simp only [Int.natCast_add]
  ·have hpe : pos = s.size:=by omega
   unfold runesR
   rw [decFrom_end s pos (by omega),List.all_nil,if_pos rfl,List.append_nil]
   exact Ev.step (f:=fun _ => some (acc,true)) (fun k => by simp only [r1_Runes.l0]; rw [if_neg (by omega)]) (Ev.now _)
theorem Runes_ev (s : ByteArray) (hs : s.size ≤ 35184372088000) : Ev (fun k => r1_Runes.f k s) (if textOk s = true then (runesOf s,true) else ([],false)) :=
 Runes_loop s hs s.size 0 [] (by omega) (Nat.zero_le _) (Nat.le_refl _)
theorem Qbq (e : SElem) : r4_Begin.f e.f0 e.f1 e.f2 = some (Qaj e):=rfl
theorem ref0_Between_f (a b c : Int) : r0_Between.f a b c = some (decide (b ≤ a) && decide (a ≤ c)):=by
 unfold r0_Between.f
 by_cases h : b ≤ a <;> simp [h]
theorem ref4_name_f (a b : Int) : r4_name.f a b = some (nameOk a b):=by
 unfold r4_name.f nameOk
 rw [ref0_Between_f,ref0_Between_f]
 simp only [Option.bind_some]
 cases decide (1 ≤ a) <;> cases decide (a ≤ 8) <;> simp
theorem ref0_Num_f (a b : Int) : r0_Num.f a b = some (decide (0 ≤ a) && decide (a ≤ b)):=by
 unfold r0_Num.f
 by_cases h : 0 ≤ a <;> simp [h]
theorem ref4_Elem_f (e : SElem) : r4_Elem.f e.f0 e.f1 e.f2 = some (Qch e):=by
 unfold r4_Elem.f Qch
 rw [Qbq,ref4_name_f,ref0_Num_f]
 simp only [Option.bind_some]
 have : decide (e.f2 ≤ 11) = decide (e.f2 < 12):=decide_eq_decide.2 (by omega)
 rw [this]
 cases Qaj e <;> cases nameOk e.f0 e.f1 <;> simp
theorem ref4_Less_f (a b : SElem) : r4_Less.f a.f0 a.f1 a.f2 b.f0 b.f1 b.f2 = some (elLess a b):=by
 unfold r4_Less.f elLess
 by_cases h0 : a.f0 = b.f0
 ·by_cases h1 : a.f1 = b.f1
  ·simp [h0,h1]
  ·have : ¬ b.f0 < b.f0:=by omega
   simp [h0,h1]
 ·simp [h0]
theorem ref4_own_f (o : SOp) (e : SElem) : r4_own.f o.f0 o.f1 o.f2 o.f3.f0 o.f3.f1 o.f3.f2 o.f4 o.f5 o.f6 o.f7 o.f8 e.f0 e.f1 e.f2 = some (ownEl o e):=by
 unfold r4_own.f ownEl
 by_cases h : e.f0 = o.f0 <;> simp [h]
def Sm2 (o : SOp) : Prop:=o.f4.size ≤ 35184372088000 ∧ o.f5.length ≤ 1000000000000000
theorem ref4_Op_l0 (o : SOp) (h : Sm2 o) : ∀ d i,i + d = o.f5.length →
  Ev (fun k => r4_Op.l0 k (i : Int) o.f0 o.f1 o.f2 o.f3.f0 o.f3.f1 o.f3.f2 o.f4 o.f5 o.f6 o.f7 o.f8) (Qbo o (if i = 0 then none else some (Qaa o.f5 ((i : Int) - 1))) (o.f5.drop i))
 | 0,i,hi => by
  rw [List.drop_eq_nil_of_le (by omega)]
  exact Ev.step (f:=fun _ => some true) (fun k => by simp only [r4_Op.l0]; rw [if_neg (by omega)]) (Ev.now _)
 | d + 1,i,hi => by
  have hlt : i < o.f5.length:=by omega
  have ih:=ref4_Op_l0 o h d (i + 1) (by omega)
  have hw : wrap64 ((i : Int) + 1) = ((i + 1 : Nat) : Int):=Qdf hlt (by have:=h.2; omega)
  have hw1 : wrap64 ((i : Int) - 1) = (i : Int) - 1:=Qai (by omega) (by have:=h.2; omega)
  have hd : o.f5.drop i = Qaa o.f5 (i : Int) :: o.f5.drop (i + 1):=by rw [Qan _ _ hlt]; exact List.drop_eq_getElem_cons hlt
  rw [hd]
  generalize hx : Qaa o.f5 (i : Int) = x at ih ⊢
  have hp1 : Qaa o.f5 (((i + 1 : Nat) : Int) - 1) = x:=by rw [show (((i + 1 : Nat) : Int) - 1) = (i : Int) by omega]; exact hx
  rw [if_neg (show ¬ i + 1 = 0 by omega),hp1] at ih
  have unf : ∀ k,r4_Op.l0 (k + 1) (i : Int) o.f0 o.f1 o.f2 o.f3.f0 o.f3.f1 o.f3.f2 o.f4 o.f5 o.f6 o.f7 o.f8 =
    (if Qaj x = true then some false else if Qch x = true then (if ownEl o x = true then some false else if (i : Int) > 0 then
     (if elLess (Qaa o.f5 ((i : Int) - 1)) x = true then r4_Op.l0 k ((i + 1 : Nat) : Int) o.f0 o.f1 o.f2 o.f3.f0 o.f3.f1 o.f3.f2 o.f4 o.f5 o.f6 o.f7 o.f8 else some false)
     else r4_Op.l0 k ((i + 1 : Nat) : Int) o.f0 o.f1 o.f2 o.f3.f0 o.f3.f1 o.f3.f2 o.f4 o.f5 o.f6 o.f7 o.f8) else some false):=by
   intro k
   simp only [r4_Op.l0]
   rw [if_pos (by omega),if_pos (by omega),hx,Qbq,ref4_Elem_f,ref4_own_f,hw,hw1]
   simp only [Option.bind_some]
   by_cases hi0 : (i : Int) > 0
   ·simp only [if_pos hi0]
    rw [if_pos (show (0 : Int) ≤ (i : Int) - 1 by omega),if_pos (show (i : Int) - 1 < (o.f5.length : Int) by omega),ref4_Less_f]
    rfl
   ·simp only [if_neg hi0]
  unfold Qbo
  have no : ∀ c : Bool,c = false → (∀ k,r4_Op.l0 (k + 1) (i : Int) o.f0 o.f1 o.f2 o.f3.f0 o.f3.f1 o.f3.f2 o.f4 o.f5 o.f6 o.f7 o.f8 = some false) → Ev (fun k => r4_Op.l0 k (i : Int) o.f0 o.f1 o.f2 o.f3.f0 o.f3.f1 o.f3.f2 o.f4 o.f5 o.f6 o.f7 o.f8) c:=by
   intro c hc hk; subst hc; exact Ev.step (f:=fun _ => some false) hk (Ev.now _)
  cases hb : Qaj x
  ·cases he : Qch x
   ·exact no _ (by simp) (fun k => by rw [unf,hb,he]; simp)
   ·cases ho : ownEl o x
    ·by_cases hi0 : i = 0
     ·subst hi0
      simp only [if_true,Bool.not_false,Bool.true_and]
      exact Ev.step (fun k => by rw [unf,hb,he,ho]; simp) ih
     ·simp only [if_neg hi0]
      cases hl : elLess (Qaa o.f5 ((i : Int) - 1)) x
      ·exact no _ (by simp [hl]) (fun k => by rw [unf,hb,he,ho,hl]; simp; omega)
      ·simp only [Bool.not_false,Bool.true_and]
       exact Ev.step (fun k => by rw [unf,hb,he,ho,hl]; simp) ih
    ·exact no _ (by simp) (fun k => by rw [unf,hb,he,ho]; simp)
  ·exact no _ (by simp) (fun k => by rw [unf,hb]; simp)
theorem Op_l0_start (o : SOp) (h : Sm2 o) : Ev (fun k => r4_Op.l0 k 0 o.f0 o.f1 o.f2 o.f3.f0 o.f3.f1 o.f3.f2 o.f4 o.f5 o.f6 o.f7 o.f8) (Qbo o none o.f5):=by
 have:=ref4_Op_l0 o h o.f5.length 0 (Nat.zero_add _)
 simpa using this
theorem Op_j1 (o : SOp) (h : Sm2 o) (b : Bool) : Ev (fun k => r4_Op.j1 k b o.f0 o.f1 o.f2 o.f3.f0 o.f3.f1 o.f3.f2 o.f4 o.f5 o.f6 o.f7 o.f8) (!b && Qbo o none o.f5):=by
 cases b
 ·simp only [Bool.not_false,Bool.true_and]
  exact Ev.step (fun k => by simp only [r4_Op.j1]; rw [if_neg (by decide)]) (Op_l0_start o h)
 ·simp only [Bool.not_true,Bool.false_and]
  exact Ev.step (f:=fun _ => some false) (fun k => by simp only [r4_Op.j1]; rw [if_pos True.intro]) (Ev.now _)
def restOk (o : SOp) : Bool:=textOk o.f4 && (decide (Qal o ≤ 12) && (Qch o.f3 && (!(decide (Qal o = 0) && !Qaj o.f3) && (!ownEl o o.f3 && Qbo o none o.f5))))
theorem Op_j0 (o : SOp) (h : Sm2 o) (b : Bool) : Ev (fun k => r4_Op.j0 k b o.f0 o.f1 o.f2 o.f3.f0 o.f3.f1 o.f3.f2 o.f4 o.f5 o.f6 o.f7 o.f8) (!b && restOk o):=by
 cases b
 ·simp only [Bool.not_false,Bool.true_and]
  have hR:=Runes_ev o.f4 h.1
  unfold restOk
  obtain ⟨F,hF⟩ : ∃ F : Nat → List Int × Bool → Option Bool,F = (fun k bt => (if bt.2 = true then (if (bt.1.length : Int) > 12 then (r4_Op.j1 k true o.f0 o.f1 o.f2 o.f3.f0 o.f3.f1 o.f3.f2 o.f4 o.f5 o.f6 o.f7 o.f8) else ((r4_Elem.f o.f3.f0 o.f3.f1 o.f3.f2).bind fun t176 => (if t176 = true then (if (bt.1.length : Int) = 0 then ((r4_Begin.f o.f3.f0 o.f3.f1 o.f3.f2).bind fun t177 => (if t177 = true then ((r4_own.f o.f0 o.f1 o.f2 o.f3.f0 o.f3.f1 o.f3.f2 o.f4 o.f5 o.f6 o.f7 o.f8 o.f3.f0 o.f3.f1 o.f3.f2).bind fun t178 => (r4_Op.j1 k t178 o.f0 o.f1 o.f2 o.f3.f0 o.f3.f1 o.f3.f2 o.f4 o.f5 o.f6 o.f7 o.f8)) else (r4_Op.j1 k true o.f0 o.f1 o.f2 o.f3.f0 o.f3.f1 o.f3.f2 o.f4 o.f5 o.f6 o.f7 o.f8))) else ((r4_own.f o.f0 o.f1 o.f2 o.f3.f0 o.f3.f1 o.f3.f2 o.f4 o.f5 o.f6 o.f7 o.f8 o.f3.f0 o.f3.f1 o.f3.f2).bind fun t179 => (r4_Op.j1 k t179 o.f0 o.f1 o.f2 o.f3.f0 o.f3.f1 o.f3.f2 o.f4 o.f5 o.f6 o.f7 o.f8))) else (r4_Op.j1 k true o.f0 o.f1 o.f2 o.f3.f0 o.f3.f1 o.f3.f2 o.f4 o.f5 o.f6 o.f7 o.f8)))) else (r4_Op.j1 k true o.f0 o.f1 o.f2 o.f3.f0 o.f3.f1 o.f3.f2 o.f4 o.f5 o.f6 o.f7 o.f8))):=⟨_,rfl⟩
  refine Ev.step (f:=fun k => (r1_Runes.f k o.f4).bind (F k)) (fun k => ?_) (Ev.bind hR ?_)
  ·simp only [r4_Op.j0]; rw [if_neg (by decide),hF]
  ·rw [hF]
   have hn : ∀ x : Bool,Ev (fun k => r4_Op.j1 k true o.f0 o.f1 o.f2 o.f3.f0 o.f3.f1 o.f3.f2 o.f4 o.f5 o.f6 o.f7 o.f8) (x && false):=fun x => by rw [Bool.and_false]; exact Op_j1 o h true
   simp only [ref4_Elem_f,ref4_own_f,Qbq,Option.bind_some]
   cases ht : textOk o.f4
   ·simp only [Bool.false_eq_true,if_false,Bool.false_and]
    exact Op_j1 o h true
   ·simp only [if_true,Bool.true_and]
    have hl : (runesOf o.f4).length = Qal o:=rfl
    rw [hl]
    by_cases h12 : Qal o ≤ 12
    ·have e12 : decide (Qal o ≤ 12) = true:=decide_eq_true h12
     rw [e12,Bool.true_and]
     have n12 : ¬ ((Qal o : Int) > 12):=by omega
     simp only [if_neg n12]
     cases he : Qch o.f3
     ·simp only [Bool.false_eq_true,if_false,Bool.false_and]
      exact Op_j1 o h true
     ·simp only [if_true,Bool.true_and]
      by_cases h0 : Qal o = 0
      ·have h0i : (Qal o : Int) = 0:=by omega
       simp only [if_pos h0i,h0,decide_true,Bool.true_and,Bool.not_not]
       cases hb : Qaj o.f3
       ·simp only [Bool.false_eq_true,if_false,Bool.false_and]
        exact Op_j1 o h true
       ·simp only [if_true,Bool.true_and]
        exact Op_j1 o h _
      ·have h0i : ¬ (Qal o : Int) = 0:=by omega
       have e0 : decide (Qal o = 0) = false:=decide_eq_false h0
       simp only [if_neg h0i,e0,Bool.false_and,Bool.not_false,Bool.true_and]
       exact Op_j1 o h _
    ·have e12 : decide (Qal o ≤ 12) = false:=decide_eq_false h12
     rw [e12,Bool.false_and]
     have n12 : (Qal o : Int) > 12:=by omega
     simp only [if_pos n12]
     exact Op_j1 o h true
 ·simp only [Bool.not_true,Bool.false_and]
  exact Ev.step (f:=fun _ => some false) (fun k => by simp only [r4_Op.j0]; rw [if_pos True.intro]) (Ev.now _)
theorem editOk_rest (o : SOp) : editOk o = (o.f6 == 0 && (o.f7 == 0 && (o.f8 == 0 && (decide (o.f5.length ≤ 200) && (!(o.f4.toList.isEmpty && o.f5.isEmpty) && restOk o))))):=by
 unfold editOk restOk goneOk
 have : decide (Qal o = 0) = o.f4.toList.isEmpty:=by
  rw [Bool.eq_iff_iff,decide_eq_true_eq]; exact (runesOf_nil o.f4)
 rw [this]
 cases o.f6 == 0 <;> cases o.f7 == 0 <;> cases o.f8 == 0 <;> cases decide (o.f5.length ≤ 200) <;> cases o.f4.toList.isEmpty <;> cases o.f5.isEmpty <;> cases textOk o.f4 <;> cases decide (Qal o ≤ 12) <;> cases Qch o.f3 <;> cases Qaj o.f3 <;> cases ownEl o o.f3 <;> cases Qbo o none o.f5 <;> rfl
theorem Op_ev (o : SOp) (h : Sm2 o) : Ev (fun k => r4_Op.f k o.f0 o.f1 o.f2 o.f3.f0 o.f3.f1 o.f3.f2 o.f4 o.f5 o.f6 o.f7 o.f8) (opOk o):=by
 unfold r4_Op.f opOk
 simp only [ref4_name_f,Qbq,ref0_Num_f,Option.bind_some]
 cases nameOk o.f0 o.f1
 ·simp only [Bool.false_eq_true,if_false,Bool.false_and]; exact Ev.now _
 ·simp only [if_true,Bool.true_and]
  by_cases h2 : o.f2 = 2
  ·have h1 : ¬ o.f2 = 1:=by omega
   rw [if_neg h1]
   simp only [h2,if_true,beq_self_eq_true,Bool.true_and]
   unfold Qbz
   refine Ev.congr (fun k => ?_) (Ev.now _)
   have hl : ((o.f5.length : Int) == 0) = o.f5.isEmpty:=isEmpty_len _
   have ht : (o.f4.toList = ([] : List UInt8)) ↔ o.f4.toList.isEmpty = true:=toList_isEmpty _
   simp only [hl,ht]
   cases nameOk o.f6 o.f7
   ·simp
   ·by_cases e6 : o.f6 = o.f0 <;> by_cases e7 : o.f7 = o.f1 <;> by_cases e8 : 0 ≤ o.f8 <;> by_cases e9 : o.f8 ≤ 268435456 <;> cases Qaj o.f3 <;> cases o.f4.toList.isEmpty <;> simp [e6,e7,e8,e9]
  ·have e2 : (o.f2 == 2) = false:=by simp [h2]
   simp only [if_neg h2]
   by_cases h1 : o.f2 = 1
   ·simp only [if_pos h1]
    rw [editOk_rest]
    by_cases e6 : o.f6 = 0
    ·simp only [if_pos e6]
     by_cases e7 : o.f7 = 0
     ·simp only [if_pos e7]
      by_cases e8 : o.f8 = 0
      ·simp only [if_pos e8]
       have b6 : (o.f6 == 0) = true:=by simp [e6]
       have b7 : (o.f7 == 0) = true:=by simp [e7]
       have b8 : (o.f8 == 0) = true:=by simp [e8]
       rw [b6,b7,b8,Bool.true_and,Bool.true_and,Bool.true_and]
       by_cases e5 : o.f5.length ≤ 200
       ·have n5 : ¬ (o.f5.length : Int) > 200:=by omega
        have d5 : decide (o.f5.length ≤ 200) = true:=decide_eq_true e5
        simp only [if_neg n5,d5,Bool.true_and,isEmpty_len]
        by_cases e4 : o.f4.toList = ([] : List UInt8)
        ·simp only [if_pos e4,List.isEmpty_iff.2 e4,Bool.true_and]; exact Op_j0 o h _
        ·have : o.f4.toList.isEmpty = false:=by cases hh : o.f4.toList.isEmpty; rfl; exact absurd (List.isEmpty_iff.1 hh) e4
         simp only [if_neg e4,this,Bool.false_and]; exact Op_j0 o h _
       ·have n5 : (o.f5.length : Int) > 200:=by omega
        have d5 : decide (o.f5.length ≤ 200) = false:=decide_eq_false e5
        simp only [if_pos n5,d5,Bool.false_and]; exact Op_j0 o h _
      ·have b8 : (o.f8 == 0) = false:=by simp [e8]
       simp only [if_neg e8,b8,Bool.false_and,Bool.and_false]; exact Op_j0 o h _
     ·have b7 : (o.f7 == 0) = false:=by simp [e7]
      simp only [if_neg e7,b7,Bool.false_and,Bool.and_false]; exact Op_j0 o h _
    ·have b6 : (o.f6 == 0) = false:=by simp [e6]
     simp only [if_neg e6,b6,Bool.false_and]; exact Op_j0 o h _
   ·simp only [if_neg h1,e2,Bool.false_and]; have hh:=Op_j0 o h true; simp only [Bool.not_true,Bool.false_and] at hh; exact hh
theorem Find_loop (l : List SOp) (hl : l.length ≤ 1000000000000) (a b : Int) : ∀ d i,i + d = l.length → Ev (fun k => r4_Find.l0 k l a b (i : Int)) (Qaz (fun i => nameIs a b (Qad l i)) l.length d i)
 | 0,i,h => Ev.step (f:=fun _ => some (-1)) (fun k => by simp only [r4_Find.l0]; rw [if_neg (by omega)]) (Ev.now _)
 | d + 1,i,h => by
  have ih:=Find_loop l hl a b d (i + 1) (by omega)
  unfold Qaz
  rw [if_pos (show i < l.length by omega)]
  by_cases h0 : (Qad l (i : Int)).f0 = a
  ·by_cases h1 : (Qad l (i : Int)).f1 = b
   ·rw [if_pos (by unfold nameIs; simp [h0,h1])]
    refine Ev.step (f:=fun _ => some (i : Int)) (fun k => ?_) (Ev.now _)
    simp only [r4_Find.l0]
    rw [if_pos (by omega),if_pos (by omega),if_pos h0,if_pos h1]
   ·rw [if_neg (by unfold nameIs; simp [h1])]
    refine Ev.step (fun k => ?_) ih
    simp only [r4_Find.l0]
    rw [if_pos (by omega),if_pos (by omega),if_pos h0,if_neg h1,Qdf (show i < l.length by omega) (by omega)]
  ·rw [if_neg (by unfold nameIs; simp [h0])]
   refine Ev.step (fun k => ?_) ih
   simp only [r4_Find.l0]
   rw [if_pos (by omega),if_pos (by omega),if_neg h0,Qdf (show i < l.length by omega) (by omega)]
theorem Find_ev (l : List SOp) (hl : l.length ≤ 1000000000000) (a b : Int) : Ev (fun k => r4_Find.f k l a b) (Qbd l a b):=Find_loop l hl a b l.length 0 (Nat.zero_add _)
def runesN (o : SOp) : Nat:=if textOk o.f4 = true then Qal o else 0
theorem RunesO_ev (o : SOp) (h : o.f4.size ≤ 35184372088000) : Ev (fun k => r4_Runes.f k o.f0 o.f1 o.f2 o.f3.f0 o.f3.f1 o.f3.f2 o.f4 o.f5 o.f6 o.f7 o.f8) (runesN o : Int):=by
 refine Ev.bind (f:=fun _ (bt : List Int × Bool) => some (bt.1.length : Int)) (Runes_ev o.f4 h) ?_
 unfold runesN
 cases textOk o.f4
 ·exact Ev.now _
 ·exact Ev.now _
theorem opOk_text {o : SOp} (h : opOk o = true) : runesN o = Qal o:=by
 unfold runesN
 rcases Qcu h with ⟨_,h2⟩ | ⟨h1,h2⟩
 ·unfold editOk at h2; simp only [Bool.and_eq_true] at h2
  rw [if_pos h2.1.1.1.1.1.2]
 ·have:=(Qct h).2 h1
  split <;> omega
def Qby (l : List SOp) (e : SElem) : Bool:=Qaj e || (decide (0 ≤ Qbd l e.f0 e.f1) && decide (0 ≤ e.f2) && decide (e.f2 < (runesN (Qad l (Qbd l e.f0 e.f1)) : Int)))
theorem written_ev (l : List SOp) (hl : l.length ≤ 1000000000000) (hs : ∀ o ∈ l,o.f4.size ≤ 35184372088000) (e : SElem) : Ev (fun k => r4_written.f k l e.f0 e.f1 e.f2) (Qby l e):=by
 unfold r4_written.f Qby
 simp only [Qbq,Option.bind_some]
 cases Qaj e
 ·simp only [Bool.false_eq_true,if_false,Bool.false_or]
  refine Ev.bind (Find_ev l hl e.f0 e.f1) ?_
  rcases Qay l e.f0 e.f1 with ⟨i,hi,_,_,_,ef⟩ | ⟨_,ef⟩
  ·rw [ef]
   have h0 : (i : Int) ≥ 0:=by omega
   have d0 : decide ((0 : Int) ≤ (i : Int)) = true:=decide_eq_true (by omega)
   simp only [if_pos h0,d0,Bool.true_and]
   by_cases h2 : e.f2 ≥ 0
   ·have d2 : decide ((0 : Int) ≤ e.f2) = true:=decide_eq_true h2
    have h3 : (i : Int) < (l.length : Int):=by omega
    have h4 : (0 : Int) ≤ (i : Int):=by omega
    simp only [if_pos h2,d2,if_pos h3,if_pos h4,Bool.true_and]
    refine Ev.bind (f:=fun _ t => some (decide (e.f2 < t))) (RunesO_ev (Qad l (i : Int)) (by rw [Qao _ _ hi]; exact hs _ (List.getElem_mem hi))) (Ev.now _)
   ·have d2 : decide ((0 : Int) ≤ e.f2) = false:=decide_eq_false (by omega)
    simp only [if_neg h2,d2,Bool.false_and]; exact Ev.now _
  ·rw [ef]
   have h0 : ¬ (-1 : Int) ≥ 0:=by omega
   simp only [if_neg h0]; exact Ev.now _
 ·simp only [if_true,Bool.true_or]; exact Ev.now _
theorem countS_take (l : List SOp) (a : Int) (i : Nat) (h : i < l.length) : Qcp (l.take (i + 1)) a = Qcp (l.take i) a + if l[i].f0 = a then 1 else 0:=by
 rw [List.take_succ_eq_append_getElem h,countS_app]
theorem Many_loop (l : List SOp) (hl : l.length ≤ 1000000000000) (a : Int) : ∀ d i,i + d = l.length → Ev (fun k => r4_Many.l0 k l a (Qcp (l.take i) a : Int) (i : Int)) (Qcp l a : Int)
 | 0,i,h => by
  rw [List.take_of_length_le (by omega)]
  exact Ev.step (f:=fun _ => some (Qcp l a : Int)) (fun k => by simp only [r4_Many.l0]; rw [if_neg (by omega)]) (Ev.now _)
 | d + 1,i,h => by
  have ih:=Many_loop l hl a d (i + 1) (by omega)
  have hlt : i < l.length:=by omega
  have hc : Qcp (l.take i) a ≤ i:=Nat.le_trans (countS_le _ _) (by rw [List.length_take]; omega)
  rw [countS_take l a i hlt] at ih
  refine Ev.step (fun k => ?_) ih
  simp only [r4_Many.l0]
  rw [if_pos (by omega),if_pos (by omega),Qao _ _ hlt,Qdf hlt (by omega),Qai (i:=(Qcp (l.take i) a : Int) + 1) (by omega) (by omega)]
  by_cases h0 : l[i].f0 = a
  ·rw [if_pos h0,if_pos h0]; rfl
  ·rw [if_neg h0,if_neg h0]; rfl
theorem Many_ev (l : List SOp) (hl : l.length ≤ 1000000000000) (a : Int) : Ev (fun k => r4_Many.f k l a) (Qcp l a : Int):=Many_loop l hl a l.length 0 (Nat.zero_add _)
def editN (l : List SOp) (a b : Int) : Bool:=decide (0 ≤ Qbd l a b) && ((Qad l (Qbd l a b)).f2 == 1)
theorem Edit_ev (l : List SOp) (hl : l.length ≤ 1000000000000) (a b : Int) : Ev (fun k => r4_Edit.f k l a b) (editN l a b):=by
 refine Ev.bind (f:=fun _ t => if t ≥ 0 then (if 0 ≤ t then (if t < (l.length : Int) then some ((Qad l t).f2 == 1) else none) else none) else some false) (Find_ev l hl a b) ?_
 unfold editN
 rcases Qay l a b with ⟨i,hi,_,_,_,ef⟩ | ⟨_,ef⟩
 ·rw [ef]
  refine Ev.congr (fun k => ?_) (Ev.now _)
  rw [if_pos (by omega),if_pos (by omega),if_pos (by omega),decide_eq_true (show (0 : Int) ≤ (i : Int) by omega),Bool.true_and]
 ·rw [ef]; exact Ev.now _
structure SmL (l : List SOp) : Prop where
 len : l.length ≤ 1000000000000
 ops : ∀ o ∈ l,Sm2 o
theorem SmL.take {l : List SOp} (h : SmL l) (n : Nat) : SmL (l.take n):=⟨by have:=h.len; rw [List.length_take]; omega,fun o ho => h.ops o (List.mem_of_mem_take ho)⟩
def goesN (l : List SOp) (o : SOp) : Bool:=opOk o && (decide (o.f1 = (Qcp l o.f0 : Int) + 1) && (Qby l o.f3 && (o.f5.all (Qby l) && (o.f2 == 1 || editN l o.f6 o.f7))))
theorem Goes_l0 (l : List SOp) (hl : SmL l) (o : SOp) (h : Sm2 o) : ∀ d i,i + d = o.f5.length → Ev (fun k => r4_Goes.l0 k l (i : Int) o.f0 o.f1 o.f2 o.f3.f0 o.f3.f1 o.f3.f2 o.f4 o.f5 o.f6 o.f7 o.f8) ((o.f5.drop i).all (Qby l) && (o.f2 == 1 || editN l o.f6 o.f7))
 | 0,i,hi => by
  rw [List.drop_eq_nil_of_le (by omega)]
  simp only [List.all_nil,Bool.true_and]
  by_cases h1 : o.f2 = 1
  ·have : (o.f2 == 1) = true:=by simp [h1]
   rw [this,Bool.true_or]
   exact Ev.step (f:=fun _ => some true) (fun k => by simp only [r4_Goes.l0]; rw [if_neg (by omega),if_pos h1]) (Ev.now _)
  ·have : (o.f2 == 1) = false:=by simp [h1]
   rw [this,Bool.false_or]
   refine Ev.step (f:=fun k => (r4_Edit.f k l o.f6 o.f7).bind fun t => some t) (fun k => by simp only [r4_Goes.l0]; rw [if_neg (by omega),if_neg h1]) (Ev.bind (f:=fun _ t => some t) (Edit_ev l hl.len o.f6 o.f7) (Ev.now _))
 | d + 1,i,hi => by
  have hlt : i < o.f5.length:=by omega
  have ih:=Goes_l0 l hl o h d (i + 1) (by omega)
  rw [List.drop_eq_getElem_cons hlt,List.all_cons]
  have hw:=written_ev l hl.len (fun o ho => (hl.ops o ho).1) o.f5[i]
  refine Ev.step (f:=fun k => (r4_written.f k l o.f5[i].f0 o.f5[i].f1 o.f5[i].f2).bind fun t => if t = true then r4_Goes.l0 k l ((i + 1 : Nat) : Int) o.f0 o.f1 o.f2 o.f3.f0 o.f3.f1 o.f3.f2 o.f4 o.f5 o.f6 o.f7 o.f8 else some false) (fun k => ?_) (Ev.bind (f:=fun k t => if t = true then r4_Goes.l0 k l ((i + 1 : Nat) : Int) o.f0 o.f1 o.f2 o.f3.f0 o.f3.f1 o.f3.f2 o.f4 o.f5 o.f6 o.f7 o.f8 else some false) hw ?_)
  ·simp only [r4_Goes.l0]
   rw [if_pos (by omega),if_pos (by omega),Qan _ _ hlt,Qdf hlt (by have:=h.2; omega)]
  ·cases Qby l o.f5[i]
   ·simp only [Bool.false_and,Bool.false_eq_true,if_false]; exact Ev.now _
   ·simp only [Bool.true_and,if_true]; exact ih
theorem Goes_ev (l : List SOp) (hl : SmL l) (o : SOp) (h : Sm2 o) : Ev (fun k => r4_Goes.f k l o.f0 o.f1 o.f2 o.f3.f0 o.f3.f1 o.f3.f2 o.f4 o.f5 o.f6 o.f7 o.f8) (goesN l o):=by
 have hj : ∀ b : Bool,Ev (fun k => r4_Goes.j0 k l b o.f0 o.f1 o.f2 o.f3.f0 o.f3.f1 o.f3.f2 o.f4 o.f5 o.f6 o.f7 o.f8) (!b && (o.f5.all (Qby l) && (o.f2 == 1 || editN l o.f6 o.f7))):=by
  intro b
  cases b
  ·simp only [Bool.not_false,Bool.true_and]
   exact Ev.step (fun k => by simp only [r4_Goes.j0]; rw [if_neg (by decide)]; rfl) (Goes_l0 l hl o h o.f5.length 0 (Nat.zero_add _))
  ·simp only [Bool.not_true,Bool.false_and]
   exact Ev.step (f:=fun _ => some false) (fun k => by simp only [r4_Goes.j0]; rw [if_pos True.intro]) (Ev.now _)
 have hjt:=hj true
 simp only [Bool.not_true,Bool.false_and] at hjt
 unfold r4_Goes.f goesN
 refine Ev.bind (Op_ev o h) ?_
 cases opOk o
 ·simp only [Bool.false_eq_true,if_false,Bool.false_and]; exact hjt
 ·simp only [if_true,Bool.true_and]
  refine Ev.bind (Many_ev l hl.len o.f0) ?_
  have hc:=countS_le l o.f0
  have hlen:=hl.len
  simp only [Qai (show -9223372036854775808 ≤ (Qcp l o.f0 : Int) + 1 by omega) (show (Qcp l o.f0 : Int) + 1 ≤ 9223372036854775807 by omega)]
  by_cases hq : o.f1 = (Qcp l o.f0 : Int) + 1
  ·simp only [if_pos hq,decide_eq_true hq,Bool.true_and]
   refine Ev.bind (written_ev l hl.len (fun o ho => (hl.ops o ho).1) o.f3) ?_
   have:=hj (!Qby l o.f3)
   rw [Bool.not_not] at this
   exact this
  ·simp only [if_neg hq,decide_eq_false hq,Bool.false_and]; exact hjt
def Qcx (l : List SOp) : Nat:=(l.map runesN).sum
theorem totalN_take (l : List SOp) (i : Nat) (h : i < l.length) : Qcx (l.take (i + 1)) = Qcx (l.take i) + runesN l[i]:=by
 unfold Qcx; rw [List.take_succ_eq_append_getElem h,List.map_append,List.sum_append]; simp
theorem sizeOf_le (o : SOp) : Qal o ≤ o.f4.size:=decFrom_len _ _ _
theorem Fits_loop (l : List SOp) (h40 : l.length ≤ 40) (hl : SmL l) : ∀ d i,i + d = l.length → Qcx (l.take i) ≤ i * 35184372088000 → Ev (fun k => r4_Fits.l0 k l (Qcx (l.take i) : Int) (i : Int)) (decide (Qcx l ≤ 200))
 | 0,i,h,_ => by
  rw [List.take_of_length_le (by omega)]
  have : decide ((Qcx l : Int) ≤ 200) = decide (Qcx l ≤ 200):=decide_eq_decide.2 (by omega)
  exact Ev.step (f:=fun _ => some (decide (Qcx l ≤ 200))) (fun k => by simp only [r4_Fits.l0]; rw [if_neg (by omega),if_pos (by omega),this]) (Ev.now _)
 | d + 1,i,h,ht => by
  have hlt : i < l.length:=by omega
  have hr : runesN l[i] ≤ 35184372088000:=by
   have:=(hl.ops _ (List.getElem_mem hlt)).1
   have:=sizeOf_le l[i]
   unfold runesN; split <;> omega
  have e:=totalN_take l i hlt
  have ih:=Fits_loop l h40 hl d (i + 1) (by omega) (by rw [e]; omega)
  rw [e] at ih
  have hR:=RunesO_ev l[i] (hl.ops _ (List.getElem_mem hlt)).1
  refine Ev.step (fun k => ?_) (Ev.bind (f:=fun k t => r4_Fits.l0 k l (wrap64 ((Qcx (l.take i) : Int) + t)) ((i + 1 : Nat) : Int)) hR ?_)
  ·simp only [r4_Fits.l0]
   rw [if_pos (by omega),if_pos (by omega),if_pos (by omega),Qao _ _ hlt,Qdf hlt (by omega)]
  ·rw [Qai (by omega) (by omega)]
   exact ih
theorem Fits_ev (l : List SOp) (h40 : l.length ≤ 40) (hl : SmL l) : Ev (fun k => r4_Fits.f k l) (decide (Qcx l ≤ 200)):=by
 have h:=Fits_loop l h40 hl l.length 0 (Nat.zero_add _) (by rw [List.take_zero]; exact Nat.zero_le _)
 have e : Qcx (l.take 0) = 0:=by rw [List.take_zero]; rfl
 rw [e] at h
 exact h
def rowR (l : List SOp) (i : Nat) : Bool:=(List.range' i (l.length - i)).all (fun j => goesN (l.take j) (Qad l (j : Int))) && decide (Qcx l ≤ 200)
theorem Row_loop (l : List SOp) (h40 : l.length ≤ 40) (hl : SmL l) : ∀ d i,i + d = l.length → Ev (fun k => r4_Row.l0 k l (i : Int)) (rowR l i)
 | 0,i,h => by
  unfold rowR
  rw [show l.length - i = 0 by omega]
  simp only [List.range'_zero,List.all_nil,Bool.true_and]
  refine Ev.step (fun k => by simp only [r4_Row.l0]; rw [if_neg (by omega)]) (Ev.bind (f:=fun _ t => some t) (Fits_ev l h40 hl) (Ev.now _))
 | d + 1,i,h => by
  have hlt : i < l.length:=by omega
  have ih:=Row_loop l h40 hl d (i + 1) (by omega)
  have hG:=Goes_ev (l.take i) (hl.take i) l[i] (hl.ops _ (List.getElem_mem hlt))
  unfold rowR at ih ⊢
  rw [show l.length - i = (l.length - (i + 1)) + 1 by omega,List.range'_succ,List.all_cons,Qao _ _ hlt]
  refine Ev.step (fun k => ?_) (Ev.bind (f:=fun k t => if t = true then r4_Row.l0 k l ((i + 1 : Nat) : Int) else some false) hG ?_)
  ·simp only [r4_Row.l0]
   rw [if_pos (by omega),if_pos (by omega),if_pos (by omega),Qao _ _ hlt,Int.toNat_natCast,Qdf hlt (by omega)]
  ·cases goesN (l.take i) l[i]
   ·simp only [Bool.false_and,Bool.false_eq_true,if_false]; exact Ev.now _
   ·simp only [Bool.true_and,if_true]; exact ih
theorem writtenN_wr {l : List SOp} (hr : RowOk l) (e : SElem) : Qby l e = true ↔ wr l e:=by
 unfold Qby wr
 rw [Bool.or_eq_true]
 refine or_congr Iff.rfl ?_
 simp only [Bool.and_eq_true,decide_eq_true_eq]
 constructor
 ·rintro ⟨⟨h0,h1⟩,h2⟩
  rcases Qay l e.f0 e.f1 with ⟨i,hi,e0,e1,_,ef⟩ | ⟨_,ef⟩
  ·rw [ef,Qao _ _ hi,opOk_text (hr.oks _ (List.getElem_mem hi))] at h2
   exact ⟨h1,l[i],List.getElem_mem hi,e0,e1,h2⟩
  ·omega
 ·rintro ⟨h1,p,hp,e0,e1,h2⟩
  obtain ⟨i,hi,ef,ei⟩:=Qdd hr hp
  rw [← e0,← e1,ef,Qao _ _ hi,ei,opOk_text (hr.oks p hp)]
  exact ⟨⟨by omega,h1⟩,h2⟩
theorem editN_iff {l : List SOp} (hr : RowOk l) (a b : Int) : editN l a b = true ↔ ∃ p ∈ l,p.f2 = 1 ∧ p.f0 = a ∧ p.f1 = b:=by
 unfold editN
 simp only [Bool.and_eq_true,decide_eq_true_eq,beq_iff_eq]
 constructor
 ·rintro ⟨h0,h1⟩
  rcases Qay l a b with ⟨i,hi,e0,e1,_,ef⟩ | ⟨_,ef⟩
  ·rw [ef,Qao _ _ hi] at h1; exact ⟨l[i],List.getElem_mem hi,h1,e0,e1⟩
  ·omega
 ·rintro ⟨p,hp,h2,rfl,rfl⟩
  obtain ⟨i,hi,ef,ei⟩:=Qdd hr hp
  rw [ef,Qao _ _ hi,ei]
  exact ⟨by omega,h2⟩
theorem goesN_iff {l : List SOp} (hr : RowOk l) (o : SOp) : goesN l o = true ↔ GoesR l o:=by
 unfold goesN
 simp only [Bool.and_eq_true,decide_eq_true_eq,Bool.or_eq_true,beq_iff_eq,List.all_eq_true,writtenN_wr hr,editN_iff hr]
 constructor
 ·rintro ⟨h1,h2,h3,h4,h5⟩
  exact ⟨h1,h2,h3,h4,fun e => h5.elim (fun e1 => by omega) id⟩
 ·intro h
  refine ⟨h.ok,h.seq,h.after,h.gone, ?_⟩
  rcases Qcu h.ok with ⟨e,_⟩ | ⟨e,_⟩
  ·exact .inl e
  ·exact .inr (h.tog e)
theorem totalN_eq {l : List SOp} (h : ∀ o ∈ l,opOk o = true) : Qcx l = total l:=by
 unfold Qcx total
 rw [List.map_congr_left (fun o ho => opOk_text (h o ho))]
theorem rowR_iff (l : List SOp) (h40 : l.length ≤ 40) : rowR l 0 = true ↔ RowOk l:=by
 unfold rowR
 rw [Nat.sub_zero]
 simp only [Bool.and_eq_true,decide_eq_true_eq,List.all_eq_true,List.mem_range'_1]
 constructor
 ·rintro ⟨h1,h2⟩
  have key : ∀ n,n ≤ l.length → (∀ i (h : i < l.length),i < n → GoesR (l.take i) l[i]) ∧ (∀ o ∈ l.take n,opOk o = true) ∧ RowOk (l.take n):=by
   intro n
   induction n with
   | zero => intro _; exact ⟨fun i _ h => by omega,fun o ho => by simp at ho,by simpa using RowOk.nil⟩
   | succ n ih =>
    intro hn
    obtain ⟨a,b,c⟩:=ih (by omega)
    have hlt : n < l.length:=by omega
    have g:=h1 n ⟨Nat.zero_le _,by omega⟩
    rw [Qao _ _ hlt] at g
    have g':=(goesN_iff c l[n]).1 g
    have b' : ∀ o ∈ l.take (n + 1),opOk o = true:=by
     rw [List.take_succ_eq_append_getElem hlt]
     intro o ho
     rcases List.mem_append.1 ho with ho | ho
     ·exact b o ho
     ·simp at ho; subst ho; exact g'.ok
    refine ⟨fun i hi hin => ?_,b', ?_⟩
    ·by_cases e : i = n
     ·subst e; exact g'
     ·exact a i hi (by omega)
    ·rw [List.take_succ_eq_append_getElem hlt]
     refine .snoc c ⟨by rw [List.length_take]; omega,g'.ok,g'.seq,g'.after,g'.gone,g'.tog, ?_⟩
     have t1:=totalN_eq b'
     rw [List.take_succ_eq_append_getElem hlt,total_app] at t1
     have t2 : Qcx (l.take (n + 1)) ≤ Qcx l:=by
      have : Qcx (l.take (n + 1)) + Qcx (l.drop (n + 1)) = Qcx l:=by
       unfold Qcx; rw [← List.sum_append,← List.map_append,List.take_append_drop]
      omega
     rw [List.take_succ_eq_append_getElem hlt] at t2
     omega
  have:=(key l.length (Nat.le_refl _)).2.2
  rwa [List.take_length] at this
 ·intro h
  refine ⟨fun j hj => ?_,by rw [totalN_eq h.oks]; exact h.sums.2⟩
  rw [Qao _ _ (by omega)]
  exact (goesN_iff (h.take j) _).2 (((RowOk_iff l).1 h).2.2 j (by omega))
theorem Row_ev (l : List SOp) (hl : SmL l) : Ev (fun k => r4_Row.f k l) (mayB l):=by
 unfold r4_Row.f
 by_cases h40 : l.length ≤ 40
 ·have n40 : ¬ (l.length : Int) > 40:=by omega
  simp only [if_neg n40]
  have : mayB l = rowR l 0:=by rw [Bool.eq_iff_iff,mayB_iff,rowR_iff l h40]
  rw [this]
  exact Row_loop l h40 hl l.length 0 (Nat.zero_add _)
 ·have n40 : (l.length : Int) > 40:=by omega
  simp only [if_pos n40]
  have : mayB l = false:=by unfold mayB; simp [h40]
  rw [this]; exact Ev.now _
end
section
def hungC (l : List SOp) (e : SElem) (k : Nat) : Bool:=!(Qad l (k : Int)).f4.toList.isEmpty && decide (key3 (Qad l (k : Int)).f3 = key3 e)
def hungR (l : List SOp) (e : SElem) (i : Nat) : List SElem:=((List.range i).reverse.filter (hungC l e)).map (fun k : Nat => (⟨(Qad l (k : Int)).f0,(Qad l (k : Int)).f1,0⟩ : SElem))
def tailR (l : List SOp) (e : SElem) : List SElem:=if Qaj e then [] else if Qby l ⟨e.f0,e.f1,wrap64 (e.f2 + 1)⟩ then [⟨e.f0,e.f1,wrap64 (e.f2 + 1)⟩] else []
theorem hungR_succ (l : List SOp) (e : SElem) (i : Nat) : hungR l e (i + 1) = (if hungC l e i = true then [⟨(Qad l (i : Int)).f0,(Qad l (i : Int)).f1,0⟩] else []) ++ hungR l e i:=by
 unfold hungR
 rw [List.range_succ,List.reverse_append,List.reverse_cons,List.reverse_nil,List.nil_append,List.singleton_append,List.filter_cons]
 cases hungC l e i <;> rfl
theorem eqK_iff (x : SElem) (a b c : Int) : (x.f0 == a && (x.f1 == b && (x.f2 == c))) = decide (key3 x = key3 ⟨a,b,c⟩):=by
 rw [eqE_iff,decide_eq_decide]
 exact ⟨fun h => by rw [h],fun h => key3_inj h⟩
theorem Under_loop (l : List SOp) (hl : SmL l) (hn : l.length ≤ 1000000) (e : SElem) : ∀ i (x : List SElem),i ≤ l.length → x.length + i ≤ 1000000 → Ev (fun k => r4_Under.l0 k l x ((i : Int) - 1) e.f0 e.f1 e.f2) (x ++ (hungR l e i ++ tailR l e))
 | 0,x,hi,hx => by
  have e0 : hungR l e 0 = []:=rfl
  rw [e0,List.nil_append]
  unfold tailR
  refine Ev.step (f:=fun k => (some (Qaj e)).bind fun t => if t = true then some x else (r4_written.f k l e.f0 e.f1 (wrap64 (e.f2 + 1))).bind fun t => if t = true then (if x.length < 5864062014805 then some (x ++ [(⟨e.f0,e.f1,wrap64 (e.f2 + 1)⟩ : SElem)]) else none) else some x) (fun k => ?_) ?_
  ·simp only [r4_Under.l0]
   rw [if_neg (by omega),Qbq]
  ·simp only [Option.bind_some]
   cases Qaj e
   ·simp only [Bool.false_eq_true,if_false]
    refine Ev.bind (written_ev l hl.len (fun o ho => (hl.ops o ho).1) ⟨e.f0,e.f1,wrap64 (e.f2 + 1)⟩) ?_
    cases Qby l ⟨e.f0,e.f1,wrap64 (e.f2 + 1)⟩
    ·simp only [Bool.false_eq_true,if_false,List.append_nil]; exact Ev.now _
    ·have hx' : x.length < 5864062014805:=by omega
     simp only [if_true,if_pos hx']; exact Ev.now _
   ·simp only [if_true,List.append_nil]; exact Ev.now _
 | i + 1,x,hi,hx => by
  have hlt : i < l.length:=by omega
  have hw : wrap64 ((((i + 1 : Nat) : Int) - 1) - 1) = (i : Int) - 1:=by rw [Qai (by omega) (by omega)]; omega
  have hr : Qad l (((i + 1 : Nat) : Int) - 1) = Qad l (i : Int):=by rw [show ((i + 1 : Nat) : Int) - 1 = (i : Int) by omega]
  rw [hungR_succ]
  have hk:=eqK_iff (Qad l (i : Int)).f3 e.f0 e.f1 e.f2
  have he : (⟨e.f0,e.f1,e.f2⟩ : SElem) = e:=rfl
  rw [he] at hk
  by_cases hz : (Qad l (i : Int)).f4.toList = []
  ·have hc : hungC l e i = false:=by unfold hungC; rw [hz]; rfl
   rw [hc]
   simp only [Bool.false_eq_true,if_false,List.nil_append]
   refine Ev.step (fun k => ?_) (Under_loop l hl hn e i x (by omega) (by omega))
   simp only [r4_Under.l0]
   rw [if_pos (by omega),if_pos (by omega),if_pos (by omega),hr,hw,if_pos hz]
  ·have hz' : (Qad l (i : Int)).f4.toList.isEmpty = false:=by
    cases hq : (Qad l (i : Int)).f4.toList with
    | nil => exact absurd hq hz
    | cons => rfl
   have hc : hungC l e i = decide (key3 (Qad l (i : Int)).f3 = key3 e):=by unfold hungC; rw [hz']; rfl
   rw [hc]
   by_cases hq : key3 (Qad l (i : Int)).f3 = key3 e
   ·have ih:=Under_loop l hl hn e i (x ++ [⟨(Qad l (i : Int)).f0,(Qad l (i : Int)).f1,0⟩]) (by omega) (by simp; omega)
    rw [if_pos (decide_eq_true hq)]
    rw [List.append_assoc] at ih ⊢
    refine Ev.step (fun k => ?_) ih
    simp only [r4_Under.l0]
    rw [if_pos (by omega),if_pos (by omega),if_pos (by omega),hr,hw,if_neg hz,hk,if_pos (decide_eq_true hq),if_pos (by omega)]
   ·rw [if_neg (by simp [hq]),List.nil_append]
    refine Ev.step (fun k => ?_) (Under_loop l hl hn e i x (by omega) (by omega))
    simp only [r4_Under.l0]
    rw [if_pos (by omega),if_pos (by omega),if_pos (by omega),hr,hw,if_neg hz,hk,if_neg (by simp [hq])]
theorem under_eq {l : List SOp} (h : RowOk l) {e : SElem} (he : e = bgE ∨ e ∈ ordL l) : hungR l e l.length ++ tailR l e = chl l e:=by
 rw [chl_under h he]
 unfold underR hungR tailR
 congr 1
 rcases he with rfl | he
 ·rfl
 ·have hp:=ordL_pos h he
  obtain ⟨p,hp',e0,e1,h2,h3⟩:=(mem_ordL h e).1 he
  have hsz:=(Qct (h.oks p hp')).1
  rw [Qai (by omega) (by omega)]
  have hb : Qaj (⟨e.f0,e.f1,e.f2 + 1⟩ : SElem) = false:=by
   unfold Qaj
   have : (e.f0 == 0) = false:=by simp; omega
   rw [this]; rfl
  have : Qby l ⟨e.f0,e.f1,e.f2 + 1⟩ = Qbm l ⟨e.f0,e.f1,e.f2 + 1⟩:=by
   unfold Qby Qbm
   rw [hb,Bool.false_or]
   rcases Qay l e.f0 e.f1 with ⟨i,hi,_,_,_,ef⟩ | ⟨_,ef⟩
   ·simp only [ef,Qao _ _ hi,opOk_text (h.oks _ (List.getElem_mem hi))]
   ·simp only [ef]; rfl
  rw [this]
theorem Under_ev {l : List SOp} (hl : SmL l) (h : RowOk l) {e : SElem} (he : e = bgE ∨ e ∈ ordL l) : Ev (fun k => r4_Under.f k l e.f0 e.f1 e.f2) (chl l e):=by
 have h40:=h.sums.1
 have:=Under_loop l hl (by omega) e l.length [] (Nat.le_refl _) (by simp; omega)
 rw [List.nil_append,under_eq h he] at this
 unfold r4_Under.f
 rw [Qai (by omega) (by omega)]
 exact this
theorem Order_push (l : List SOp) (x u : List SElem) {r : List SElem} : ∀ i (t : List SElem),i ≤ u.length → t.length + i ≤ 1000000000 → Ev (fun k => r4_Order.l0 k l x (t ++ (u.take i).reverse)) r → Ev (fun k => r4_Order.l1 k l x t u ((i : Int) - 1)) r
 | 0,t,hi,ht,h => by
  rw [List.take_zero,List.reverse_nil,List.append_nil] at h
  refine Ev.step (fun k => ?_) h
  simp only [r4_Order.l1]
  rw [if_neg (by omega)]
 | i + 1,t,hi,ht,h => by
  have hlt : i < u.length:=by omega
  have hw : wrap64 ((((i + 1 : Nat) : Int) - 1) - 1) = (i : Int) - 1:=by rw [Qai (by omega) (by omega)]; omega
  have hr : Qaa u (((i + 1 : Nat) : Int) - 1) = u[i]:=by rw [show ((i + 1 : Nat) : Int) - 1 = (i : Int) by omega,Qan _ _ hlt]
  have ih:=Order_push l x u (r:=r) i (t ++ [u[i]]) (by omega) (by simp; omega) (by
   rw [List.take_succ_eq_append_getElem hlt,List.reverse_append,List.reverse_singleton,List.singleton_append] at h
   rw [List.append_assoc,List.singleton_append]; exact h)
  refine Ev.step (fun k => ?_) ih
  simp only [r4_Order.l1]
  rw [if_pos (by omega),if_pos (by omega),if_pos (by omega),if_pos (by omega),hr,hw]
theorem Order_one {l : List SOp} (hl : SmL l) (h : RowOk l) {e : SElem} (he : e = bgE ∨ e ∈ ordL l) (x t : List SElem) {r : List SElem} (ht : t.length + (chl l e).length ≤ 1000000000) (hx : x.length ≤ 1000000000)
  (k : Ev (fun k => r4_Order.l0 k l (if Qaj e = true then x else x ++ [e]) (t ++ (chl l e).reverse)) r) : Ev (fun k => r4_Order.l0 k l x (t ++ [e])) r:=by
 have hlen : (t ++ [e]).length = t.length + 1:=by simp
 have hr : Qaa (t ++ [e]) (t.length : Int) = e:=by rw [Qan _ _ (by simp)]; simp
 have hj : ∀ y : List SElem,Ev (fun k => r4_Order.l0 k l y (t ++ (chl l e).reverse)) r → Ev (fun k => r4_Order.j1 k l y t e.f0 e.f1 e.f2) r:=by
  intro y hy
  refine Ev.step (f:=fun k => (r4_Under.f k l e.f0 e.f1 e.f2).bind fun t366 => r4_Order.l1 k l y t t366 (wrap64 ((t366.length : Int) - 1))) (fun k => by simp only [r4_Order.j1]) (Ev.bind (f:=fun k t366 => r4_Order.l1 k l y t t366 (wrap64 ((t366.length : Int) - 1))) (Under_ev hl h he) ?_)
  rw [Qai (by omega) (by omega)]
  refine Order_push l y (chl l e) (chl l e).length t (Nat.le_refl _) ht ?_
  rw [List.take_length]; exact hy
 have h1 : wrap64 (((t ++ [e]).length : Int) - 1) = (t.length : Int):=by rw [hlen,Qai (by omega) (by omega)]; omega
 have hT : (t ++ [e]).take ((t.length : Int)).toNat = t:=by rw [Int.toNat_natCast]; simp
 refine Ev.step (f:=fun k => if Qaj e = true then r4_Order.j1 k l x t e.f0 e.f1 e.f2 else r4_Order.j1 k l (x ++ [e]) t e.f0 e.f1 e.f2) (fun k => ?_) ?_
 ·simp only [r4_Order.l0]
  rw [h1,if_pos (by omega),if_pos (by omega),if_pos (by omega),if_pos (by omega),hT,Option.bind_some,hr,Qbq,Option.bind_some,if_pos (show x.length < 5864062014805 by omega)]
 ·cases hb : Qaj e
  ·rw [hb] at k
   simp only [Bool.false_eq_true,if_false] at k ⊢
   exact hj _ k
  ·rw [hb] at k
   simp only [if_true] at k ⊢
   exact hj _ k
theorem walk_len {ch : SElem → List SElem} {xs L : List SElem} (h : WalkL ch xs L) : xs.length ≤ L.length:=by
 induction h with
 | nil => exact Nat.le_refl _
 | cons h1 h2 ih1 ih2 => simp only [List.length_cons,List.length_append]; omega
theorem Order_walk {l : List SOp} (hl : SmL l) (h : RowOk l) {r : List SElem} {xs L : List SElem} (hw : WalkL (chl l) xs L) : ∀ (x t : List SElem),(∀ e ∈ L,e ∈ ordL l) → x.length + L.length ≤ 1000000 → t.length + L.length ≤ 1000000 →
  Ev (fun k => r4_Order.l0 k l (x ++ L) t) r → Ev (fun k => r4_Order.l0 k l x (t ++ xs.reverse)) r:=by
 induction hw with
 | nil => intro x t _ _ _ k; simpa using k
 | cons h1 h2 ih1 ih2 =>
  rename_i e xs L1 L2
  intro x t hm hx ht k
  simp only [List.length_cons,List.length_append] at hx ht
  have w1:=walk_len h1
  have w2:=walk_len h2
  have he : e ∈ ordL l:=hm e List.mem_cons_self
  have hb : Qaj e = false:=by
   cases hb : Qaj e
   ·rfl
   ·have:=(isBegin_iff e).1 hb
    have hp:=ordL_pos h he
    rw [this] at hp; simp [bgE] at hp
  rw [List.reverse_cons,← List.append_assoc]
  refine Order_one hl h (.inr he) x (t ++ xs.reverse) (by simp; omega) (by omega) ?_
  rw [hb]
  simp only [Bool.false_eq_true,if_false]
  refine ih1 (x ++ [e]) (t ++ xs.reverse) (fun y hy => hm y (by simp [hy])) (by simp; omega) (by simp; omega) ?_
  refine ih2 (x ++ [e] ++ L1) t (fun y hy => hm y (by simp [hy])) (by simp; omega) (by omega) ?_
  have : x ++ [e] ++ L1 ++ L2 = x ++ e :: (L1 ++ L2):=by simp
  rw [this]; exact k
theorem Order_ev {l : List SOp} (hl : SmL l) (h : RowOk l) : Ev (fun k => r4_Order.f k l) (ordL l):=by
 have hlen : (ordL l).length ≤ 200:=by rw [(Qcs h).2]; exact h.sums.2
 have hw:=ordL_walk h
 have w:=walk_len hw
 refine Order_one (e:=bgE) hl h (.inl rfl) [] [] (by simp; omega) (by simp) ?_
 have hb : Qaj bgE = true:=rfl
 rw [if_pos hb]
 refine Order_walk hl h hw [] [] (fun e he => he) (by simp; omega) (by simp; omega) ?_
 rw [List.nil_append]
 refine Ev.step (f:=fun _ => some (ordL l)) (fun k => ?_) (Ev.now _)
 simp only [r4_Order.l0]
 rw [if_neg (by simp)]
end
section
def t_doc_At.T1 : Bool × List (List Nat × List Nat):=(true,[([],[]),([],[]),([],[]),([2],[2]),([],[]),([4],[4]),([1,3,5],[1,3,5]),([0,6],[0,6]),([7],[7]),([8],[8]),([9],[9]),([],[]),([11],[11]),([10,12],[10,12]),([13],[13]),([14,6,0,1,2,3,4,5,6,7,8,9,10,11,12,13,14],[14])])
def t_doc_At.B1 : List Nat:=[0,0,0,4,0,16,62,127,255,511,1023,0,2048,8191,16383,32767]
end
section
def doc_At.f (l0 : List (SOp)) (a1_0 : Int) (a1_1 : Int) (a1_2 : Int) : Option (Int) :=
 if l0.length ≤ 1000000 ∧ 0 ≤ Qbd l0 a1_0 a1_1 ∧ 0 ≤ a1_2 ∧ a1_2 < (Qal (Qad l0 (Qbd l0 a1_0 a1_1)) : Int) ∧ Qal (Qad l0 (Qbd l0 a1_0 a1_1)) ≤ 1000000 then some ((runesOf (Qad l0 (Qbd l0 a1_0 a1_1)).f4).getD a1_2.toNat 0) else none
end
section
def atR (l : List SOp) (e : SElem) : Int:=(runesOf (Qad l (Qbd l e.f0 e.f1)).f4).getD e.f2.toNat 0
def plainR (l : List SOp) : ByteArray:=runesBytes ((Qce l).map (atR l))
def doc_Plain.f (l0 : List (SOp)) : Option (ByteArray):=if smalls l0 = true ∧ mayB l0 = true then some (plainR l0) else none
end
section
theorem CopyElems_loop (l : List SElem) (hl : l.length ≤ 1000000000000) : ∀ d i,i + d = l.length → Ev (fun k => r0_CopyElems.l0 k l (l.take i) (i : Int)) l
 | 0,i,h => by
  rw [List.take_of_length_le (by omega)]
  refine Ev.step (f:=fun _ => some l) (fun k => ?_) (Ev.now _)
  simp only [r0_CopyElems.l0]
  rw [if_neg (by omega)]
 | d + 1,i,h => by
  have hlt : i < l.length:=by omega
  have ih:=CopyElems_loop l hl d (i + 1) (by omega)
  rw [List.take_succ_eq_append_getElem hlt] at ih
  refine Ev.step (fun k => ?_) ih
  simp only [r0_CopyElems.l0]
  rw [if_pos (by omega),if_pos (by omega),Qan _ _ hlt,if_pos (by rw [List.length_take]; omega),Qdf hlt (by omega)]
theorem CopyElems_ev (l : List SElem) (hl : l.length ≤ 1000000000000) : Ev (fun k => r0_CopyElems.f k l) l:=CopyElems_loop l hl l.length 0 (Nat.zero_add _)
theorem CopyOp_ev (o : SOp) (hl : o.f5.length ≤ 1000000000000) : Ev (fun k => r0_CopyOp.f k o.f0 o.f1 o.f2 o.f3.f0 o.f3.f1 o.f3.f2 o.f4 o.f5 o.f6 o.f7 o.f8) (o.f0,o.f1,o.f2,o.f3.f0,o.f3.f1,o.f3.f2,o.f4,o.f5,o.f6,o.f7,o.f8) :=
 Ev.bind (f:=fun _ t => some (o.f0,o.f1,o.f2,o.f3.f0,o.f3.f1,o.f3.f2,o.f4,t,o.f6,o.f7,o.f8)) (CopyElems_ev o.f5 hl) (Ev.now _)
theorem CopyOps_loop (l : List SOp) (hl : l.length ≤ 1000000) (hs : ∀ o ∈ l,o.f5.length ≤ 1000000000000) : ∀ d i,i + d = l.length → Ev (fun k => r0_CopyOps.l0 k l (l.take i) (i : Int)) l
 | 0,i,h => by
  rw [List.take_of_length_le (by omega)]
  refine Ev.step (f:=fun _ => some l) (fun k => ?_) (Ev.now _)
  simp only [r0_CopyOps.l0]
  rw [if_neg (by omega)]
 | d + 1,i,h => by
  have hlt : i < l.length:=by omega
  have ih:=CopyOps_loop l hl hs d (i + 1) (by omega)
  rw [List.take_succ_eq_append_getElem hlt] at ih
  have hlen : (l.take i).length < 1256584717458:=by rw [List.length_take]; omega
  refine Ev.step (fun k => by simp only [r0_CopyOps.l0]; rw [if_pos (by omega),if_pos (by omega),Qao _ _ hlt,Qdf hlt (by omega)]) (Ev.bind (CopyOp_ev l[i] (hs _ (List.getElem_mem hlt))) ?_)
  simp only [if_pos hlen]
  exact ih
theorem CopyOps_ev (l : List SOp) (hl : l.length ≤ 1000000) (hs : ∀ o ∈ l,o.f5.length ≤ 1000000000000) : Ev (fun k => r0_CopyOps.f k l) l:=CopyOps_loop l hl hs l.length 0 (Nat.zero_add _)
end
section
theorem cnt_loop (l : List SOp) (hl : l.length ≤ 1000000) (s q : Int) : ∀ d i,i + d = l.length → ∀ n : Int,0 ≤ n → n ≤ (i : Int) → Ev (fun k => r4_Count.l0 k l s q n (i : Int)) ((l.drop i).foldl (cntStep s q) n)
  | 0,i,h,n,h0,h1 => by
    rw [List.drop_eq_nil_of_le (by omega)]
    refine Ev.step (f:=fun _ => some n) (fun k => ?_) (Ev.now _)
    simp only [r4_Count.l0]
    rw [if_neg (by omega)]
  | d + 1,i,h,n,h0,h1 => by
    have hlt : i < l.length:=by omega
    have ih0:=cnt_loop l hl s q d (i + 1) (by omega) n h0 (by omega)
    have ih1:=cnt_loop l hl s q d (i + 1) (by omega) (n + 1) (by omega) (by omega)
    have hw : wrap64 (n + 1) = n + 1:=Qai (by omega) (by omega)
    rw [List.drop_eq_getElem_cons hlt,List.foldl_cons]
    unfold cntStep
    unfold cntStep at ih0 ih1
    by_cases h2 : l[i].f2 = 2 <;> by_cases h6 : l[i].f6 = s <;> by_cases h7 : l[i].f7 = q <;> by_cases h8 : l[i].f8 = n <;>
      first
      | (rw [if_pos ⟨h2,h6,h7,h8⟩]
         refine Ev.step (fun k => ?_) ih1
         simp only [r4_Count.l0]
         rw [if_pos (by omega),if_pos (by omega),Qao _ _ hlt,Qdf hlt (by omega),if_pos h2,if_pos h6,if_pos h7,if_pos h8,hw])
      | (rw [if_neg (by simp [h2,h6,h7,h8])]
         refine Ev.step (fun k => ?_) ih0
         simp only [r4_Count.l0]
         rw [if_pos (by omega),if_pos (by omega),Qao _ _ hlt,Qdf hlt (by omega)]
         simp only [h2,h6,h7,h8,if_true,if_false])
theorem CountR_ev (l : List SOp) (hl : l.length ≤ 1000000) (s q : Int) : Ev (fun k => r4_Count.f k l s q) (cntR l s q):=cnt_loop l hl s q l.length 0 (Nat.zero_add _) 0 (Int.le_refl _) (Int.le_refl _)
theorem cntR_pos (s q : Int) : ∀ (l : List SOp) (n : Int),0 ≤ n → 0 ≤ l.foldl (cntStep s q) n
 | [],n,h => h
 | o :: l,n,h => by
  rw [List.foldl_cons]
  refine cntR_pos s q l _ ?_
  unfold cntStep; split <;> omega
theorem EffectiveR_ev (l : List SOp) (hl : l.length ≤ 1000000) (s q : Int) : Ev (fun k => r4_Effective.f k l s q) (cntR l s q % 2 == 0):=by
 refine Ev.bind (f:=fun _ t => some ((Int.tmod t 2) == 0)) (CountR_ev l hl s q) ?_
 have hc : 0 ≤ cntR l s q:=cntR_pos s q l 0 (Int.le_refl _)
 rw [Int.tmod_eq_emod_of_nonneg hc]
 exact Ev.now _
theorem rd_works (l : List SOp) {i : Nat} (hi : i < l.length) : rdOf false (l.map (Qbp l)) (i : Int) = Qbp l l[i]:=by
 unfold rdOf
 rw [Int.toNat_natCast,List.getD_eq_getElem?_getD,List.getElem?_map,List.getElem?_eq_getElem hi]; rfl
def stays (l : List SOp) (e : SElem) (o : SOp) : Bool:=!Qbp l o || !decide (e ∈ o.f5)
theorem Vis_l2 {l : List SOp} (h : RowOk l) (acc all : List SElem) {i : Nat} (hi : i < all.length) (ha : all.length ≤ 1000000) (hacc : acc.length ≤ 1000000) {r : List SElem} : ∀ d j (b : Bool),j + d = l.length →
  Ev (fun k => r4_Visible.l1 k l (l.map (Qbp l)) (if (b && (l.drop j).all (stays l all[i])) = true then acc ++ [all[i]] else acc) all ((i + 1 : Nat) : Int)) r →
  Ev (fun k => r4_Visible.l2 k l (l.map (Qbp l)) acc all (i : Int) b (j : Int)) r
 | 0,j,b,hj,hn => by
  rw [List.drop_eq_nil_of_le (by omega),List.all_nil,Bool.and_true] at hn
  refine Ev.step (fun k => ?_) hn
  simp only [r4_Visible.l2]
  rw [if_neg (by omega)]
  cases b
  ·rw [if_neg (by decide),if_neg (by decide),Qdf hi (by omega)]
  ·rw [if_pos rfl,if_pos (by omega),if_pos (by omega),if_pos (by omega),Qan _ _ hi,if_pos rfl,Qdf hi (by omega)]
 | d + 1,j,b,hj,hn => by
  have hlt : j < l.length:=by omega
  have h40:=h.sums.1
  rw [List.drop_eq_getElem_cons hlt,List.all_cons] at hn
  cases b
  ·simp only [Bool.false_and] at hn
   refine Ev.step (fun k => ?_) hn
   simp only [r4_Visible.l2]
   rw [if_pos (by omega),if_neg (by decide),if_neg (by decide),Qdf hi (by omega)]
  ·simp only [Bool.true_and] at hn
   have hlen : ((l.map (Qbp l)).length : Int) = l.length:=by rw [List.length_map]
   cases hw : Qbp l l[j]
   ·have ih:=Vis_l2 h acc all hi ha hacc (r:=r) d (j + 1) true (by omega) (by
     have : stays l all[i] l[j] = true:=by unfold stays; rw [hw]; rfl
     rw [this,Bool.true_and] at hn
     rw [Bool.true_and]; exact hn)
    refine Ev.step (fun k => ?_) ih
    simp only [r4_Visible.l2]
    rw [if_pos (by omega),if_pos True.intro,if_pos (by omega),if_pos (by omega),rd_works l hlt,hw,if_neg (by decide),Qdf hlt (by omega)]
   ·have hg:=opOk_gone200 (h.oks _ (List.getElem_mem hlt))
    have hA:=At_ev l[j].f5 (by omega) all[i]
    have hs : stays l all[i] l[j] = decide (idxE l[j].f5 all[i] < 0):=by
     unfold stays
     rw [hw,Bool.not_true,Bool.false_or]
     by_cases hm : all[i] ∈ l[j].f5
     ·have:=(idxE_nonneg l[j].f5 all[i]).2 hm
      rw [decide_eq_true hm,decide_eq_false (by omega)]; rfl
     ·have : ¬ 0 ≤ idxE l[j].f5 all[i]:=fun hh => hm ((idxE_nonneg _ _).1 hh)
      rw [decide_eq_false hm,decide_eq_true (by omega)]; rfl
    rw [hs] at hn
    have ih:=Vis_l2 h acc all hi ha hacc (r:=r) d (j + 1) (decide (idxE l[j].f5 all[i] < 0)) (by omega) hn
    refine Ev.step (fun k => ?_) (Ev.bind (f:=fun k t => r4_Visible.l2 k l (l.map (Qbp l)) acc all (i : Int) (decide (t < 0)) ((j + 1 : Nat) : Int)) hA ih)
    simp only [r4_Visible.l2]
    rw [if_pos (by omega),if_pos True.intro,if_pos (by omega),if_pos (by omega),rd_works l hlt,hw,if_pos rfl,if_pos (by omega),if_pos (by omega),Qan _ _ hi,Qao _ _ hlt,Qdf hlt (by omega)]
theorem Vis_l1 {l : List SOp} (hl : SmL l) (h : RowOk l) (all : List SElem) (ha : all.length ≤ 200) (hm : ∀ e ∈ all,e ∈ ordL l) : ∀ d i (acc : List SElem),i + d = all.length → acc.length ≤ i →
  Ev (fun k => r4_Visible.l1 k l (l.map (Qbp l)) acc all (i : Int)) (acc ++ (all.drop i).filter fun e => Qbp l (Qad l (Qbd l e.f0 e.f1)) && l.all (stays l e))
 | 0,i,acc,hi,_ => by
  rw [List.drop_eq_nil_of_le (by omega),List.filter_nil,List.append_nil]
  refine Ev.step (f:=fun _ => some acc) (fun k => ?_) (Ev.now _)
  simp only [r4_Visible.l1]
  rw [if_neg (by omega)]
 | d + 1,i,acc,hi,hacc => by
  have hlt : i < all.length:=by omega
  have h40:=h.sums.1
  obtain ⟨q,hq,ef,_,_⟩:=elem_op h (hm _ (List.getElem_mem hlt))
  rw [List.drop_eq_getElem_cons hlt,List.filter_cons,ef,Qao _ _ hq]
  have ih:=fun a (h' : a.length ≤ i + 1) => Vis_l1 hl h all ha hm d (i + 1) a (by omega) h'
  have h2:=Vis_l2 h acc all hlt (by omega) (by omega) (r:=acc ++ (if (Qbp l l[q] && l.all (stays l all[i])) = true then all[i] :: (all.drop (i + 1)).filter (fun e => Qbp l (Qad l (Qbd l e.f0 e.f1)) && l.all (stays l e)) else (all.drop (i + 1)).filter (fun e => Qbp l (Qad l (Qbd l e.f0 e.f1)) && l.all (stays l e)))) l.length 0 (Qbp l l[q]) (Nat.zero_add _) (by
   rw [List.drop_zero]
   by_cases hc : (Qbp l l[q] && l.all (stays l all[i])) = true
   ·rw [if_pos hc,if_pos hc]
    have:=ih (acc ++ [all[i]]) (by simp; omega)
    rw [List.append_assoc] at this
    exact this
   ·rw [if_neg hc,if_neg hc]
    exact ih acc (by omega))
  have hlen : ((l.map (Qbp l)).length : Int) = l.length:=by rw [List.length_map]
  refine Ev.step (fun k => ?_) (Ev.bind (f:=fun k t => if 0 ≤ t then (if t < ((l.map (Qbp l)).length : Int) then r4_Visible.l2 k l (l.map (Qbp l)) acc all (i : Int) (rdOf false (l.map (Qbp l)) t) 0 else none) else none) (Find_ev l hl.len all[i].f0 all[i].f1) ?_)
  ·simp only [r4_Visible.l1]
   rw [if_pos (by omega),if_pos (by omega),Qan _ _ hlt]
  ·rw [ef,rd_works l hq]
   refine Ev.congr (fun k => ?_) h2
   rw [if_pos (by omega),if_pos (by omega)]
   rfl
theorem Vis_l0 {l : List SOp} (hl : SmL l) (h : RowOk l) : ∀ d i,i + d = l.length → Ev (fun k => r4_Visible.l0 k l ((l.take i).map (Qbp l) ++ List.replicate (l.length - i) false) (i : Int)) (visR l)
 | 0,i,hi => by
  rw [List.take_of_length_le (by omega),show l.length - i = 0 by omega]
  simp only [List.replicate_zero,List.append_nil]
  have hlen : (ordL l).length ≤ 200:=by rw [(Qcs h).2]; exact h.sums.2
  refine Ev.step (fun k => ?_) (Ev.bind (f:=fun k t => r4_Visible.l1 k l (l.map (Qbp l)) ([] : List SElem) t 0) (Order_ev hl h) (Vis_l1 hl h (ordL l) hlen (fun e he => he) _ 0 [] (Nat.zero_add _) (Nat.le_refl _)))
  simp only [r4_Visible.l0]
  rw [if_neg (by omega)]
 | d + 1,i,hi => by
  have hlt : i < l.length:=by omega
  have h40:=h.sums.1
  have ih:=Vis_l0 hl h d (i + 1) (by omega)
  have hset : ∀ b,b = Qbp l l[i] → ((l.take i).map (Qbp l) ++ List.replicate (l.length - i) false).set i b = (l.take (i + 1)).map (Qbp l) ++ List.replicate (l.length - (i + 1)) false:=by
   intro b hb
   have hl : ((l.take i).map (Qbp l)).length = i:=by rw [List.length_map,List.length_take]; omega
   rw [List.set_append,if_neg (by omega),hl,Nat.sub_self,show l.length - i = (l.length - (i + 1)) + 1 by omega,List.replicate_succ,List.set_cons_zero,List.take_succ_eq_append_getElem hlt,List.map_append,hb]
   simp
  have hlen : (((l.take i).map (Qbp l) ++ List.replicate (l.length - i) false).length : Int) = l.length:=by
   rw [List.length_append,List.length_map,List.length_take,List.length_replicate]; omega
  by_cases h1 : l[i].f2 = 1
  ·have hE:=EffectiveR_ev l (by omega) l[i].f0 l[i].f1
   have hw : (cntR l l[i].f0 l[i].f1 % 2 == 0) = Qbp l l[i]:=by unfold Qbp; rw [h1]; rfl
   rw [hw] at hE
   refine Ev.step (fun k => ?_) (Ev.bind (f:=fun k t => if (i : Int) < (((l.take i).map (Qbp l) ++ List.replicate (l.length - i) false).length : Int) then r4_Visible.l0 k l (((l.take i).map (Qbp l) ++ List.replicate (l.length - i) false).set i t) ((i + 1 : Nat) : Int) else none) hE (Ev.congr (fun k => ?_) ih))
   ·simp only [r4_Visible.l0]
    rw [if_pos (by omega),if_pos (by omega),Qao _ _ hlt,if_pos h1,Qdf hlt (by omega),Int.toNat_natCast]
   ·rw [if_pos (by rw [hlen]; omega),hset _ rfl]
  ·refine Ev.step (fun k => ?_) ih
   simp only [r4_Visible.l0]
   rw [if_pos (by omega),if_pos (by omega),Qao _ _ hlt,if_neg h1,if_pos (by rw [hlen]; omega),Qdf hlt (by omega),Int.toNat_natCast,hset _ (by unfold Qbp; simp [h1])]
theorem Visible_ev {l : List SOp} (hl : SmL l) (h : RowOk l) : Ev (fun k => r4_Visible.f k l) (Qce l):=by
 have h40:=h.sums.1
 rw [seen_vis h]
 have:=Vis_l0 hl h l.length 0 (Nat.zero_add _)
 refine Ev.congr (fun k => ?_) this
 unfold r4_Visible.f
 rw [if_pos (by omega),if_pos (by omega),Int.toNat_natCast]
 simp
end
end Go.Proofs.YtonoaflfobajcaaGreatDoor.L
end
