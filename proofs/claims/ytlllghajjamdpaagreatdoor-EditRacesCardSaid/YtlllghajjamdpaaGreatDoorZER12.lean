/- Part 12 of the proof that for every argument the law EditRaces answers true: edits that two sites make of the same row, ordered one behind the other either way, leave what each wrote whole, side by side, and take away what each took -/
import Derived.Test.YtlllghajjamdpaaGreatDoorZER11
section
namespace Go.Proofs.YtlllghajjamdpaaGreatDoor.L
open Go.RowKit Go.Proofs.YtlllghajjamdpaaGreatDoorW.PrintWords Go.Proofs.YtlllghajjamdpaaGreatDoorW.PrintLast Go.Proofs.YtlllghajjamdpaaGreatDoorW.PrintMore
set_option linter.unusedVariables false
set_option linter.unusedSimpArgs false
set_option maxHeartbeats 40000000
set_option maxRecDepth 1000000
section
attribute [local go_sem] Qbm Qbk Qbu Qbt Qbc Qbb Qbl Qbj
theorem w7_EditRaces.bxo {G : Prop} (h : Nonempty G) : G:=h.elim id
mutual
def w7_EditRaces.l0 : Nat -> Int -> List (List (SOp)) -> List (SElem) -> List (SOp) -> List Int -> Option (Bool)
 | 0,_,_,_,_,_ => none
 | k + 1,x3,x604000,x604001,x604002,x604003 => if x3 < (x604000.length : Int) then (w7_EditRaces.j1 k x3 (decide (x3 < 4)) x604000 x604001 x604002 x604003) else (w7_EditRaces.j1 k x3 false x604000 x604001 x604002 x604003)
def w7_EditRaces.j1 : Nat -> Int -> Bool -> List (List (SOp)) -> List (SElem) -> List (SOp) -> List Int -> Option (Bool)
 | 0,_,_,_,_,_,_ => none
 | k + 1,x3,x33,x604000,x604001,x604002,x604003 => if x33 = true then (if 0 <= x3 then (if x3 < (x604000.length : Int) then ((r4_Row.f k (Qbx x604000 x3)).bind fun t607 => (if t607 = true then ((r4_Visible.f k (Qbx x604000 x3)).bind fun t608 => (w7_EditRaces.l1 k x3 (Qbx x604000 x3) t608 0 x604000 x604001 x604002 x604003)) else (w7_EditRaces.l0 k (wrap64 (x3 + 1)) x604000 x604001 x604002 x604003))) else (none)) else (none)) else ((w7_wakes.f).bind fun t605 => (some t605))
def w7_EditRaces.l1 : Nat -> Int -> List (SOp) -> List (SElem) -> Int -> List (List (SOp)) -> List (SElem) -> List (SOp) -> List Int -> Option (Bool)
 | 0,_,_,_,_,_,_,_,_ => none
 | k + 1,x3,x4,x5,x6,x604000,x604001,x604002,x604003 => if x6 < 6 then (if (wrap64 ((x5.length : Int) + 1)) = 0 then (none) else (if (Int.tmod (wrap64 ((wrap64 (x6 * 3)) + x3)) (wrap64 ((x5.length : Int) + 1))) < (x5.length : Int) then (w7_EditRaces.j3 k x3 x4 x5 x6 (Int.tmod (wrap64 ((wrap64 (x6 * 3)) + x3)) (wrap64 ((x5.length : Int) + 1))) (Int.tmod x6 2) x604000 x604001 x604002 x604003) else (w7_EditRaces.j3 k x3 x4 x5 x6 (Int.tmod (wrap64 ((wrap64 (x6 * 3)) + x3)) (wrap64 ((x5.length : Int) + 1))) 0 x604000 x604001 x604002 x604003))) else (w7_EditRaces.l0 k (wrap64 (x3 + 1)) x604000 x604001 x604002 x604003)
def w7_EditRaces.j3 : Nat -> Int -> List (SOp) -> List (SElem) -> Int -> Int -> Int -> List (List (SOp)) -> List (SElem) -> List (SOp) -> List Int -> Option (Bool)
 | 0,_,_,_,_,_,_,_,_,_,_ => none
 | k + 1,x3,x4,x5,x6,x7,x8,x604000,x604001,x604002,x604003 => (edit_Replace.f x4 1 x7 x8 (⟨#[112,113]⟩ : ByteArray)).bind fun bt611 => (if (wrap64 ((x5.length : Int) + 1)) = 0 then (none) else ((edit_Replace.f x4 2 (Int.tmod (wrap64 (x6 * 5)) (wrap64 ((x5.length : Int) + 1))) 0 (⟨#[114,115]⟩ : ByteArray)).bind fun bt626 => ((w7_num.f bt611.2.2.2.2.2.2.2.2.2.2.2).bind fun t641 => (if t641 = 0 then ((w7_num.f bt626.2.2.2.2.2.2.2.2.2.2.2).bind fun t642 => (w7_EditRaces.j4 k x3 x4 x5 x6 x8 (t642 != 0) x604000 x604001 x604002 x604003 bt611.1 bt611.2.1 bt611.2.2.1 bt611.2.2.2.1 bt611.2.2.2.2.1 bt611.2.2.2.2.2.1 bt611.2.2.2.2.2.2.1 bt611.2.2.2.2.2.2.2.1 bt611.2.2.2.2.2.2.2.2.1 bt611.2.2.2.2.2.2.2.2.2.1 bt611.2.2.2.2.2.2.2.2.2.2.1 bt626.1 bt626.2.1 bt626.2.2.1 bt626.2.2.2.1 bt626.2.2.2.2.1 bt626.2.2.2.2.2.1 bt626.2.2.2.2.2.2.1 bt626.2.2.2.2.2.2.2.1 bt626.2.2.2.2.2.2.2.2.1 bt626.2.2.2.2.2.2.2.2.2.1 bt626.2.2.2.2.2.2.2.2.2.2.1)) else (w7_EditRaces.j4 k x3 x4 x5 x6 x8 true x604000 x604001 x604002 x604003 bt611.1 bt611.2.1 bt611.2.2.1 bt611.2.2.2.1 bt611.2.2.2.2.1 bt611.2.2.2.2.2.1 bt611.2.2.2.2.2.2.1 bt611.2.2.2.2.2.2.2.1 bt611.2.2.2.2.2.2.2.2.1 bt611.2.2.2.2.2.2.2.2.2.1 bt611.2.2.2.2.2.2.2.2.2.2.1 bt626.1 bt626.2.1 bt626.2.2.1 bt626.2.2.2.1 bt626.2.2.2.2.1 bt626.2.2.2.2.2.1 bt626.2.2.2.2.2.2.1 bt626.2.2.2.2.2.2.2.1 bt626.2.2.2.2.2.2.2.2.1 bt626.2.2.2.2.2.2.2.2.2.1 bt626.2.2.2.2.2.2.2.2.2.2.1)))))
def w7_EditRaces.j4 : Nat -> Int -> List (SOp) -> List (SElem) -> Int -> Int -> Bool -> List (List (SOp)) -> List (SElem) -> List (SOp) -> List Int -> Int -> Int -> Int -> Int -> Int -> Int -> ByteArray -> List (SElem) -> Int -> Int -> Int -> Int -> Int -> Int -> Int -> Int -> Int -> ByteArray -> List (SElem) -> Int -> Int -> Int -> Option (Bool)
 | 0,_,_,_,_,_,_,_,_,_,_,_,_,_,_,_,_,_,_,_,_,_,_,_,_,_,_,_,_,_,_,_,_ => none
 | k + 1,x3,x4,x5,x6,x8,x89,x604000,x604001,x604002,x604003,x626000,x626001,x626002,x626003,x626004,x626005,x626006,x626007,x626008,x626009,x626010,x641000,x641001,x641002,x641003,x641004,x641005,x641006,x641007,x641008,x641009,x641010 => if x89 = true then (w7_EditRaces.l1 k x3 x4 x5 (wrap64 (x6 + 1)) x604000 x604001 x604002 x604003) else ((r4_Behind.f k x4 x626000 x626001 x626002 x626003 x626004 x626005 x626006 x626007 x626008 x626009 x626010).bind fun t643 => ((r4_Behind.f k t643 x641000 x641001 x641002 x641003 x641004 x641005 x641006 x641007 x641008 x641009 x641010).bind fun t646 => ((r4_Behind.f k x4 x641000 x641001 x641002 x641003 x641004 x641005 x641006 x641007 x641008 x641009 x641010).bind fun t649 => ((r4_Behind.f k t649 x626000 x626001 x626002 x626003 x626004 x626005 x626006 x626007 x626008 x626009 x626010).bind fun t652 => ((doc_Visible.f t646).bind fun bt655 => ((doc_Visible.f t652).bind fun bt659 => ((r4_Row.f k t646).bind fun t663 => (if t663 = true then ((r4_Row.f k t652).bind fun t664 => (w7_EditRaces.j5 k x3 x4 x5 x6 x8 bt655.1 bt655.2 bt659.1 bt659.2 (!t664) x604000 x604001 x604002 x604003 x626000 x626001 x626002 x626003 x626004 x626005 x626006 x626007 x626008 x626009 x626010 x641000 x641001 x641002 x641003 x641004 x641005 x641006 x641007 x641008 x641009 x641010)) else (w7_EditRaces.j5 k x3 x4 x5 x6 x8 bt655.1 bt655.2 bt659.1 bt659.2 true x604000 x604001 x604002 x604003 x626000 x626001 x626002 x626003 x626004 x626005 x626006 x626007 x626008 x626009 x626010 x641000 x641001 x641002 x641003 x641004 x641005 x641006 x641007 x641008 x641009 x641010)))))))))
def w7_EditRaces.j5 : Nat -> Int -> List (SOp) -> List (SElem) -> Int -> Int -> List (SElem) -> Int -> List (SElem) -> Int -> Bool -> List (List (SOp)) -> List (SElem) -> List (SOp) -> List Int -> Int -> Int -> Int -> Int -> Int -> Int -> ByteArray -> List (SElem) -> Int -> Int -> Int -> Int -> Int -> Int -> Int -> Int -> Int -> ByteArray -> List (SElem) -> Int -> Int -> Int -> Option (Bool)
 | 0,_,_,_,_,_,_,_,_,_,_,_,_,_,_,_,_,_,_,_,_,_,_,_,_,_,_,_,_,_,_,_,_,_,_,_,_ => none
 | k + 1,x3,x4,x5,x6,x8,x15,x16,x17,x18,x117,x604000,x604001,x604002,x604003,x626000,x626001,x626002,x626003,x626004,x626005,x626006,x626007,x626008,x626009,x626010,x641000,x641001,x641002,x641003,x641004,x641005,x641006,x641007,x641008,x641009,x641010 => if x117 = true then (w7_EditRaces.l1 k x3 x4 x5 (wrap64 (x6 + 1)) x604000 x604001 x604002 x604003) else ((w7_num.f x16).bind fun t665 => (if t665 = 0 then ((w7_num.f x18).bind fun t666 => (if t666 = 0 then (if (x15.length : Int) = (x17.length : Int) then (w7_EditRaces.j6 k x3 x4 x5 x6 x15 x17 ((x15.length : Int) != (wrap64 ((wrap64 ((x5.length : Int) - x8)) + 4))) x604000 x604001 x604002 x604003 x626000 x626001 x626002 x626003 x626004 x626005 x626006 x626007 x626008 x626009 x626010 x641000 x641001 x641002 x641003 x641004 x641005 x641006 x641007 x641008 x641009 x641010) else (w7_EditRaces.j6 k x3 x4 x5 x6 x15 x17 true x604000 x604001 x604002 x604003 x626000 x626001 x626002 x626003 x626004 x626005 x626006 x626007 x626008 x626009 x626010 x641000 x641001 x641002 x641003 x641004 x641005 x641006 x641007 x641008 x641009 x641010)) else (w7_EditRaces.j6 k x3 x4 x5 x6 x15 x17 true x604000 x604001 x604002 x604003 x626000 x626001 x626002 x626003 x626004 x626005 x626006 x626007 x626008 x626009 x626010 x641000 x641001 x641002 x641003 x641004 x641005 x641006 x641007 x641008 x641009 x641010))) else (w7_EditRaces.j6 k x3 x4 x5 x6 x15 x17 true x604000 x604001 x604002 x604003 x626000 x626001 x626002 x626003 x626004 x626005 x626006 x626007 x626008 x626009 x626010 x641000 x641001 x641002 x641003 x641004 x641005 x641006 x641007 x641008 x641009 x641010)))
def w7_EditRaces.j6 : Nat -> Int -> List (SOp) -> List (SElem) -> Int -> List (SElem) -> List (SElem) -> Bool -> List (List (SOp)) -> List (SElem) -> List (SOp) -> List Int -> Int -> Int -> Int -> Int -> Int -> Int -> ByteArray -> List (SElem) -> Int -> Int -> Int -> Int -> Int -> Int -> Int -> Int -> Int -> ByteArray -> List (SElem) -> Int -> Int -> Int -> Option (Bool)
 | 0,_,_,_,_,_,_,_,_,_,_,_,_,_,_,_,_,_,_,_,_,_,_,_,_,_,_,_,_,_,_,_,_,_ => none
 | k + 1,x3,x4,x5,x6,x15,x17,x142,x604000,x604001,x604002,x604003,x626000,x626001,x626002,x626003,x626004,x626005,x626006,x626007,x626008,x626009,x626010,x641000,x641001,x641002,x641003,x641004,x641005,x641006,x641007,x641008,x641009,x641010 => if x142 = true then (some false) else ((r4_Elems.f k x626000 x626001 x626002 x626003 x626004 x626005 x626006 x626007 x626008 x626009 x626010).bind fun t667 => ((r4_Elems.f k x641000 x641001 x641002 x641003 x641004 x641005 x641006 x641007 x641008 x641009 x641010).bind fun t670 => (w7_EditRaces.l2 k x3 x4 x5 x6 x15 x17 (([t667,t670] : List (List (SElem)))) 0 x604000 x604001 x604002 x604003)))
def w7_EditRaces.l2 : Nat -> Int -> List (SOp) -> List (SElem) -> Int -> List (SElem) -> List (SElem) -> List (List (SElem)) -> Int -> List (List (SOp)) -> List (SElem) -> List (SOp) -> List Int -> Option (Bool)
 | 0,_,_,_,_,_,_,_,_,_,_,_,_ => none
 | k + 1,x3,x4,x5,x6,x15,x17,x19,x20,x604000,x604001,x604002,x604003 => if x20 < 2 then (if 0 <= x20 then (if x20 < (x19.length : Int) then (if 0 < ((Qam x19 x20).length : Int) then ((r0_At.f k x15 ((Qaa (Qam x19 x20) 0).f0) ((Qaa (Qam x19 x20) 0).f1) ((Qaa (Qam x19 x20) 0).f2)).bind fun t678 => ((r0_At.f k x17 ((Qaa (Qam x19 x20) 0).f0) ((Qaa (Qam x19 x20) 0).f1) ((Qaa (Qam x19 x20) 0).f2)).bind fun t681 => (if t678 < 0 then (w7_EditRaces.j8 k x3 x4 x5 x6 x15 x17 x19 x20 true x604000 x604001 x604002 x604003) else (if t681 < 0 then (w7_EditRaces.j8 k x3 x4 x5 x6 x15 x17 x19 x20 true x604000 x604001 x604002 x604003) else (if 1 < ((Qam x19 x20).length : Int) then ((r0_At.f k x15 ((Qaa (Qam x19 x20) 1).f0) ((Qaa (Qam x19 x20) 1).f1) ((Qaa (Qam x19 x20) 1).f2)).bind fun t684 => (if t684 = (wrap64 (t678 + 1)) then ((r0_At.f k x17 ((Qaa (Qam x19 x20) 1).f0) ((Qaa (Qam x19 x20) 1).f1) ((Qaa (Qam x19 x20) 1).f2)).bind fun t687 => (w7_EditRaces.j8 k x3 x4 x5 x6 x15 x17 x19 x20 (t687 != (wrap64 (t681 + 1))) x604000 x604001 x604002 x604003)) else (w7_EditRaces.j8 k x3 x4 x5 x6 x15 x17 x19 x20 true x604000 x604001 x604002 x604003))) else (none)))))) else (none)) else (none)) else (none)) else (w7_EditRaces.l1 k x3 x4 x5 (wrap64 (x6 + 1)) x604000 x604001 x604002 x604003)
def w7_EditRaces.j8 : Nat -> Int -> List (SOp) -> List (SElem) -> Int -> List (SElem) -> List (SElem) -> List (List (SElem)) -> Int -> Bool -> List (List (SOp)) -> List (SElem) -> List (SOp) -> List Int -> Option (Bool)
 | 0,_,_,_,_,_,_,_,_,_,_,_,_,_ => none
 | k + 1,x3,x4,x5,x6,x15,x17,x19,x20,x199,x604000,x604001,x604002,x604003 => if x199 = true then (some false) else (w7_EditRaces.l2 k x3 x4 x5 x6 x15 x17 x19 (wrap64 (x20 + 1)) x604000 x604001 x604002 x604003)
end
def w7_EditRaces.f (k : Nat) (l0_0 : List (List (SOp))) (l0_1 : List (SElem)) (l0_2 : List (SOp)) (l0_3 : List Int) : Option (Bool):=(w5_Heavy.f k l0_0 l0_1 l0_2 l0_3).bind fun t604 => (if t604 = true then (some true) else (w7_EditRaces.l0 k 0 l0_0 l0_1 l0_2 l0_3))
def w7_EditRaces.T18 : Bool × List (List Nat × List Nat):=(true,[([],[]),([],[]),([0,1],[0,1]),([],[]),([2,3,2],[2,3]),([],[]),([],[]),([5,6,4],[5,6]),([],[]),([7,8,7],[7,8]),([4,9,0,1,2,3,4],[4]),([9,10,0,1,2,3,4,5,6,7,8,9,10],[9])])
def w7_EditRaces.B18 : List Nat:=[0,0,3,0,15,0,0,127,0,511,1023,2047]
theorem w7_EditRaces.tab18 : rtab .any (Qdb Tryz.f3 18) = w7_EditRaces.T18:=by kernel_rfl
theorem w7_EditRaces.bits18 : Qay w7_EditRaces.T18.2 w7_EditRaces.B18 = true:=by kernel_rfl
def w7_EditRaces.T28 : Bool × List (List Nat × List Nat):=(true,[([],[]),([],[]),([],[]),([1,2],[1,2]),([3],[3]),([4],[4]),([5],[5]),([0,6],[0,6]),([],[]),([],[]),([],[]),([9,10],[9,10]),([11],[11]),([12],[12]),([13],[13]),([8,14,7],[8,14]),([7,15,0,1,2,3,4,5,6,7],[7]),([15,16,0,1,2,3,4,5,6,7,8,9,10,11,12,13,14,15,16],[15])])
def w7_EditRaces.B28 : List Nat:=[0,0,0,6,14,30,62,127,0,0,0,1536,3584,7680,15872,32767,65535,131071]
theorem w7_EditRaces.tab28 : rtab .any (Qdb Tryz.f3 28) = w7_EditRaces.T28:=by kernel_rfl
theorem w7_EditRaces.bits28 : Qay w7_EditRaces.T28.2 w7_EditRaces.B28 = true:=by kernel_rfl
theorem w7_EditRaces.calls (k : Nat) (A0_0 : Option Addr) (c0_0 : Nat) (l0_0 : List (List (SOp))) (A0_1 : Option Addr) (c0_1 : Nat) (l0_1 : List (SElem)) (A0_2 : Option Addr) (c0_2 : Nat) (l0_2 : List (SOp)) (A0_3 : Option Addr) (c0_3 : Nat) (l0_3 : List Int) (r : Bool) (w : World) (hr0_0 : Kd.C (Kd.slice 34 kOp) w A0_0 l0_0.length l0_0) (hc0_0 : l0_0.length <= c0_0) (hr0_1 : Kd.C Qap w A0_1 l0_1.length l0_1) (hc0_1 : l0_1.length <= c0_1) (hr0_2 : Kd.C kOp w A0_2 l0_2.length l0_2) (hc0_2 : l0_2.length <= c0_2) (hr0_3 : Kd.C (Kd.int .i64) w A0_3 l0_3.length l0_3) (hc0_3 : l0_3.length <= c0_3) (hT : GT w) (h : w7_EditRaces.f k l0_0 l0_1 l0_2 l0_3 = some r) :
  Calls Tryz.prog 3 #[.agg #[.slice A0_0 l0_0.length c0_0, .slice A0_1 l0_1.length c0_1, .slice A0_2 l0_2.length c0_2, .slice A0_3 l0_3.length c0_3]] w fun e w' => e = .returned (.bool r) /\ Below w.heap.size w w':=by
 have hu27:=Tryz.underlying27
 have hu34:=Tryz.underlying34
 have hu32:=Tryz.underlying32
 have HR0_0:=Zz.k hr0_0
 have HC0_0:=Zz.k hc0_0
 clear hr0_0 hc0_0
 have HR0_1:=Zz.k hr0_1
 have HC0_1:=Zz.k hc0_1
 clear hr0_1 hc0_1
 have HR0_2:=Zz.k hr0_2
 have HC0_2:=Zz.k hc0_2
 clear hr0_2 hc0_2
 have HR0_3:=Zz.k hr0_3
 have HC0_3:=Zz.k hc0_3
 clear hr0_3 hc0_3
 have HB:=Zz.k (Below.refl w.heap.size w)
 unfold w7_EditRaces.f at h; have H:=h
 clear h
 obtain ⟨t604,A2,H⟩:=bE H
 by_cases c3 : t604 = true
 ·show (let G_ : Prop:=_; G_)
  intro G_
  exact (let_tmp i_ : Nonempty G_:=(((⟨by
  subst G_
  subst c3
  rw [if_pos rfl] at H
  obtain rfl:=Zo H
  go_enter Tryz.func3,Tryz.ntmps3
  go_wp2_with (first | ((with_reducible refine Qaf (N:=1) rfl ?_); (try (refine Qah (by rfl) ?_; dsimp only)); refine bx 1 #[.slice A0_0 l0_0.length c0_0, .slice A0_1 l0_1.length c0_1, .slice A0_2 l0_2.length c0_2, .slice A0_3 l0_3.length c0_3] 27 (h := ?_); intro gb603 hg w4 hbox hb; have BK603:=Zz.k (hbox); have GW603:=bz HB hg; have GE603:=bz HB hg; replace HB:=bs HB hb; clear hb hbox hg; obtain ⟨_,_,_,_,_,_,_,_⟩:=kc4 BK603) | ((with_reducible refine Qac (f:=7) rfl ?_); refine gl (some 24) Tryz.func7 #[.agg #[.slice A0_0 l0_0.length c0_0, .slice A0_1 l0_1.length c0_1, .slice A0_2 l0_2.length c0_2, .slice A0_3 l0_3.length c0_3]] (h := ?_); (with_reducible refine (w5_Heavy.calls k _ _ l0_0 _ _ l0_1 _ _ l0_2 _ _ l0_3 true _ ?side1 ?side2 ?side3 ?side4 ?side5 ?side6 ?side7 ?side8 A2.out).mono ?_); (case side1 => exact cb HR0_0 HB); (case side2 => exact HC0_0.out); (case side3 => exact cb HR0_1 HB); (case side4 => exact HC0_1.out); (case side5 => exact cb HR0_2 HB); (case side6 => exact HC0_2.out); (case side7 => exact cb HR0_3 HB); (case side8 => exact HC0_3.out); rintro e w6 ⟨rfl,hb⟩; refine ⟨_,rfl, ?_⟩; replace BK603:=bl BK603 hb; replace HB:=bs HB hb; clear hb))
  go_ret
  exact ⟨re,bw HB⟩⟩ : Nonempty G_)) :); w7_EditRaces.bxo (G:=G_) (inferInstanceAs (Nonempty G_)))
 replace c3:=Zf c3
 subst c3
 rw [if_neg nft] at H
 have H':=Zz.k H
 clear H
 go_enter Tryz.func3,Tryz.ntmps3
 go_wp2_with (first | ((with_reducible refine Qaf (N:=1) rfl ?_); (try (refine Qah (by rfl) ?_; dsimp only)); refine bx 1 #[.slice A0_0 l0_0.length c0_0, .slice A0_1 l0_1.length c0_1, .slice A0_2 l0_2.length c0_2, .slice A0_3 l0_3.length c0_3] 27 (h := ?_); intro gb603 hg w7 hbox hb; have BK603:=Zz.k (hbox); have GW603:=bz HB hg; have GE603:=bz HB hg; replace HB:=bs HB hb; clear hb hbox hg; obtain ⟨_,_,_,_,_,_,_,_⟩:=kc4 BK603) | ((with_reducible refine Qac (f:=7) rfl ?_); refine gl (some 24) Tryz.func7 #[.agg #[.slice A0_0 l0_0.length c0_0, .slice A0_1 l0_1.length c0_1, .slice A0_2 l0_2.length c0_2, .slice A0_3 l0_3.length c0_3]] (h := ?_); (with_reducible refine (w5_Heavy.calls k _ _ l0_0 _ _ l0_1 _ _ l0_2 _ _ l0_3 false _ ?side1 ?side2 ?side3 ?side4 ?side5 ?side6 ?side7 ?side8 A2.out).mono ?_); (case side1 => exact cb HR0_0 HB); (case side2 => exact HC0_0.out); (case side3 => exact cb HR0_1 HB); (case side4 => exact HC0_1.out); (case side5 => exact cb HR0_2 HB); (case side6 => exact HC0_2.out); (case side7 => exact cb HR0_3 HB); (case side8 => exact HC0_3.out); rintro e w9 ⟨rfl,hb⟩; refine ⟨_,rfl, ?_⟩; replace BK603:=bl BK603 hb; replace HB:=bs HB hb; clear hb))
 go_loopg [3] k (fun kq v3 w' => ∃ (x3_1 : Int),v3 = .int .i64 x3_1 /\ Zz (w7_EditRaces.l0 kq x3_1 l0_0 l0_1 l0_2 l0_3 = some r) /\ Zz (kq <= k) /\ Zz (w'.heap[gb603]? = some (.cells #[(.slice A0_0 l0_0.length c0_0),(.slice A0_1 l0_1.length c0_1),(.slice A0_2 l0_2.length c0_2),(.slice A0_3 l0_3.length c0_3)] 27 (0,0))) /\ Zz (Below w.heap.size w w'))
 case atStart => exact ⟨(0),rf,H',⟨Nat.le_refl _⟩,⟨kk BK603⟩,⟨bw HB⟩⟩
 case round =>
  show (let G_ : Prop:=_; G_)
  intro G_
  exact (let_tmp i_ : Nonempty G_:=(((⟨by
  subst G_
  clear H'
  try clear c3
  obtain ⟨x3_1,rfl,HA,HK1,BK603,HB⟩:=hrel
  cases gk with
  | zero => exact absurd HA.out (by simp [w7_EditRaces.l0])
  | succ k1 =>
   have H:=HA.out
   clear HA
   simp only [w7_EditRaces.l0] at H
   have HC10:=Zz.k H
   clear H
   go_upto_region 4 with (fail)
   go_cut [33] (fun v33 wc => ∃ (kq : Nat) (x33_9 : Bool),v33 = .bool x33_9 /\ Zz (w7_EditRaces.j1 kq x3_1 x33_9 l0_0 l0_1 l0_2 l0_3 = some r) /\ Zz (kq <= k1) /\ Zz (wc.heap[gb603]? = some (.cells #[(.slice A0_0 l0_0.length c0_0),(.slice A0_1 l0_1.length c0_1),(.slice A0_2 l0_2.length c0_2),(.slice A0_3 l0_3.length c0_3)] 27 (0,0))) /\ Zz (Below w.heap.size w wc))
   case first =>
    have H:=HC10.out
    clear HC10
    by_cases c11 : x3_1 < (l0_0.length : Int)
    ·show (let G_ : Prop:=_; G_)
     intro G_
     exact (let_tmp i_ : Nonempty G_:=(((⟨by
     subst G_
     rw [if_pos c11] at H
     have c11b0:=Zd c11
     clear c11
     (first | rw [c11b0] | (simp only [Qbe,Qbi]; rw [c11b0]) | skip)
     have H':=Zz.k H
     clear H
     obtain ⟨_,_,_,_,_,_,_,_⟩:=kc4 BK603
     go_wp2
     go_meet
     case rel => exact ⟨_,(decide (x3_1 < 4)),rf,H',⟨by have:=HK1.out; first | omega | exact Nat.le_refl _⟩,⟨kk BK603⟩,⟨bw HB⟩⟩⟩ : Nonempty G_)) :); w7_EditRaces.bxo (G:=G_) (inferInstanceAs (Nonempty G_)))
    rw [if_neg c11] at H
    have c11b0:=Ze c11
    clear c11
    (first | rw [c11b0] | (simp only [Qbe,Qbi]; rw [c11b0]) | skip)
    have H':=Zz.k H
    clear H
    obtain ⟨_,_,_,_,_,_,_,_⟩:=kc4 BK603
    go_wp2
    go_meet
    case rel => exact ⟨_,(false),rf,H',⟨by have:=HK1.out; first | omega | exact Nat.le_refl _⟩,⟨kk BK603⟩,⟨bw HB⟩⟩
   case rest =>
    show (let G_ : Prop:=_; G_)
    intro G_
    exact (let_tmp i_ : Nonempty G_:=(((⟨by
    subst G_
    clear HC10
    obtain ⟨kq,x33_9,rfl,HA,HJ9,BK603,HB⟩:=hcut
    cases kq with
    | zero => exact absurd HA.out (by simp [w7_EditRaces.j1])
    | succ kj9 =>
     have H:=HA.out
     clear HA
     simp only [w7_EditRaces.j1] at H
     by_cases c14 : x33_9 = true; rotate_left
     ·replace c14:=Zf c14
      subst c14
      rw [if_neg nft] at H
      obtain ⟨t605,A117,H⟩:=bE H
      obtain rfl:=Zo H
      go_wp2_with (first | ((with_reducible refine Qac (f:=16) rfl ?_); refine gl (some 200) Tryz.func16 #[] (h := ?_); (with_reducible refine (w7_wakes.calls  t605 _ A117.out).mono ?_); rintro e w118 ⟨rfl,hb⟩; refine ⟨_,rfl, ?_⟩; replace BK603:=bl BK603 hb; replace HB:=bs HB hb; clear hb))
      go_ret
      exact ⟨re,bw HB⟩
     show (let G_ : Prop:=_; G_)
     intro G_
     exact (let_tmp i_ : Nonempty G_:=(((⟨by
     subst G_
     subst c14
     rw [if_pos rfl] at H
     by_cases c15 : 0 <= x3_1; rotate_left
     ·rw [if_neg c15] at H
      exact absurd H (by simp)
     show (let G_ : Prop:=_; G_)
     intro G_
     exact (let_tmp i_ : Nonempty G_:=(((⟨by
     subst G_
     rw [if_pos c15] at H
     have c15b0:=Zd c15
     clear c15
     by_cases c16 : x3_1 < (l0_0.length : Int); rotate_left
     ·rw [if_neg c16] at H
      exact absurd H (by simp)
     show (let G_ : Prop:=_; G_)
     intro G_
     exact (let_tmp i_ : Nonempty G_:=(((⟨by
     subst G_
     rw [if_pos c16] at H
     have c16b0:=Zd c16
     clear c16
     obtain ⟨t607,A17,H⟩:=bE H
     by_cases c18 : t607 = true; rotate_left
     ·replace c18:=Zf c18
      subst c18
      rw [if_neg nft] at H
      have H':=Zz.k H
      clear H
      obtain ⟨_,_,_,_,_,_,_,_⟩:=kc4 BK603
      have p606 : 0 <= (x3_1 : Int):=od
      have q606 : x3_1 < (l0_0.length : Int):=od
      obtain ⟨ad606,A606_0,c606_0,e606,hx606_0,hl606_0,hi606_0⟩:=at_LOp HR0_0.out x3_1 p606 q606
      cases e606
      replace hx606_0:=cl HB hx606_0
      have HR606_0:=Zz.k hi606_0
      have HC606_0:=Zz.k hl606_0
      clear hi606_0 hl606_0
      replace p606:=eq_true p606
      replace q606:=eq_true q606
      go_wp2_with (first | ((with_reducible refine Qac (f:=8) rfl ?_); refine gl (some 42) Tryz.func8 #[.slice A606_0 (Qbx l0_0 x3_1).length c606_0] (h := ?_); (with_reducible refine (r4_Row.calls kj9 _ _ (Qbx l0_0 x3_1) false _ ?side1 ?side2 ?side3 A17.out).mono ?_); (case side1 => exact cb HR606_0 HB); (case side2 => exact HC606_0.out); (case side3 => exact (hT.below (bw HB))); rintro e w116 ⟨rfl,hb⟩; refine ⟨_,rfl, ?_⟩; replace BK603:=bl BK603 hb; replace HB:=bs HB hb; clear hb))
      go_roundg kj9
      case measure => have:=HK1.out; have:=HJ9.out; omega
      case rel => exact ⟨(wrap64 (x3_1 + 1)),rf,H',⟨by have:=HK1.out; have:=HJ9.out; omega⟩,⟨kk BK603⟩,⟨bw HB⟩⟩
     show (let G_ : Prop:=_; G_)
     intro G_
     exact (let_tmp i_ : Nonempty G_:=(((⟨by
     subst G_
     subst c18
     rw [if_pos rfl] at H
     obtain ⟨t608,A19,H⟩:=bE H
     have H':=Zz.k H
     clear H
     obtain ⟨_,_,_,_,_,_,_,_⟩:=kc4 BK603
     have p606 : 0 <= (x3_1 : Int):=od
     have q606 : x3_1 < (l0_0.length : Int):=od
     obtain ⟨ad606,A606_0,c606_0,e606,hx606_0,hl606_0,hi606_0⟩:=at_LOp HR0_0.out x3_1 p606 q606
     cases e606
     replace hx606_0:=cl HB hx606_0
     have HR606_0:=Zz.k hi606_0
     have HC606_0:=Zz.k hl606_0
     clear hi606_0 hl606_0
     replace p606:=eq_true p606
     replace q606:=eq_true q606
     go_wp2_with (first | ((with_reducible refine Qac (f:=8) rfl ?_); refine gl (some 42) Tryz.func8 #[.slice A606_0 (Qbx l0_0 x3_1).length c606_0] (h := ?_); (with_reducible refine (r4_Row.calls kj9 _ _ (Qbx l0_0 x3_1) true _ ?side1 ?side2 ?side3 A17.out).mono ?_); (case side1 => exact cb HR606_0 HB); (case side2 => exact HC606_0.out); (case side3 => exact (hT.below (bw HB))); rintro e w21 ⟨rfl,hb⟩; refine ⟨_,rfl, ?_⟩; replace BK603:=bl BK603 hb; replace HB:=bs HB hb; clear hb) | ((with_reducible refine Qac (f:=9) rfl ?_); refine gl (some 45) Tryz.func9 #[.slice A606_0 (Qbx l0_0 x3_1).length c606_0] (h := ?_); (with_reducible refine (r4_Visible.calls kj9 _ _ (Qbx l0_0 x3_1) t608 _ ?side1 ?side2 ?side3 A19.out).mono ?_); (case side1 => exact cb HR606_0 HB); (case side2 => exact HC606_0.out); (case side3 => exact (hT.below (bw HB))); rintro e w22 ⟨v609,rfl,ho0,hb⟩; refine ⟨_,rfl, ?_⟩; have HO610:=Zz.k (Kd.R_lower ho0 (Qal (bw HB))); replace BK603:=bl BK603 hb; replace HB:=bs HB hb; clear hb; clear ho0))
     go_loopg [6] kj9 (fun kq v6 w' => ∃ (x6_3 : Int),v6 = .int .i64 x6_3 /\ Zz (w7_EditRaces.l1 kq x3_1 (Qbx l0_0 x3_1) t608 x6_3 l0_0 l0_1 l0_2 l0_3 = some r) /\ Zz (kq <= kj9) /\ Zz (Kd.R Qap 32 w' w.heap.size (fun _ => True) v609 t608) /\ Zz (w'.heap[gb603]? = some (.cells #[(.slice (some ad606) l0_0.length c0_0),(.slice A0_1 l0_1.length c0_1),(.slice A0_2 l0_2.length c0_2),(.slice A0_3 l0_3.length c0_3)] 27 (0,0))) /\ Zz (Below w.heap.size w w'))
     case atStart => exact ⟨(0),rf,H',⟨Nat.le_refl _⟩,⟨rk HO610⟩,⟨kk BK603⟩,⟨bw HB⟩⟩
     case round =>
      show (let G_ : Prop:=_; G_)
      intro G_
      exact (let_tmp i_ : Nonempty G_:=(((⟨by
      subst G_
      clear H'
      try clear c14; try clear c15b0; try clear c16b0; try clear c18; try clear hx606_0; try clear p606; try clear q606
      obtain ⟨x6_3,rfl,HA,HK3,HO_5,BK603,HB⟩:=hrel
      cases gk with
      | zero => exact absurd HA.out (by simp [w7_EditRaces.l1])
      | succ k3 =>
       have H:=HA.out
       clear HA
       simp only [w7_EditRaces.l1] at H
       by_cases c23 : x6_3 < 6; rotate_left
       ·rw [if_neg c23] at H
        have c23b0:=Ze c23
        clear c23
        have H':=Zz.k H
        clear H
        go_wp2
        go_roundg k3
        case measure => have:=HK1.out; have:=HJ9.out; have:=HK3.out; omega
        case rel => exact ⟨(wrap64 (x3_1 + 1)),rf,H',⟨by have:=HK1.out; have:=HJ9.out; have:=HK3.out; omega⟩,⟨kk BK603⟩,⟨bw HB⟩⟩
       show (let G_ : Prop:=_; G_)
       intro G_
       exact (let_tmp i_ : Nonempty G_:=(((⟨by
       subst G_
       rw [if_pos c23] at H
       have c23b0:=Zd c23
       clear c23
       by_cases c24 : (wrap64 ((t608.length : Int) + 1)) = 0
       ·rw [if_pos c24] at H
        exact absurd H (by simp)
       rw [if_neg c24] at H
       obtain ⟨c24b0,c24b1⟩:=bF c24
       have HC25:=Zz.k H
       clear H
       obtain ⟨Ao26,co26,eo26⟩:=Kd.R_slice HO_5.out
       subst eo26
       go_upto_if 61 with (fail)
       go_cut [8] (fun v8 wc => ∃ (kq : Nat) (x8_24 : Int),v8 = .int .i64 x8_24 /\ Zz (w7_EditRaces.j3 kq x3_1 (Qbx l0_0 x3_1) t608 x6_3 (Int.tmod (wrap64 ((wrap64 (x6_3 * 3)) + x3_1)) (wrap64 ((t608.length : Int) + 1))) x8_24 l0_0 l0_1 l0_2 l0_3 = some r) /\ Zz (kq <= k3) /\ Zz (Kd.R Qap 32 wc w.heap.size (fun _ => True) (.slice Ao26 t608.length co26) t608) /\ Zz (wc.heap[gb603]? = some (.cells #[(.slice (some ad606) l0_0.length c0_0),(.slice A0_1 l0_1.length c0_1),(.slice A0_2 l0_2.length c0_2),(.slice A0_3 l0_3.length c0_3)] 27 (0,0))) /\ Zz (Below w.heap.size w wc))
       case first =>
        have H:=HC25.out
        clear HC25
        by_cases c27 : (Int.tmod (wrap64 ((wrap64 (x6_3 * 3)) + x3_1)) (wrap64 ((t608.length : Int) + 1))) < (t608.length : Int)
        ·show (let G_ : Prop:=_; G_)
         intro G_
         exact (let_tmp i_ : Nonempty G_:=(((⟨by
         subst G_
         rw [if_pos c27] at H
         have c27b0:=Zd c27
         clear c27
         (first | rw [c27b0] | (simp only [Qbe,Qbi]; rw [c27b0]) | skip)
         have H':=Zz.k H
         clear H
         go_wp2
         go_meet
         case rel => exact ⟨_,(Int.tmod x6_3 2),rf,H',⟨by have:=HK1.out; have:=HJ9.out; have:=HK3.out; first | omega | exact Nat.le_refl _⟩,⟨rk HO_5⟩,⟨kk BK603⟩,⟨bw HB⟩⟩⟩ : Nonempty G_)) :); w7_EditRaces.bxo (G:=G_) (inferInstanceAs (Nonempty G_)))
        rw [if_neg c27] at H
        have c27b0:=Ze c27
        clear c27
        (first | rw [c27b0] | (simp only [Qbe,Qbi]; rw [c27b0]) | skip)
        have H':=Zz.k H
        clear H
        go_wp2
        go_meet
        case rel => exact ⟨_,(0),rf,H',⟨by have:=HK1.out; have:=HJ9.out; have:=HK3.out; first | omega | exact Nat.le_refl _⟩,⟨rk HO_5⟩,⟨kk BK603⟩,⟨bw HB⟩⟩
       case rest =>
        show (let G_ : Prop:=_; G_)
        intro G_
        exact (let_tmp i_ : Nonempty G_:=(((⟨by
        subst G_
        clear HC25
        try clear c23b0; try clear c24; try clear c24b0; try clear c24b1
        obtain ⟨kq,x8_24,rfl,HA,HJ24,HO_5,BK603,HB⟩:=hcut
        cases kq with
        | zero => exact absurd HA.out (by simp [w7_EditRaces.j3])
        | succ kj24 =>
         have H:=HA.out
         clear HA
         simp only [w7_EditRaces.j3] at H
         obtain ⟨⟨t611,t612,t613,t614,t615,t616,t617,t618,t621,t622,t623,t624⟩,A28,H⟩:=bE H
         try dsimp only at H
         by_cases c29 : (wrap64 ((t608.length : Int) + 1)) = 0
         ·rw [if_pos c29] at H
          exact absurd H (by simp)
         rw [if_neg c29] at H
         obtain ⟨c29b0,c29b1⟩:=bF c29
         obtain ⟨⟨t626,t627,t628,t629,t630,t631,t632,t633,t636,t637,t638,t639⟩,A30,H⟩:=bE H
         try dsimp only at H
         have HC31:=Zz.k H
         clear H
         go_upto_region 17 with (first | ((with_reducible refine Qac (f:=10) rfl ?_); refine gl (some 68) Tryz.func10 #[.slice A606_0 (Qbx l0_0 x3_1).length c606_0, .int .i64 1, .int .i64 (Int.tmod (wrap64 ((wrap64 (x6_3 * 3)) + x3_1)) (wrap64 ((t608.length : Int) + 1))), .int .i64 x8_24, .string (⟨#[112,113]⟩ : ByteArray)] (h := ?_); (with_reducible refine (edit_Replace.calls _ _ (Qbx l0_0 x3_1) 1 (Int.tmod (wrap64 ((wrap64 (x6_3 * 3)) + x3_1)) (wrap64 ((t608.length : Int) + 1))) x8_24 (⟨#[112,113]⟩ : ByteArray) t611 t612 t613 t614 t615 t616 t617 t618 t621 t622 t623 t624 _ ?side1 ?side2 A28.out).mono ?_); (case side1 => exact cb HR606_0 HB); (case side2 => exact HC606_0.out); rintro e w32 ⟨v619,rfl,ho0,hb⟩; refine ⟨_,rfl, ?_⟩; have HO620:=Zz.k (Kd.R_lower (Kd.R_new' ho0 (Kd.R_lt (rk HO_5))) (Qal (bw HB))); replace HO_5:=Zz.k (Kd.R_elder' (rk HO_5) (Kd.R_base ho0) hb); replace BK603:=bl BK603 hb; replace HB:=bs HB hb; clear hb; clear ho0) | ((with_reducible refine Qaf (N:=9) rfl ?_); (try (refine Qah (by rfl) ?_; dsimp only)); refine bx 9 #[.int .i64 0, .int .i64 0, .int .i64 0, .int .i64 0, .int .i64 0, .int .i64 0, .string (⟨#[]⟩ : ByteArray), .slice none 0 0, .int .i64 0, .int .i64 0, .int .i64 0] 34 (h := ?_); intro gb625 hg w33 hbox hb; have BK625:=Zz.k (hbox); have GW625:=bz HB hg; have GE625:=bz HB hg; have NB603_625:=bn BK603 hg; have NB625_603:=bm BK603 hg; replace HO_5:=rb HO_5 hb; replace HO620:=rb HO620 hb; replace BK603:=bl BK603 hb; replace HB:=bs HB hb; clear hb hbox hg; have hnb34:=NB625_603.out; have hnc34:=NB603_625.out; obtain ⟨_,_,_,_,_,_,_,_,_,_,_,_,_,_,_,_,_,_,_,_,_,_⟩:=kc11 BK625; obtain ⟨Ao36,co36,eo36⟩:=Kd.R_slice HO620.out; subst eo36) | ((with_reducible refine Qac (f:=10) rfl ?_); refine gl (some 79) Tryz.func10 #[.slice A606_0 (Qbx l0_0 x3_1).length c606_0, .int .i64 2, .int .i64 (Int.tmod (wrap64 (x6_3 * 5)) (wrap64 ((t608.length : Int) + 1))), .int .i64 0, .string (⟨#[114,115]⟩ : ByteArray)] (h := ?_); (with_reducible refine (edit_Replace.calls _ _ (Qbx l0_0 x3_1) 2 (Int.tmod (wrap64 (x6_3 * 5)) (wrap64 ((t608.length : Int) + 1))) 0 (⟨#[114,115]⟩ : ByteArray) t626 t627 t628 t629 t630 t631 t632 t633 t636 t637 t638 t639 _ ?side1 ?side2 A30.out).mono ?_); (case side1 => exact Kd.C_below HR606_0.out (bw HB)); (case side2 => exact HC606_0.out); rintro e w37 ⟨v634,rfl,ho0,hb⟩; refine ⟨_,rfl, ?_⟩; have HO635:=Zz.k (Kd.R_lower (Kd.R_new' (Kd.R_new' ho0 (Kd.R_lt (by (with_reducible repeat (first | apply Kd.R_alloc | apply Kd.R_drewN | apply Kd.R_drew)); exact (Kd.R_mono (rf11 (Kd.R_types HO_5.out BK625.out (by decide))) (fun _ h_ => h_.1))))) (Kd.R_lt (by (with_reducible repeat (first | apply Kd.R_alloc | apply Kd.R_drewN | apply Kd.R_drew)); exact (Kd.R_mono (rf11 (Kd.R_types HO620.out BK625.out (by decide))) (fun _ h_ => h_.1))))) (Qal (bw HB))); replace HO_5:=Zz.k (Kd.R_elder' (by (with_reducible repeat (first | apply Kd.R_alloc | apply Kd.R_drewN | apply Kd.R_drew)); exact (Kd.R_mono (rf11 (Kd.R_types HO_5.out BK625.out (by decide))) (fun _ h_ => h_.1))) (Kd.R_base ho0) hb); replace HO620:=Zz.k (Kd.R_elder' (by (with_reducible repeat (first | apply Kd.R_alloc | apply Kd.R_drewN | apply Kd.R_drew)); exact (Kd.R_mono (rf11 (Kd.R_types HO620.out BK625.out (by decide))) (fun _ h_ => h_.1))) (Kd.R_base ho0) hb); replace BK603:=bl BK603 hb; replace BK625:=Zz.k (Qcp (by (with_reducible repeat (first | refine Qbp ?_ _ | refine Qao ?_ | refine Qax ?_ _)); exact bp11 (kk BK625)) hb); replace HB:=bs HB hb; clear hb; clear ho0) | ((with_reducible refine Qaf (N:=11) rfl ?_); (try (refine Qah (by rfl) ?_; dsimp only)); refine bx 11 #[.int .i64 0, .int .i64 0, .int .i64 0, .int .i64 0, .int .i64 0, .int .i64 0, .string (⟨#[]⟩ : ByteArray), .slice none 0 0, .int .i64 0, .int .i64 0, .int .i64 0] 34 (h := ?_); intro gb640 hg w38 hbox hb; have BK640:=Zz.k (hbox); have GW640:=bz HB hg; have GE640:=bz HB hg; have NB603_640:=bn BK603 hg; have NB640_603:=bm BK603 hg; have NB625_640:=bn BK625 hg; have NB640_625:=bm BK625 hg; replace HO_5:=rb HO_5 hb; replace HO620:=rb HO620 hb; replace HO635:=rb HO635 hb; replace BK603:=bl BK603 hb; replace BK625:=bl BK625 hb; replace HB:=bs HB hb; clear hb hbox hg; have hnb39:=NB640_603.out; have hnc39:=NB603_640.out; have hnb40:=NB640_625.out; have hnc40:=NB625_640.out; obtain ⟨_,_,_,_,_,_,_,_,_,_,_,_,_,_,_,_,_,_,_,_,_,_⟩:=kc11 BK640; obtain ⟨Ao42,co42,eo42⟩:=Kd.R_slice HO635.out; subst eo42))
         (try simp only [Act.put,List.setIfInBounds_toArray,List.set_cons_zero,List.set_cons_succ])
         go_cut [89] (fun v89 wc => ∃ (kq : Nat) (x89_30 : Bool),v89 = .bool x89_30 /\ Zz (w7_EditRaces.j4 kq x3_1 (Qbx l0_0 x3_1) t608 x6_3 x8_24 x89_30 l0_0 l0_1 l0_2 l0_3 t611 t612 t613 t614 t615 t616 t617 t618 t621 t622 t623 t626 t627 t628 t629 t630 t631 t632 t633 t636 t637 t638 = some r) /\ Zz (kq <= kj24) /\ Zz (Kd.R Qap 32 wc w.heap.size (fun k_ => some k_ ≠ ((.slice Ao36 t618.length co36) : Value).ownBlock /\ some k_ ≠ ((.slice Ao42 t633.length co42) : Value).ownBlock) (.slice Ao26 t608.length co26) t608) /\ Zz (Kd.R Qap 32 wc w.heap.size (fun k_ => some k_ ≠ ((.slice Ao26 t608.length co26) : Value).ownBlock /\ some k_ ≠ ((.slice Ao42 t633.length co42) : Value).ownBlock) (.slice Ao36 t618.length co36) t618) /\ Zz (Kd.R Qap 32 wc w.heap.size (fun k_ => some k_ ≠ ((.slice Ao26 t608.length co26) : Value).ownBlock /\ some k_ ≠ ((.slice Ao36 t618.length co36) : Value).ownBlock) (.slice Ao42 t633.length co42) t633) /\ Zz (wc.heap[gb603]? = some (.cells #[(.slice (some ad606) l0_0.length c0_0),(.slice A0_1 l0_1.length c0_1),(.slice A0_2 l0_2.length c0_2),(.slice A0_3 l0_3.length c0_3)] 27 (0,0))) /\ Zz (wc.heap[gb625]? = some (.cells #[.int .i64 t611, .int .i64 t612, .int .i64 t613, .int .i64 t614, .int .i64 t615, .int .i64 t616, .string t617,(.slice Ao36 t618.length co36), .int .i64 t621, .int .i64 t622, .int .i64 t623] 34 (0,0))) /\ Zz (wc.heap[gb640]? = some (.cells #[.int .i64 t626, .int .i64 t627, .int .i64 t628, .int .i64 t629, .int .i64 t630, .int .i64 t631, .string t632,(.slice Ao42 t633.length co42), .int .i64 t636, .int .i64 t637, .int .i64 t638] 34 (0,0))) /\ Zz (Below w.heap.size w wc))
         case first =>
          have H:=HC31.out
          clear HC31
          obtain ⟨t641,A43,H⟩:=bE H
          by_cases c44 : t641 = 0; rotate_left
          ·rw [if_neg c44] at H
           obtain ⟨c44b0,c44b1⟩:=bF c44
           (first | rw [c44b0] | (simp only [Qbe,Qbi]; rw [c44b0]) | skip)
           have H':=Zz.k H
           clear H
           go_wp2_with (first | ((with_reducible refine Qac (f:=11) rfl ?_); refine gl (some 83) Tryz.func11 #[.int .i64 t624] (h := ?_); (with_reducible refine (w7_num.calls t624 t641 _ A43.out).mono ?_); rintro e w' ⟨rfl,⟨nd,rfl⟩⟩; refine ⟨_,rfl, ?_⟩))
           go_meet
           case rel => exact ⟨_,(true),rf,H',⟨by have:=HK1.out; have:=HJ9.out; have:=HK3.out; have:=HJ24.out; first | omega | exact Nat.le_refl _⟩,⟨by (with_reducible repeat (first | apply Kd.R_alloc | apply Kd.R_drewN | apply Kd.R_drew)); exact Kd.R_mono (rf11 (Kd.R_types HO_5.out BK640.out (by decide))) (fun _ hk => ⟨hk.1.1.2,hk.1.2⟩)⟩,⟨by (with_reducible repeat (first | apply Kd.R_alloc | apply Kd.R_drewN | apply Kd.R_drew)); exact Kd.R_mono (rf11 (Kd.R_types HO620.out BK640.out (by decide))) (fun _ hk => ⟨hk.1.1.2,hk.1.2⟩)⟩,⟨by (with_reducible repeat (first | apply Kd.R_alloc | apply Kd.R_drewN | apply Kd.R_drew)); exact Kd.R_mono (rf11 (Kd.R_types HO635.out BK640.out (by decide))) (fun _ hk => ⟨hk.1.1.2,hk.1.2⟩)⟩,⟨kk BK603⟩,⟨kk BK625⟩,⟨by (with_reducible repeat (first | refine Qbp ?_ _ | refine Qao ?_ | refine Qax ?_ _)); exact bp11 (kk BK640)⟩,⟨bw HB⟩⟩
          show (let G_ : Prop:=_; G_)
          intro G_
          exact (let_tmp i_ : Nonempty G_:=(((⟨by
          subst G_
          rw [if_pos c44] at H
          obtain ⟨c44b0,c44b1⟩:=bT c44
          clear c44
          (first | rw [c44b0] | (simp only [Qbe,Qbi]; rw [c44b0]) | skip)
          obtain ⟨t642,A45,H⟩:=bE H
          have H':=Zz.k H
          clear H
          go_wp2_with (first | ((with_reducible refine Qac (f:=11) rfl ?_); refine gl (some 83) Tryz.func11 #[.int .i64 t624] (h := ?_); (with_reducible refine (w7_num.calls t624 t641 _ A43.out).mono ?_); rintro e w' ⟨rfl,⟨nd,rfl⟩⟩; refine ⟨_,rfl, ?_⟩) | (go_at_call 11; (with_reducible refine (w7_num.calls t639 t642 _ A45.out).mono ?_); rintro e w' ⟨rfl,⟨nd,rfl⟩⟩))
          go_meet
          case rel => exact ⟨_,((t642 != 0)),rf,H',⟨by have:=HK1.out; have:=HJ9.out; have:=HK3.out; have:=HJ24.out; first | omega | exact Nat.le_refl _⟩,⟨by (with_reducible repeat (first | apply Kd.R_alloc | apply Kd.R_drewN | apply Kd.R_drew)); exact Kd.R_mono (rf11 (Kd.R_types HO_5.out BK640.out (by decide))) (fun _ hk => ⟨hk.1.1.2,hk.1.2⟩)⟩,⟨by (with_reducible repeat (first | apply Kd.R_alloc | apply Kd.R_drewN | apply Kd.R_drew)); exact Kd.R_mono (rf11 (Kd.R_types HO620.out BK640.out (by decide))) (fun _ hk => ⟨hk.1.1.2,hk.1.2⟩)⟩,⟨by (with_reducible repeat (first | apply Kd.R_alloc | apply Kd.R_drewN | apply Kd.R_drew)); exact Kd.R_mono (rf11 (Kd.R_types HO635.out BK640.out (by decide))) (fun _ hk => ⟨hk.1.1.2,hk.1.2⟩)⟩,⟨kk BK603⟩,⟨kk BK625⟩,⟨by (with_reducible repeat (first | refine Qbp ?_ _ | refine Qao ?_ | refine Qax ?_ _)); exact bp11 (kk BK640)⟩,⟨bw HB⟩⟩⟩ : Nonempty G_)) :); w7_EditRaces.bxo (G:=G_) (inferInstanceAs (Nonempty G_)))
         case rest =>
          show (let G_ : Prop:=_; G_)
          intro G_
          exact (let_tmp i_ : Nonempty G_:=(((⟨by
          subst G_
          clear HC31
          try clear c29; try clear c29b0; try clear c29b1
          obtain ⟨kq,x89_30,rfl,HA,HJ30,HO_5,HO_626007,HO_641007,BK603,BK625,BK640,HB⟩:=hcut
          cases kq with
          | zero => exact absurd HA.out (by simp [w7_EditRaces.j4])
          | succ kj30 =>
           have H:=HA.out
           clear HA
           simp only [w7_EditRaces.j4] at H
           by_cases c46 : x89_30 = true
           ·show (let G_ : Prop:=_; G_)
            intro G_
            exact (let_tmp i_ : Nonempty G_:=(((⟨by
            subst G_
            subst c46
            rw [if_pos rfl] at H
            have H':=Zz.k H
            clear H
            go_wp2
            go_roundg kj30
            case measure => have:=HK1.out; have:=HJ9.out; have:=HK3.out; have:=HJ24.out; have:=HJ30.out; omega
            case rel => exact ⟨(wrap64 (x6_3 + 1)),rf,H',⟨by have:=HK1.out; have:=HJ9.out; have:=HK3.out; have:=HJ24.out; have:=HJ30.out; omega⟩,⟨by (with_reducible repeat (first | apply Kd.R_alloc | apply Kd.R_drewN | apply Kd.R_drew)); exact Kd.R_mono HO_5.out (fun _ hk => trivial)⟩,⟨kk BK603⟩,⟨bw HB⟩⟩⟩ : Nonempty G_)) :); w7_EditRaces.bxo (G:=G_) (inferInstanceAs (Nonempty G_)))
           replace c46:=Zf c46
           subst c46
           rw [if_neg nft] at H
           obtain ⟨t643,A47,H⟩:=bE H
           obtain ⟨t646,A48,H⟩:=bE H
           obtain ⟨t649,A49,H⟩:=bE H
           obtain ⟨t652,A50,H⟩:=bE H
           obtain ⟨⟨t655,t656⟩,A51,H⟩:=bE H
           try dsimp only at H
           obtain ⟨⟨t659,t660⟩,A52,H⟩:=bE H
           try dsimp only at H
           have HC53:=Zz.k H
           clear H
           try go_wp2
           have n0_:=Zz.k (Kd.R_drew HO_5.out)
           have n1_:=Zz.k (Kd.R_drew HO_626007.out)
           have n2_:=Zz.k (Kd.R_drew HO_641007.out)
           have n3_:=Zz.k (Qao BK603.out)
           have n4_:=Zz.k (Qao BK625.out)
           have n5_:=Zz.k (Qao BK640.out)
           have n6_:=Zz.k (Qae HB.out)
           clear HO_5
           clear HO_626007
           clear HO_641007
           clear BK603
           clear BK625
           clear BK640
           clear HB
           have HO_5:=n0_
           have HO_626007:=n1_
           have HO_641007:=n2_
           have BK603:=n3_
           have BK625:=n4_
           have BK640:=n5_
           have HB:=n6_
           clear n0_ n1_ n2_ n3_ n4_ n5_ n6_
           refine stP (fun w' => B11 w' gb625 (.int .i64 t611) (.int .i64 t612) (.int .i64 t613) (.int .i64 t614) (.int .i64 t615) (.int .i64 t616) (.string t617) (.slice Ao36 t618.length co36) (.int .i64 t621) (.int .i64 t622) (.int .i64 t623) (E11 w' gb640 (.int .i64 t626) (.int .i64 t627) (.int .i64 t628) (.int .i64 t629) (.int .i64 t630) (.int .i64 t631) (.string t632) (.slice Ao42 t633.length co42) (.int .i64 t636) (.int .i64 t637) (.int .i64 t638))) 12 (b11 BK625 (e11 BK640)) (h:=fun hHeld => ?_); refine Qaw w7_EditRaces.tab18 w7_EditRaces.bits18 (fun HT_ HW_ => ?_)
           generalize wc.drew = w54 at HO_5 HO_626007 HO_641007 BK603 BK625 BK640 HB hHeld ⊢
           refine pu HT_ 0 90 1 (h := ?_)
           refine pu HT_ 5 95 33 (h := ?_)
           refine tk HT_ HW_ hHeld 1 91 35 (h := ?_)
           refine tk HT_ HW_ hHeld 3 93 43 (h := ?_)
           refine tk HT_ HW_ hHeld 6 96 107 (h := ?_)
           refine tk HT_ HW_ hHeld 8 98 363 (h := ?_)
           refine on HT_ 2 (some 92) 367 (h:=fun K hK => ?_)
           refine gS Tryz.func12 #[.slice A606_0 (Qbx l0_0 x3_1).length c606_0, .agg #[.int .i64 t611, .int .i64 t612, .int .i64 t613, .int .i64 t614, .int .i64 t615, .int .i64 t616, .string t617, .slice Ao36 t618.length co36, .int .i64 t621, .int .i64 t622, .int .i64 t623]] (h := ?_)
           with_reducible refine (r4_Behind.calls kj30 _ _ (Qbx l0_0 x3_1) t611 t612 t613 t614 t615 t616 t617 _ _ t618 t621 t622 t623 t643 _ ?side1 ?side2 ?side3 ?side4 A47.out).mono ?_
           (case side1 => exact cb HR606_0 HB)
           (case side2 => exact HC606_0.out)
           (case side3 => exact cr HO_626007)
           (case side4 => exact (Kd.R_reads' HO_626007.out).2.1)
           rintro e w55 ⟨v644,rfl,ho0,hb⟩
           refine ⟨_,rfl, ?_⟩
           have n0_:=rb HO_5 hb
           have n1_:=rb HO_626007 hb
           have n2_:=rb HO_641007 hb
           have n3_:=Zz.k (Kd.N_lower (Kd.N_mono (ok':=fun k_ => some k_ ≠ (.slice Ao26 t608.length co26 : Value).ownBlock /\ some k_ ≠ (.slice Ao36 t618.length co36 : Value).ownBlock /\ some k_ ≠ (.slice Ao42 t633.length co42 : Value).ownBlock /\ k_ ≠ gb603 /\ k_ ≠ gb625 /\ k_ ≠ gb640) (Kd.S_N (Kd.S_bound ho0)) (fun k_ hk_ => ⟨(Kd.fresh' (Kd.R_lt (rk HO_5)) k_ hk_.2.1),(Kd.fresh' (Kd.R_lt (rk HO_626007)) k_ hk_.2.1),(Kd.fresh' (Kd.R_lt (rk HO_641007)) k_ hk_.2.1),(Kd.freshB (kk BK603) k_ hk_.2.1),(Kd.freshB (kk BK625) k_ hk_.2.1),(Kd.freshB (kk BK640) k_ hk_.2.1)⟩)) (Qal (bw HB)))
           have n4_:=bl BK603 hb
           have n5_:=bl BK625 hb
           have n6_:=bl BK640 hb
           have n7_:=bs HB hb
           clear HO_5
           clear HO_626007
           clear HO_641007
           clear BK603
           clear BK625
           clear BK640
           clear HB
           have HO_5:=n0_
           have HO_626007:=n1_
           have HO_641007:=n2_
           have HO645:=n3_
           have BK603:=n4_
           have BK625:=n5_
           have BK640:=n6_
           have HB:=n7_
           clear n0_ n1_ n2_ n3_ n4_ n5_ n6_ n7_
           (try clear hb)
           (try clear hb2)
           (try clear hk)
           (try clear hi)
           (try clear ho0)
           obtain ⟨Ao56,co56,eo56⟩:=Kd.N_slice HO645.out
           (first | subst eo56 | (injection eo56 with f1_ f2_ f3_; have f4_:=f1_.symm; have f5_:=f3_.symm; clear f1_ f2_ f3_; subst f4_; subst f5_))
           refine hK.out _ _ (b11 BK625 (e11 BK640)) (fun hHeld => ?_)
           clear hK K
           refine nn 92 (h := ?_)
           refine on HT_ 4 (some 94) 383 (h:=fun K hK => ?_)
           refine gS Tryz.func12 #[.slice Ao56 t643.length co56, .agg #[.int .i64 t626, .int .i64 t627, .int .i64 t628, .int .i64 t629, .int .i64 t630, .int .i64 t631, .string t632, .slice Ao42 t633.length co42, .int .i64 t636, .int .i64 t637, .int .i64 t638]] (h := ?_)
           with_reducible refine (r4_Behind.calls kj30 _ _ t643 t626 t627 t628 t629 t630 t631 t632 _ _ t633 t636 t637 t638 t646 _ ?side1 ?side2 ?side3 ?side4 A48.out).mono ?_
           (case side1 => exact cn HO645)
           (case side2 => exact (Kd.N_reads' HO645.out).2.1)
           (case side3 => exact cr HO_641007)
           (case side4 => exact (Kd.R_reads' HO_641007.out).2.1)
           rintro e w57 ⟨v647,rfl,ho0,hb⟩
           refine ⟨_,rfl, ?_⟩
           have n0_:=rb HO_5 hb
           have n1_:=rb HO_626007 hb
           have n2_:=rb HO_641007 hb
           have n3_:=Zz.k (Kd.N_elder' (nk HO645) (Kd.N_base (Kd.S_N ho0)) hb)
           have n4_:=Zz.k (Kd.N_lower (Kd.N_mono (ok':=fun k_ => some k_ ≠ (.slice Ao26 t608.length co26 : Value).ownBlock /\ some k_ ≠ (.slice Ao36 t618.length co36 : Value).ownBlock /\ some k_ ≠ (.slice Ao42 t633.length co42 : Value).ownBlock /\ some k_ ≠ (.slice Ao56 t643.length co56 : Value).ownBlock /\ k_ ≠ gb603 /\ k_ ≠ gb625 /\ k_ ≠ gb640) (Kd.S_N (Kd.S_bound ho0)) (fun k_ hk_ => ⟨(Kd.fresh' (Kd.R_lt (rk HO_5)) k_ hk_.2.1),(Kd.fresh' (Kd.R_lt (rk HO_626007)) k_ hk_.2.1),(Kd.fresh' (Kd.R_lt (rk HO_641007)) k_ hk_.2.1),(Kd.fresh' (Kd.N_lt (nk HO645)) k_ hk_.2.1),(Kd.freshB (kk BK603) k_ hk_.2.1),(Kd.freshB (kk BK625) k_ hk_.2.1),(Kd.freshB (kk BK640) k_ hk_.2.1)⟩)) (Qal (bw HB)))
           have n5_:=bl BK603 hb
           have n6_:=bl BK625 hb
           have n7_:=bl BK640 hb
           have n8_:=bs HB hb
           clear HO_5
           clear HO_626007
           clear HO_641007
           clear HO645
           clear BK603
           clear BK625
           clear BK640
           clear HB
           have HO_5:=n0_
           have HO_626007:=n1_
           have HO_641007:=n2_
           have HO645:=n3_
           have HO648:=n4_
           have BK603:=n5_
           have BK625:=n6_
           have BK640:=n7_
           have HB:=n8_
           clear n0_ n1_ n2_ n3_ n4_ n5_ n6_ n7_ n8_
           (try clear hb)
           (try clear hb2)
           (try clear hk)
           (try clear hi)
           (try clear ho0)
           refine hK.out _ _ (b11 BK625 (e11 BK640)) (fun hHeld => ?_)
           clear hK K
           refine nn 94 (h := ?_)
           refine on HT_ 7 (some 97) 511 (h:=fun K hK => ?_)
           refine gS Tryz.func12 #[.slice A606_0 (Qbx l0_0 x3_1).length c606_0, .agg #[.int .i64 t626, .int .i64 t627, .int .i64 t628, .int .i64 t629, .int .i64 t630, .int .i64 t631, .string t632, .slice Ao42 t633.length co42, .int .i64 t636, .int .i64 t637, .int .i64 t638]] (h := ?_)
           with_reducible refine (r4_Behind.calls kj30 _ _ (Qbx l0_0 x3_1) t626 t627 t628 t629 t630 t631 t632 _ _ t633 t636 t637 t638 t649 _ ?side1 ?side2 ?side3 ?side4 A49.out).mono ?_
           (case side1 => exact cb HR606_0 HB)
           (case side2 => exact HC606_0.out)
           (case side3 => exact cr HO_641007)
           (case side4 => exact (Kd.R_reads' HO_641007.out).2.1)
           rintro e w58 ⟨v650,rfl,ho0,hb⟩
           refine ⟨_,rfl, ?_⟩
           have n0_:=rb HO_5 hb
           have n1_:=rb HO_626007 hb
           have n2_:=rb HO_641007 hb
           have n3_:=Zz.k (Kd.N_elder' (nk HO645) (Kd.N_base (Kd.S_N ho0)) hb)
           have n4_:=Zz.k (Kd.N_elder' (nk HO648) (Kd.N_base (Kd.S_N ho0)) hb)
           have n5_:=Zz.k (Kd.N_lower (Kd.N_mono (ok':=fun k_ => some k_ ≠ (.slice Ao26 t608.length co26 : Value).ownBlock /\ some k_ ≠ (.slice Ao36 t618.length co36 : Value).ownBlock /\ some k_ ≠ (.slice Ao42 t633.length co42 : Value).ownBlock /\ some k_ ≠ (.slice Ao56 t643.length co56 : Value).ownBlock /\ some k_ ≠ (v647 : Value).ownBlock /\ k_ ≠ gb603 /\ k_ ≠ gb625 /\ k_ ≠ gb640) (Kd.S_N (Kd.S_bound ho0)) (fun k_ hk_ => ⟨(Kd.fresh' (Kd.R_lt (rk HO_5)) k_ hk_.2.1),(Kd.fresh' (Kd.R_lt (rk HO_626007)) k_ hk_.2.1),(Kd.fresh' (Kd.R_lt (rk HO_641007)) k_ hk_.2.1),(Kd.fresh' (Kd.N_lt (nk HO645)) k_ hk_.2.1),(Kd.fresh' (Kd.N_lt (nk HO648)) k_ hk_.2.1),(Kd.freshB (kk BK603) k_ hk_.2.1),(Kd.freshB (kk BK625) k_ hk_.2.1),(Kd.freshB (kk BK640) k_ hk_.2.1)⟩)) (Qal (bw HB)))
           have n6_:=bl BK603 hb
           have n7_:=bl BK625 hb
           have n8_:=bl BK640 hb
           have n9_:=bs HB hb
           clear HO_5
           clear HO_626007
           clear HO_641007
           clear HO645
           clear HO648
           clear BK603
           clear BK625
           clear BK640
           clear HB
           have HO_5:=n0_
           have HO_626007:=n1_
           have HO_641007:=n2_
           have HO645:=n3_
           have HO648:=n4_
           have HO651:=n5_
           have BK603:=n6_
           have BK625:=n7_
           have BK640:=n8_
           have HB:=n9_
           clear n0_ n1_ n2_ n3_ n4_ n5_ n6_ n7_ n8_ n9_
           (try clear hb)
           (try clear hb2)
           (try clear hk)
           (try clear hi)
           (try clear ho0)
           obtain ⟨Ao59,co59,eo59⟩:=Kd.N_slice HO651.out
           (first | subst eo59 | (injection eo59 with f1_ f2_ f3_; have f4_:=f1_.symm; have f5_:=f3_.symm; clear f1_ f2_ f3_; subst f4_; subst f5_))
           refine hK.out _ _ (b11 BK625 (e11 BK640)) (fun hHeld => ?_)
           clear hK K
           refine nn 97 (h := ?_)
           refine on HT_ 9 (some 99) 1023 (h:=fun K hK => ?_)
           refine gS Tryz.func12 #[.slice Ao59 t649.length co59, .agg #[.int .i64 t611, .int .i64 t612, .int .i64 t613, .int .i64 t614, .int .i64 t615, .int .i64 t616, .string t617, .slice Ao36 t618.length co36, .int .i64 t621, .int .i64 t622, .int .i64 t623]] (h := ?_)
           with_reducible refine (r4_Behind.calls kj30 _ _ t649 t611 t612 t613 t614 t615 t616 t617 _ _ t618 t621 t622 t623 t652 _ ?side1 ?side2 ?side3 ?side4 A50.out).mono ?_
           (case side1 => exact cn HO651)
           (case side2 => exact (Kd.N_reads' HO651.out).2.1)
           (case side3 => exact cr HO_626007)
           (case side4 => exact (Kd.R_reads' HO_626007.out).2.1)
           rintro e w60 ⟨v653,rfl,ho0,hb⟩
           refine ⟨_,rfl, ?_⟩
           have n0_:=rb HO_5 hb
           have n1_:=rb HO_626007 hb
           have n2_:=rb HO_641007 hb
           have n3_:=Zz.k (Kd.N_elder' (nk HO645) (Kd.N_base (Kd.S_N ho0)) hb)
           have n4_:=Zz.k (Kd.N_elder' (nk HO648) (Kd.N_base (Kd.S_N ho0)) hb)
           have n5_:=Zz.k (Kd.N_elder' (nk HO651) (Kd.N_base (Kd.S_N ho0)) hb)
           have n6_:=Zz.k (Kd.N_lower (Kd.N_mono (ok':=fun k_ => some k_ ≠ (.slice Ao26 t608.length co26 : Value).ownBlock /\ some k_ ≠ (.slice Ao36 t618.length co36 : Value).ownBlock /\ some k_ ≠ (.slice Ao42 t633.length co42 : Value).ownBlock /\ some k_ ≠ (.slice Ao56 t643.length co56 : Value).ownBlock /\ some k_ ≠ (v647 : Value).ownBlock /\ some k_ ≠ (.slice Ao59 t649.length co59 : Value).ownBlock /\ k_ ≠ gb603 /\ k_ ≠ gb625 /\ k_ ≠ gb640) (Kd.S_N (Kd.S_bound ho0)) (fun k_ hk_ => ⟨(Kd.fresh' (Kd.R_lt (rk HO_5)) k_ hk_.2.1),(Kd.fresh' (Kd.R_lt (rk HO_626007)) k_ hk_.2.1),(Kd.fresh' (Kd.R_lt (rk HO_641007)) k_ hk_.2.1),(Kd.fresh' (Kd.N_lt (nk HO645)) k_ hk_.2.1),(Kd.fresh' (Kd.N_lt (nk HO648)) k_ hk_.2.1),(Kd.fresh' (Kd.N_lt (nk HO651)) k_ hk_.2.1),(Kd.freshB (kk BK603) k_ hk_.2.1),(Kd.freshB (kk BK625) k_ hk_.2.1),(Kd.freshB (kk BK640) k_ hk_.2.1)⟩)) (Qal (bw HB)))
           have n7_:=bl BK603 hb
           have n8_:=bl BK625 hb
           have n9_:=bl BK640 hb
           have n10_:=bs HB hb
           clear HO_5
           clear HO_626007
           clear HO_641007
           clear HO645
           clear HO648
           clear HO651
           clear BK603
           clear BK625
           clear BK640
           clear HB
           have HO_5:=n0_
           have HO_626007:=n1_
           have HO_641007:=n2_
           have HO645:=n3_
           have HO648:=n4_
           have HO651:=n5_
           have HO654:=n6_
           have BK603:=n7_
           have BK625:=n8_
           have BK640:=n9_
           have HB:=n10_
           clear n0_ n1_ n2_ n3_ n4_ n5_ n6_ n7_ n8_ n9_ n10_
           (try clear hb)
           (try clear hb2)
           (try clear hk)
           (try clear hi)
           (try clear ho0)
           refine hK.out _ _ (b11 BK625 (e11 BK640)) (fun hHeld => ?_)
           clear hK K
           refine nn 99 (h := ?_)
           refine pu HT_ 10 13 2047 (h := ?_)
           refine pu HT_ 11 14 4095 (h := ?_)
           refine dn HT_ (h := ?_)
           obtain ⟨Ao61,co61,eo61⟩:=Kd.N_slice HO648.out
           subst eo61
           go_upto_region 21 with (first | ((with_reducible refine Qac (f:=13) rfl ?_); refine gl (some 102) Tryz.func13 #[.slice Ao61 t646.length co61] (h := ?_); (with_reducible refine (doc_Visible.calls _ _ t646 t655 t656 _ ?side1 ?side2 A51.out).mono ?_); (case side1 => exact cn HO648); (case side2 => exact (Kd.N_reads' HO648.out).2.1); rintro e w62 ⟨v657,rfl,ho0,hb⟩; refine ⟨_,rfl, ?_⟩; have HO658:=Zz.k (Kd.R_lower (Kd.R_new' (Kd.R_new' (Kd.R_new' ho0 (Kd.R_lt (rk HO_5))) (Kd.R_lt (rk HO_626007))) (Kd.R_lt (rk HO_641007))) (Qal (bw HB))); replace HO_5:=Zz.k (Kd.R_elder' (rk HO_5) (Kd.R_base ho0) hb); replace HO_626007:=Zz.k (Kd.R_elder' (rk HO_626007) (Kd.R_base ho0) hb); replace HO_641007:=Zz.k (Kd.R_elder' (rk HO_641007) (Kd.R_base ho0) hb); replace HO645:=Zz.k (Kd.N_elder' (nk HO645) (Kd.R_base ho0) hb); replace HO648:=Zz.k (Kd.N_elder' (nk HO648) (Kd.R_base ho0) hb); replace HO651:=Zz.k (Kd.N_elder' (nk HO651) (Kd.R_base ho0) hb); replace HO654:=Zz.k (Kd.N_elder' (nk HO654) (Kd.R_base ho0) hb); replace BK603:=bl BK603 hb; replace BK625:=bl BK625 hb; replace BK640:=bl BK640 hb; replace HB:=bs HB hb; clear hb; clear ho0; obtain ⟨Ao63,co63,eo63⟩:=Kd.N_slice HO654.out; subst eo63) | ((with_reducible refine Qac (f:=13) rfl ?_); refine gl (some 107) Tryz.func13 #[.slice Ao63 t652.length co63] (h := ?_); (with_reducible refine (doc_Visible.calls _ _ t652 t659 t660 _ ?side1 ?side2 A52.out).mono ?_); (case side1 => exact cn HO654); (case side2 => exact (Kd.N_reads' HO654.out).2.1); rintro e w64 ⟨v661,rfl,ho0,hb⟩; refine ⟨_,rfl, ?_⟩; have HO662:=Zz.k (Kd.R_lower (Kd.R_new' (Kd.R_new' (Kd.R_new' (Kd.R_new' ho0 (Kd.R_lt (rk HO_5))) (Kd.R_lt (rk HO_626007))) (Kd.R_lt (rk HO_641007))) (Kd.R_lt (rk HO658))) (Qal (bw HB))); replace HO_5:=Zz.k (Kd.R_elder' (rk HO_5) (Kd.R_base ho0) hb); replace HO_626007:=Zz.k (Kd.R_elder' (rk HO_626007) (Kd.R_base ho0) hb); replace HO_641007:=Zz.k (Kd.R_elder' (rk HO_641007) (Kd.R_base ho0) hb); replace HO645:=Zz.k (Kd.N_elder' (nk HO645) (Kd.R_base ho0) hb); replace HO648:=Zz.k (Kd.N_elder' (nk HO648) (Kd.R_base ho0) hb); replace HO651:=Zz.k (Kd.N_elder' (nk HO651) (Kd.R_base ho0) hb); replace HO654:=Zz.k (Kd.N_elder' (nk HO654) (Kd.R_base ho0) hb); replace HO658:=Zz.k (Kd.R_elder' (rk HO658) (Kd.R_base ho0) hb); replace BK603:=bl BK603 hb; replace BK625:=bl BK625 hb; replace BK640:=bl BK640 hb; replace HB:=bs HB hb; clear hb; clear ho0))
           (try simp only [Act.put,List.setIfInBounds_toArray,List.set_cons_zero,List.set_cons_succ])
           go_cut [117] (fun v117 wc => ∃ (kq : Nat) (x117_52 : Bool),v117 = .bool x117_52 /\ Zz (w7_EditRaces.j5 kq x3_1 (Qbx l0_0 x3_1) t608 x6_3 x8_24 t655 t656 t659 t660 x117_52 l0_0 l0_1 l0_2 l0_3 t611 t612 t613 t614 t615 t616 t617 t618 t621 t622 t623 t626 t627 t628 t629 t630 t631 t632 t633 t636 t637 t638 = some r) /\ Zz (kq <= kj30) /\ Zz (Kd.R Qap 32 wc w.heap.size (fun k_ => some k_ ≠ (v657 : Value).ownBlock /\ some k_ ≠ (v661 : Value).ownBlock /\ some k_ ≠ ((.slice Ao36 t618.length co36) : Value).ownBlock /\ some k_ ≠ ((.slice Ao42 t633.length co42) : Value).ownBlock) (.slice Ao26 t608.length co26) t608) /\ Zz (Kd.R Qap 32 wc w.heap.size (fun k_ => some k_ ≠ ((.slice Ao26 t608.length co26) : Value).ownBlock /\ some k_ ≠ (v661 : Value).ownBlock /\ some k_ ≠ ((.slice Ao36 t618.length co36) : Value).ownBlock /\ some k_ ≠ ((.slice Ao42 t633.length co42) : Value).ownBlock) v657 t655) /\ Zz (Kd.R Qap 32 wc w.heap.size (fun k_ => some k_ ≠ ((.slice Ao26 t608.length co26) : Value).ownBlock /\ some k_ ≠ (v657 : Value).ownBlock /\ some k_ ≠ ((.slice Ao36 t618.length co36) : Value).ownBlock /\ some k_ ≠ ((.slice Ao42 t633.length co42) : Value).ownBlock) v661 t659) /\ Zz (Kd.R Qap 32 wc w.heap.size (fun k_ => some k_ ≠ ((.slice Ao26 t608.length co26) : Value).ownBlock /\ some k_ ≠ (v657 : Value).ownBlock /\ some k_ ≠ (v661 : Value).ownBlock /\ some k_ ≠ ((.slice Ao42 t633.length co42) : Value).ownBlock) (.slice Ao36 t618.length co36) t618) /\ Zz (Kd.R Qap 32 wc w.heap.size (fun k_ => some k_ ≠ ((.slice Ao26 t608.length co26) : Value).ownBlock /\ some k_ ≠ (v657 : Value).ownBlock /\ some k_ ≠ (v661 : Value).ownBlock /\ some k_ ≠ ((.slice Ao36 t618.length co36) : Value).ownBlock) (.slice Ao42 t633.length co42) t633) /\ Zz (wc.heap[gb603]? = some (.cells #[(.slice (some ad606) l0_0.length c0_0),(.slice A0_1 l0_1.length c0_1),(.slice A0_2 l0_2.length c0_2),(.slice A0_3 l0_3.length c0_3)] 27 (0,0))) /\ Zz (wc.heap[gb625]? = some (.cells #[.int .i64 t611, .int .i64 t612, .int .i64 t613, .int .i64 t614, .int .i64 t615, .int .i64 t616, .string t617,(.slice Ao36 t618.length co36), .int .i64 t621, .int .i64 t622, .int .i64 t623] 34 (0,0))) /\ Zz (wc.heap[gb640]? = some (.cells #[.int .i64 t626, .int .i64 t627, .int .i64 t628, .int .i64 t629, .int .i64 t630, .int .i64 t631, .string t632,(.slice Ao42 t633.length co42), .int .i64 t636, .int .i64 t637, .int .i64 t638] 34 (0,0))) /\ Zz (Below w.heap.size w wc))
           case first =>
            have H:=HC53.out
            clear HC53
            obtain ⟨t663,A65,H⟩:=bE H
            by_cases c66 : t663 = true
            ·show (let G_ : Prop:=_; G_)
             intro G_
             exact (let_tmp i_ : Nonempty G_:=(((⟨by
             subst G_
             subst c66
             rw [if_pos rfl] at H
             obtain ⟨t664,A67,H⟩:=bE H
             have H':=Zz.k H
             clear H
             go_wp2_with (first | ((with_reducible refine Qac (f:=8) rfl ?_); refine gl (some 111) Tryz.func8 #[.slice Ao61 t646.length co61] (h := ?_); (with_reducible refine (r4_Row.calls kj30 _ _ t646 true _ ?side1 ?side2 ?side3 A65.out).mono ?_); (case side1 => exact cn HO648); (case side2 => exact (Kd.N_reads' HO648.out).2.1); (case side3 => exact (hT.below (bw HB))); rintro e w68 ⟨rfl,hb⟩; refine ⟨_,rfl, ?_⟩; replace HO_5:=rb HO_5 hb; replace HO_626007:=rb HO_626007 hb; replace HO_641007:=rb HO_641007 hb; replace HO645:=nb HO645 hb; replace HO648:=nb HO648 hb; replace HO651:=nb HO651 hb; replace HO654:=nb HO654 hb; replace HO658:=rb HO658 hb; replace HO662:=rb HO662 hb; replace BK603:=bl BK603 hb; replace BK625:=bl BK625 hb; replace BK640:=bl BK640 hb; replace HB:=bs HB hb; clear hb) | (go_at_call 8; (with_reducible refine (r4_Row.calls kj30 _ _ t652 t664 _ ?side1 ?side2 ?side3 A67.out).mono ?_); (case side1 => exact cn HO654); (case side2 => exact (Kd.N_reads' HO654.out).2.1); (case side3 => exact (hT.below (bw HB))); rintro e w69 ⟨rfl,hb⟩; replace HO_5:=rb HO_5 hb; replace HO_626007:=rb HO_626007 hb; replace HO_641007:=rb HO_641007 hb; replace HO645:=nb HO645 hb; replace HO648:=nb HO648 hb; replace HO651:=nb HO651 hb; replace HO654:=nb HO654 hb; replace HO658:=rb HO658 hb; replace HO662:=rb HO662 hb; replace BK603:=bl BK603 hb; replace BK625:=bl BK625 hb; replace BK640:=bl BK640 hb; replace HB:=bs HB hb; clear hb))
             go_meet
             case rel => exact ⟨_,(!t664),rf,H',⟨by have:=HK1.out; have:=HJ9.out; have:=HK3.out; have:=HJ24.out; have:=HJ30.out; first | omega | exact Nat.le_refl _⟩,⟨by (with_reducible repeat (first | apply Kd.R_alloc | apply Kd.R_drewN | apply Kd.R_drew)); exact Kd.R_mono HO_5.out (fun _ hk => ⟨hk.1.2,⟨hk.2,⟨hk.1.1.1,hk.1.1.2⟩⟩⟩)⟩,⟨by (with_reducible repeat (first | apply Kd.R_alloc | apply Kd.R_drewN | apply Kd.R_drew)); exact Kd.R_mono HO658.out (fun _ hk => ⟨hk.1.1.1.2,⟨hk.2,⟨hk.1.1.2,hk.1.2⟩⟩⟩)⟩,⟨by (with_reducible repeat (first | apply Kd.R_alloc | apply Kd.R_drewN | apply Kd.R_drew)); exact Kd.R_mono HO662.out (fun _ hk => ⟨hk.1.1.1.2,⟨hk.2,⟨hk.1.1.2,hk.1.2⟩⟩⟩)⟩,⟨by (with_reducible repeat (first | apply Kd.R_alloc | apply Kd.R_drewN | apply Kd.R_drew)); exact Kd.R_mono HO_626007.out (fun _ hk => ⟨hk.1.1.1,⟨hk.1.2,⟨hk.2,hk.1.1.2⟩⟩⟩)⟩,⟨by (with_reducible repeat (first | apply Kd.R_alloc | apply Kd.R_drewN | apply Kd.R_drew)); exact Kd.R_mono HO_641007.out (fun _ hk => ⟨hk.1.1.1,⟨hk.1.2,⟨hk.2,hk.1.1.2⟩⟩⟩)⟩,⟨kk BK603⟩,⟨kk BK625⟩,⟨kk BK640⟩,⟨bw HB⟩⟩⟩ : Nonempty G_)) :); w7_EditRaces.bxo (G:=G_) (inferInstanceAs (Nonempty G_)))
            replace c66:=Zf c66
            subst c66
            rw [if_neg nft] at H
            have H':=Zz.k H
            clear H
            go_wp2_with (first | ((with_reducible refine Qac (f:=8) rfl ?_); refine gl (some 111) Tryz.func8 #[.slice Ao61 t646.length co61] (h := ?_); (with_reducible refine (r4_Row.calls kj30 _ _ t646 false _ ?side1 ?side2 ?side3 A65.out).mono ?_); (case side1 => exact cn HO648); (case side2 => exact (Kd.N_reads' HO648.out).2.1); (case side3 => exact (hT.below (bw HB))); rintro e w70 ⟨rfl,hb⟩; refine ⟨_,rfl, ?_⟩; replace HO_5:=rb HO_5 hb; replace HO_626007:=rb HO_626007 hb; replace HO_641007:=rb HO_641007 hb; replace HO645:=nb HO645 hb; replace HO648:=nb HO648 hb; replace HO651:=nb HO651 hb; replace HO654:=nb HO654 hb; replace HO658:=rb HO658 hb; replace HO662:=rb HO662 hb; replace BK603:=bl BK603 hb; replace BK625:=bl BK625 hb; replace BK640:=bl BK640 hb; replace HB:=bs HB hb; clear hb))
            go_meet
            case rel => exact ⟨_,(true),rf,H',⟨by have:=HK1.out; have:=HJ9.out; have:=HK3.out; have:=HJ24.out; have:=HJ30.out; first | omega | exact Nat.le_refl _⟩,⟨by (with_reducible repeat (first | apply Kd.R_alloc | apply Kd.R_drewN | apply Kd.R_drew)); exact Kd.R_mono HO_5.out (fun _ hk => ⟨hk.1.2,⟨hk.2,⟨hk.1.1.1,hk.1.1.2⟩⟩⟩)⟩,⟨by (with_reducible repeat (first | apply Kd.R_alloc | apply Kd.R_drewN | apply Kd.R_drew)); exact Kd.R_mono HO658.out (fun _ hk => ⟨hk.1.1.1.2,⟨hk.2,⟨hk.1.1.2,hk.1.2⟩⟩⟩)⟩,⟨by (with_reducible repeat (first | apply Kd.R_alloc | apply Kd.R_drewN | apply Kd.R_drew)); exact Kd.R_mono HO662.out (fun _ hk => ⟨hk.1.1.1.2,⟨hk.2,⟨hk.1.1.2,hk.1.2⟩⟩⟩)⟩,⟨by (with_reducible repeat (first | apply Kd.R_alloc | apply Kd.R_drewN | apply Kd.R_drew)); exact Kd.R_mono HO_626007.out (fun _ hk => ⟨hk.1.1.1,⟨hk.1.2,⟨hk.2,hk.1.1.2⟩⟩⟩)⟩,⟨by (with_reducible repeat (first | apply Kd.R_alloc | apply Kd.R_drewN | apply Kd.R_drew)); exact Kd.R_mono HO_641007.out (fun _ hk => ⟨hk.1.1.1,⟨hk.1.2,⟨hk.2,hk.1.1.2⟩⟩⟩)⟩,⟨kk BK603⟩,⟨kk BK625⟩,⟨kk BK640⟩,⟨bw HB⟩⟩
           case rest =>
            show (let G_ : Prop:=_; G_)
            intro G_
            exact (let_tmp i_ : Nonempty G_:=(((⟨by
            subst G_
            clear HC53
            try clear c46
            obtain ⟨kq,x117_52,rfl,HA,HJ52,HO_5,HO_15,HO_17,HO_626007,HO_641007,BK603,BK625,BK640,HB⟩:=hcut
            cases kq with
            | zero => exact absurd HA.out (by simp [w7_EditRaces.j5])
            | succ kj52 =>
             have H:=HA.out
             clear HA
             simp only [w7_EditRaces.j5] at H
             by_cases c71 : x117_52 = true
             ·show (let G_ : Prop:=_; G_)
              intro G_
              exact (let_tmp i_ : Nonempty G_:=(((⟨by
              subst G_
              subst c71
              rw [if_pos rfl] at H
              have H':=Zz.k H
              clear H
              go_wp2
              go_roundg kj52
              case measure => have:=HK1.out; have:=HJ9.out; have:=HK3.out; have:=HJ24.out; have:=HJ30.out; have:=HJ52.out; omega
              case rel => exact ⟨(wrap64 (x6_3 + 1)),rf,H',⟨by have:=HK1.out; have:=HJ9.out; have:=HK3.out; have:=HJ24.out; have:=HJ30.out; have:=HJ52.out; omega⟩,⟨by (with_reducible repeat (first | apply Kd.R_alloc | apply Kd.R_drewN | apply Kd.R_drew)); exact Kd.R_mono HO_5.out (fun _ hk => trivial)⟩,⟨kk BK603⟩,⟨bw HB⟩⟩⟩ : Nonempty G_)) :); w7_EditRaces.bxo (G:=G_) (inferInstanceAs (Nonempty G_)))
             replace c71:=Zf c71
             subst c71
             rw [if_neg nft] at H
             have HC72:=Zz.k H
             clear H
             go_upto_region 22 with (fail)
             go_cut [142] (fun v142 wc => ∃ (kq : Nat) (x142_71 : Bool),v142 = .bool x142_71 /\ Zz (w7_EditRaces.j6 kq x3_1 (Qbx l0_0 x3_1) t608 x6_3 t655 t659 x142_71 l0_0 l0_1 l0_2 l0_3 t611 t612 t613 t614 t615 t616 t617 t618 t621 t622 t623 t626 t627 t628 t629 t630 t631 t632 t633 t636 t637 t638 = some r) /\ Zz (kq <= kj52) /\ Zz (Kd.R Qap 32 wc w.heap.size (fun k_ => some k_ ≠ (v657 : Value).ownBlock /\ some k_ ≠ (v661 : Value).ownBlock /\ some k_ ≠ ((.slice Ao36 t618.length co36) : Value).ownBlock /\ some k_ ≠ ((.slice Ao42 t633.length co42) : Value).ownBlock) (.slice Ao26 t608.length co26) t608) /\ Zz (Kd.R Qap 32 wc w.heap.size (fun k_ => some k_ ≠ ((.slice Ao26 t608.length co26) : Value).ownBlock /\ some k_ ≠ (v661 : Value).ownBlock /\ some k_ ≠ ((.slice Ao36 t618.length co36) : Value).ownBlock /\ some k_ ≠ ((.slice Ao42 t633.length co42) : Value).ownBlock) v657 t655) /\ Zz (Kd.R Qap 32 wc w.heap.size (fun k_ => some k_ ≠ ((.slice Ao26 t608.length co26) : Value).ownBlock /\ some k_ ≠ (v657 : Value).ownBlock /\ some k_ ≠ ((.slice Ao36 t618.length co36) : Value).ownBlock /\ some k_ ≠ ((.slice Ao42 t633.length co42) : Value).ownBlock) v661 t659) /\ Zz (Kd.R Qap 32 wc w.heap.size (fun k_ => some k_ ≠ ((.slice Ao26 t608.length co26) : Value).ownBlock /\ some k_ ≠ (v657 : Value).ownBlock /\ some k_ ≠ (v661 : Value).ownBlock /\ some k_ ≠ ((.slice Ao42 t633.length co42) : Value).ownBlock) (.slice Ao36 t618.length co36) t618) /\ Zz (Kd.R Qap 32 wc w.heap.size (fun k_ => some k_ ≠ ((.slice Ao26 t608.length co26) : Value).ownBlock /\ some k_ ≠ (v657 : Value).ownBlock /\ some k_ ≠ (v661 : Value).ownBlock /\ some k_ ≠ ((.slice Ao36 t618.length co36) : Value).ownBlock) (.slice Ao42 t633.length co42) t633) /\ Zz (wc.heap[gb603]? = some (.cells #[(.slice (some ad606) l0_0.length c0_0),(.slice A0_1 l0_1.length c0_1),(.slice A0_2 l0_2.length c0_2),(.slice A0_3 l0_3.length c0_3)] 27 (0,0))) /\ Zz (wc.heap[gb625]? = some (.cells #[.int .i64 t611, .int .i64 t612, .int .i64 t613, .int .i64 t614, .int .i64 t615, .int .i64 t616, .string t617,(.slice Ao36 t618.length co36), .int .i64 t621, .int .i64 t622, .int .i64 t623] 34 (0,0))) /\ Zz (wc.heap[gb640]? = some (.cells #[.int .i64 t626, .int .i64 t627, .int .i64 t628, .int .i64 t629, .int .i64 t630, .int .i64 t631, .string t632,(.slice Ao42 t633.length co42), .int .i64 t636, .int .i64 t637, .int .i64 t638] 34 (0,0))) /\ Zz (Below w.heap.size w wc))
             case first =>
              have H:=HC72.out
              clear HC72
              obtain ⟨t665,A73,H⟩:=bE H
              by_cases c74 : t665 = 0; rotate_left
              ·rw [if_neg c74] at H
               obtain ⟨c74b0,c74b1⟩:=bF c74
               (first | rw [c74b0] | (simp only [Qbe,Qbi]; rw [c74b0]) | skip)
               have H':=Zz.k H
               clear H
               go_wp2_with (first | ((with_reducible refine Qac (f:=11) rfl ?_); refine gl (some 119) Tryz.func11 #[.int .i64 t656] (h := ?_); (with_reducible refine (w7_num.calls t656 t665 _ A73.out).mono ?_); rintro e w' ⟨rfl,⟨nd,rfl⟩⟩; refine ⟨_,rfl, ?_⟩))
               go_meet
               case rel => exact ⟨_,(true),rf,H',⟨by have:=HK1.out; have:=HJ9.out; have:=HK3.out; have:=HJ24.out; have:=HJ30.out; have:=HJ52.out; first | omega | exact Nat.le_refl _⟩,⟨rk HO_5⟩,⟨rk HO_15⟩,⟨rk HO_17⟩,⟨rk HO_626007⟩,⟨rk HO_641007⟩,⟨kk BK603⟩,⟨kk BK625⟩,⟨kk BK640⟩,⟨bw HB⟩⟩
              show (let G_ : Prop:=_; G_)
              intro G_
              exact (let_tmp i_ : Nonempty G_:=(((⟨by
              subst G_
              rw [if_pos c74] at H
              obtain ⟨c74b0,c74b1⟩:=bT c74
              clear c74
              (first | rw [c74b0] | (simp only [Qbe,Qbi]; rw [c74b0]) | skip)
              obtain ⟨t666,A75,H⟩:=bE H
              by_cases c76 : t666 = 0; rotate_left
              ·rw [if_neg c76] at H
               obtain ⟨c76b0,c76b1⟩:=bF c76
               have H':=Zz.k H
               clear H
               go_wp2_with (first | ((with_reducible refine Qac (f:=11) rfl ?_); refine gl (some 119) Tryz.func11 #[.int .i64 t656] (h := ?_); (with_reducible refine (w7_num.calls t656 t665 _ A73.out).mono ?_); rintro e w' ⟨rfl,⟨nd,rfl⟩⟩; refine ⟨_,rfl, ?_⟩) | (go_at_call 11; (with_reducible refine (w7_num.calls t660 t666 _ A75.out).mono ?_); rintro e w' ⟨rfl,⟨nd,rfl⟩⟩))
               go_meet
               case rel => exact ⟨_,(true),rf,H',⟨by have:=HK1.out; have:=HJ9.out; have:=HK3.out; have:=HJ24.out; have:=HJ30.out; have:=HJ52.out; first | omega | exact Nat.le_refl _⟩,⟨rk HO_5⟩,⟨rk HO_15⟩,⟨rk HO_17⟩,⟨rk HO_626007⟩,⟨rk HO_641007⟩,⟨kk BK603⟩,⟨kk BK625⟩,⟨kk BK640⟩,⟨bw HB⟩⟩
              show (let G_ : Prop:=_; G_)
              intro G_
              exact (let_tmp i_ : Nonempty G_:=(((⟨by
              subst G_
              rw [if_pos c76] at H
              obtain ⟨c76b0,c76b1⟩:=bT c76
              clear c76
              by_cases c77 : (t655.length : Int) = (t659.length : Int); rotate_left
              ·rw [if_neg c77] at H
               obtain ⟨c77b0,c77b1⟩:=bF c77
               have c77b2 : (t655.length == t659.length) = false:=by first | simpa using c77 | (simp at c77 ⊢; omega)
               have H':=Zz.k H
               clear H
               go_wp2_with (first | ((with_reducible refine Qac (f:=11) rfl ?_); refine gl (some 119) Tryz.func11 #[.int .i64 t656] (h := ?_); (with_reducible refine (w7_num.calls t656 t665 _ A73.out).mono ?_); rintro e w' ⟨rfl,⟨nd,rfl⟩⟩; refine ⟨_,rfl, ?_⟩) | (go_at_call 11; (with_reducible refine (w7_num.calls t660 t666 _ A75.out).mono ?_); rintro e w' ⟨rfl,⟨nd,rfl⟩⟩; obtain ⟨Ao80,co80,eo80⟩:=Kd.R_slice HO_15.out; subst eo80; obtain ⟨Ao81,co81,eo81⟩:=Kd.R_slice HO_17.out; subst eo81))
               go_meet
               case rel => exact ⟨_,(true),rf,H',⟨by have:=HK1.out; have:=HJ9.out; have:=HK3.out; have:=HJ24.out; have:=HJ30.out; have:=HJ52.out; first | omega | exact Nat.le_refl _⟩,⟨rk HO_5⟩,⟨rk HO_15⟩,⟨rk HO_17⟩,⟨rk HO_626007⟩,⟨rk HO_641007⟩,⟨kk BK603⟩,⟨kk BK625⟩,⟨kk BK640⟩,⟨bw HB⟩⟩
              show (let G_ : Prop:=_; G_)
              intro G_
              exact (let_tmp i_ : Nonempty G_:=(((⟨by
              subst G_
              rw [if_pos c77] at H
              obtain ⟨c77b0,c77b1⟩:=bT c77
              have c77b2 : (t655.length == t659.length) = true:=by first | simpa using c77 | (simp at c77 ⊢; omega)
              clear c77
              have H':=Zz.k H
              clear H
              go_wp2_with (first | ((with_reducible refine Qac (f:=11) rfl ?_); refine gl (some 119) Tryz.func11 #[.int .i64 t656] (h := ?_); (with_reducible refine (w7_num.calls t656 t665 _ A73.out).mono ?_); rintro e w' ⟨rfl,⟨nd,rfl⟩⟩; refine ⟨_,rfl, ?_⟩) | (go_at_call 11; (with_reducible refine (w7_num.calls t660 t666 _ A75.out).mono ?_); rintro e w' ⟨rfl,⟨nd,rfl⟩⟩; obtain ⟨Ao78,co78,eo78⟩:=Kd.R_slice HO_15.out; subst eo78; obtain ⟨Ao79,co79,eo79⟩:=Kd.R_slice HO_17.out; subst eo79))
              go_meet
              case rel => exact ⟨_,(((t655.length : Int) != (wrap64 ((wrap64 ((t608.length : Int) - x8_24)) + 4)))),rf,H',⟨by have:=HK1.out; have:=HJ9.out; have:=HK3.out; have:=HJ24.out; have:=HJ30.out; have:=HJ52.out; first | omega | exact Nat.le_refl _⟩,⟨rk HO_5⟩,⟨rk HO_15⟩,⟨rk HO_17⟩,⟨rk HO_626007⟩,⟨rk HO_641007⟩,⟨kk BK603⟩,⟨kk BK625⟩,⟨kk BK640⟩,⟨bw HB⟩⟩⟩ : Nonempty G_)) :); w7_EditRaces.bxo (G:=G_) (inferInstanceAs (Nonempty G_)))⟩ : Nonempty G_)) :); w7_EditRaces.bxo (G:=G_) (inferInstanceAs (Nonempty G_)))⟩ : Nonempty G_)) :); w7_EditRaces.bxo (G:=G_) (inferInstanceAs (Nonempty G_)))
             case rest =>
              show (let G_ : Prop:=_; G_)
              intro G_
              exact (let_tmp i_ : Nonempty G_:=(((⟨by
              subst G_
              clear HC72
              try clear c71
              obtain ⟨kq,x142_71,rfl,HA,HJ71,HO_5,HO_15,HO_17,HO_626007,HO_641007,BK603,BK625,BK640,HB⟩:=hcut
              cases kq with
              | zero => exact absurd HA.out (by simp [w7_EditRaces.j6])
              | succ kj71 =>
               have H:=HA.out
               clear HA
               simp only [w7_EditRaces.j6] at H
               by_cases c82 : x142_71 = true
               ·show (let G_ : Prop:=_; G_)
                intro G_
                exact (let_tmp i_ : Nonempty G_:=(((⟨by
                subst G_
                subst c82
                rw [if_pos rfl] at H
                obtain rfl:=Zo H
                go_wp2
                go_ret
                exact ⟨re,bw HB⟩⟩ : Nonempty G_)) :); w7_EditRaces.bxo (G:=G_) (inferInstanceAs (Nonempty G_)))
               replace c82:=Zf c82
               subst c82
               rw [if_neg nft] at H
               obtain ⟨t667,A83,H⟩:=bE H
               obtain ⟨t670,A84,H⟩:=bE H
               obtain ⟨y673,hy673⟩ : ∃ y_ : List (List (SElem)),y_ = (([t667,t670] : List (List (SElem)))):=⟨_,rfl⟩
               first | rw [Option.bind_some,<- hy673] at H | rw [<- hy673] at H
               have Ny673:=Zz.k hy673
               clear hy673
               have H':=Zz.k H
               clear H
               try go_wp2
               have n0_:=Zz.k (Kd.R_drew HO_5.out)
               have n1_:=Zz.k (Kd.R_drew HO_15.out)
               have n2_:=Zz.k (Kd.R_drew HO_17.out)
               have n3_:=Zz.k (Kd.R_drew HO_626007.out)
               have n4_:=Zz.k (Kd.R_drew HO_641007.out)
               have n5_:=Zz.k (Qao BK603.out)
               have n6_:=Zz.k (Qao BK625.out)
               have n7_:=Zz.k (Qao BK640.out)
               have n8_:=Zz.k (Qae HB.out)
               clear HO_5
               clear HO_15
               clear HO_17
               clear HO_626007
               clear HO_641007
               clear BK603
               clear BK625
               clear BK640
               clear HB
               have HO_5:=n0_
               have HO_15:=n1_
               have HO_17:=n2_
               have HO_626007:=n3_
               have HO_641007:=n4_
               have BK603:=n5_
               have BK625:=n6_
               have BK640:=n7_
               have HB:=n8_
               clear n0_ n1_ n2_ n3_ n4_ n5_ n6_ n7_ n8_
               refine stP (fun w' => B11 w' gb625 (.int .i64 t611) (.int .i64 t612) (.int .i64 t613) (.int .i64 t614) (.int .i64 t615) (.int .i64 t616) (.string t617) (.slice Ao36 t618.length co36) (.int .i64 t621) (.int .i64 t622) (.int .i64 t623) (E11 w' gb640 (.int .i64 t626) (.int .i64 t627) (.int .i64 t628) (.int .i64 t629) (.int .i64 t630) (.int .i64 t631) (.string t632) (.slice Ao42 t633.length co42) (.int .i64 t636) (.int .i64 t637) (.int .i64 t638))) 6 (b11 BK625 (e11 BK640)) (h:=fun hHeld => ?_)
               generalize wc.drew = w85 at HO_5 HO_15 HO_17 HO_626007 HO_641007 BK603 BK625 BK640 HB hHeld ⊢
               refine tk0 hHeld 0 143 1 (h := ?_)
               refine tk0 hHeld 2 145 5 (h := ?_)
               refine on0 1 (some 144) 7 (h:=fun K hK => ?_)
               refine gS Tryz.func14 #[.agg #[.int .i64 t611, .int .i64 t612, .int .i64 t613, .int .i64 t614, .int .i64 t615, .int .i64 t616, .string t617, .slice Ao36 t618.length co36, .int .i64 t621, .int .i64 t622, .int .i64 t623]] (h := ?_)
               with_reducible refine (r4_Elems.calls kj71 t611 t612 t613 t614 t615 t616 t617 _ _ t618 t621 t622 t623 t667 _ ?side1 ?side2 ?side3 A83.out).mono ?_
               (case side1 => exact cr HO_626007)
               (case side2 => exact (Kd.R_reads' HO_626007.out).2.1)
               (case side3 => exact (hT.below (bw HB)))
               rintro e w86 ⟨v668,rfl,ho0,hb⟩
               refine ⟨_,rfl, ?_⟩
               have n0_:=Zz.k (Kd.R_elder' (rk HO_5) (Kd.R_base ho0) hb)
               have n1_:=Zz.k (Kd.R_elder' (rk HO_15) (Kd.R_base ho0) hb)
               have n2_:=Zz.k (Kd.R_elder' (rk HO_17) (Kd.R_base ho0) hb)
               have n3_:=Zz.k (Kd.R_elder' (rk HO_626007) (Kd.R_base ho0) hb)
               have n4_:=Zz.k (Kd.R_elder' (rk HO_641007) (Kd.R_base ho0) hb)
               have n5_:=Zz.k (Kd.R_lower (Kd.R_new' (Kd.R_new' (Kd.R_new' (Kd.R_new' (Kd.R_new' ho0 (Kd.R_lt (rk HO_5))) (Kd.R_lt (rk HO_15))) (Kd.R_lt (rk HO_17))) (Kd.R_lt (rk HO_626007))) (Kd.R_lt (rk HO_641007))) (Qal (bw HB)))
               have n6_:=bl BK603 hb
               have n7_:=bl BK625 hb
               have n8_:=bl BK640 hb
               have n9_:=bs HB hb
               clear HO_5
               clear HO_15
               clear HO_17
               clear HO_626007
               clear HO_641007
               clear BK603
               clear BK625
               clear BK640
               clear HB
               have HO_5:=n0_
               have HO_15:=n1_
               have HO_17:=n2_
               have HO_626007:=n3_
               have HO_641007:=n4_
               have HO669:=n5_
               have BK603:=n6_
               have BK625:=n7_
               have BK640:=n8_
               have HB:=n9_
               clear n0_ n1_ n2_ n3_ n4_ n5_ n6_ n7_ n8_ n9_
               (try clear hb)
               (try clear hb2)
               (try clear hk)
               (try clear hi)
               (try clear ho0)
               refine hK.out _ _ (b11 BK625 (e11 BK640)) (fun hHeld => ?_)
               clear hK K
               refine nn 144 (h := ?_)
               refine on0 3 (some 146) 15 (h:=fun K hK => ?_)
               refine gS Tryz.func14 #[.agg #[.int .i64 t626, .int .i64 t627, .int .i64 t628, .int .i64 t629, .int .i64 t630, .int .i64 t631, .string t632, .slice Ao42 t633.length co42, .int .i64 t636, .int .i64 t637, .int .i64 t638]] (h := ?_)
               with_reducible refine (r4_Elems.calls kj71 t626 t627 t628 t629 t630 t631 t632 _ _ t633 t636 t637 t638 t670 _ ?side1 ?side2 ?side3 A84.out).mono ?_
               (case side1 => exact cr HO_641007)
               (case side2 => exact (Kd.R_reads' HO_641007.out).2.1)
               (case side3 => exact (hT.below (bw HB)))
               rintro e w87 ⟨v671,rfl,ho0,hb⟩
               refine ⟨_,rfl, ?_⟩
               have n0_:=Zz.k (Kd.R_elder' (rk HO_5) (Kd.R_base ho0) hb)
               have n1_:=Zz.k (Kd.R_elder' (rk HO_15) (Kd.R_base ho0) hb)
               have n2_:=Zz.k (Kd.R_elder' (rk HO_17) (Kd.R_base ho0) hb)
               have n3_:=Zz.k (Kd.R_elder' (rk HO_626007) (Kd.R_base ho0) hb)
               have n4_:=Zz.k (Kd.R_elder' (rk HO_641007) (Kd.R_base ho0) hb)
               have n5_:=Zz.k (Kd.R_elder' (rk HO669) (Kd.R_base ho0) hb)
               have n6_:=Zz.k (Kd.R_lower (Kd.R_new' (Kd.R_new' (Kd.R_new' (Kd.R_new' (Kd.R_new' (Kd.R_new' ho0 (Kd.R_lt (rk HO_5))) (Kd.R_lt (rk HO_15))) (Kd.R_lt (rk HO_17))) (Kd.R_lt (rk HO_626007))) (Kd.R_lt (rk HO_641007))) (Kd.R_lt (rk HO669))) (Qal (bw HB)))
               have n7_:=bl BK603 hb
               have n8_:=bl BK625 hb
               have n9_:=bl BK640 hb
               have n10_:=bs HB hb
               clear HO_5
               clear HO_15
               clear HO_17
               clear HO_626007
               clear HO_641007
               clear HO669
               clear BK603
               clear BK625
               clear BK640
               clear HB
               have HO_5:=n0_
               have HO_15:=n1_
               have HO_17:=n2_
               have HO_626007:=n3_
               have HO_641007:=n4_
               have HO669:=n5_
               have HO672:=n6_
               have BK603:=n7_
               have BK625:=n8_
               have BK640:=n9_
               have HB:=n10_
               clear n0_ n1_ n2_ n3_ n4_ n5_ n6_ n7_ n8_ n9_ n10_
               (try clear hb)
               (try clear hb2)
               (try clear hk)
               (try clear hi)
               (try clear ho0)
               obtain ⟨Ao88,co88,eo88⟩:=Kd.R_slice HO669.out
               (first | subst eo88 | (injection eo88 with f1_ f2_ f3_; have f4_:=f1_.symm; have f5_:=f3_.symm; clear f1_ f2_ f3_; subst f4_; subst f5_))
               obtain ⟨Ao89,co89,eo89⟩:=Kd.R_slice HO672.out
               (first | subst eo89 | (injection eo89 with f1_ f2_ f3_; have f4_:=f1_.symm; have f5_:=f3_.symm; clear f1_ f2_ f3_; subst f4_; subst f5_))
               refine hK.out _ _ (b11 BK625 (e11 BK640)) (fun hHeld => ?_)
               clear hK K
               refine nn 146 (h := ?_)
               refine on0 4 (some 147) 31 (h:=fun K hK => ?_)
               refine Kd.N_lit_step (Kd.slice 32 Qap) _ 23 ?hg (N':=147) ?hd (xs:=([t667,t670] : List (List (SElem)))) (inner:=[.slice Ao88 t667.length co88, .slice Ao89 t670.length co89]) (ok:=(fun k_ => some k_ ≠ (.slice Ao26 t608.length co26 : Value).ownBlock /\ some k_ ≠ (v657 : Value).ownBlock /\ some k_ ≠ (v661 : Value).ownBlock /\ some k_ ≠ (.slice Ao36 t618.length co36 : Value).ownBlock /\ some k_ ≠ (.slice Ao42 t633.length co42 : Value).ownBlock /\ k_ ≠ gb603 /\ k_ ≠ gb625 /\ k_ ≠ gb640)) (okp:=(fun k_ => some k_ ≠ (.slice Ao26 t608.length co26 : Value).ownBlock /\ some k_ ≠ (v657 : Value).ownBlock /\ some k_ ≠ (v661 : Value).ownBlock /\ some k_ ≠ (.slice Ao36 t618.length co36 : Value).ownBlock /\ some k_ ≠ (.slice Ao42 t633.length co42 : Value).ownBlock /\ k_ ≠ gb603 /\ k_ ≠ gb625 /\ k_ ≠ gb640)) ?hr ?hp (fun _ hk => hk) ((show ∀ k_,w87.heap.size <= k_ -> (fun k_ => some k_ ≠ (.slice Ao26 t608.length co26 : Value).ownBlock /\ some k_ ≠ (v657 : Value).ownBlock /\ some k_ ≠ (v661 : Value).ownBlock /\ some k_ ≠ (.slice Ao36 t618.length co36 : Value).ownBlock /\ some k_ ≠ (.slice Ao42 t633.length co42 : Value).ownBlock /\ k_ ≠ gb603 /\ k_ ≠ gb625 /\ k_ ≠ gb640) k_ from fun k_ hk => ⟨Kd.fresh' (Kd.R_lt (rk HO_5)) k_ hk,Kd.fresh' (Kd.R_lt (rk HO_15)) k_ hk,Kd.fresh' (Kd.R_lt (rk HO_17)) k_ hk,Kd.fresh' (Kd.R_lt (rk HO_626007)) k_ hk,Kd.fresh' (Kd.R_lt (rk HO_641007)) k_ hk,Kd.freshB (kk BK603) k_ hk,Kd.freshB (kk BK625) k_ hk,Kd.freshB (kk BK640) k_ hk⟩) _ (Nat.le_refl _)) (Below.refl _ _) (Nat.le_refl _) (by simp) ?_; (case hd => rfl); (case hg => rfl); (case hr => first | (go_simp; done) | (go_simp; rfl)); (case hp => exact (Reps.one (show Kd.FK (Kd.slice 32 Qap) _ _ t667 [.slice Ao88 t667.length co88] from (Kd.FK_slice_mk (Kd.R_reads' (Kd.R_mono (ok':=(fun k_ => some k_ ≠ (.slice Ao26 t608.length co26 : Value).ownBlock /\ some k_ ≠ (v657 : Value).ownBlock /\ some k_ ≠ (v661 : Value).ownBlock /\ some k_ ≠ (.slice Ao36 t618.length co36 : Value).ownBlock /\ some k_ ≠ (.slice Ao42 t633.length co42 : Value).ownBlock /\ k_ ≠ gb603 /\ k_ ≠ gb625 /\ k_ ≠ gb640)) (Kd.R_types (Kd.R_types (Kd.R_types (HO669.out) BK603.out (by decide)) BK625.out (by decide)) BK640.out (by decide)) (fun k_ hk => ⟨hk.1.1.1.1.1.1.1.1.2,⟨hk.1.1.1.1.1.1.1.2,⟨hk.1.1.1.1.1.1.2,⟨hk.1.1.1.1.1.2,⟨hk.1.1.1.1.2,⟨hk.1.1.2,⟨hk.1.2,hk.2⟩⟩⟩⟩⟩⟩⟩))).2.1 (Kd.R_F (Kd.R_mono (ok':=(fun k_ => some k_ ≠ (.slice Ao26 t608.length co26 : Value).ownBlock /\ some k_ ≠ (v657 : Value).ownBlock /\ some k_ ≠ (v661 : Value).ownBlock /\ some k_ ≠ (.slice Ao36 t618.length co36 : Value).ownBlock /\ some k_ ≠ (.slice Ao42 t633.length co42 : Value).ownBlock /\ k_ ≠ gb603 /\ k_ ≠ gb625 /\ k_ ≠ gb640)) (Kd.R_types (Kd.R_types (Kd.R_types (HO669.out) BK603.out (by decide)) BK625.out (by decide)) BK640.out (by decide)) (fun k_ hk => ⟨hk.1.1.1.1.1.1.1.1.2,⟨hk.1.1.1.1.1.1.1.2,⟨hk.1.1.1.1.1.1.2,⟨hk.1.1.1.1.1.2,⟨hk.1.1.1.1.2,⟨hk.1.1.2,⟨hk.1.2,hk.2⟩⟩⟩⟩⟩⟩⟩))))) (Reps.one (show Kd.FK (Kd.slice 32 Qap) _ _ t670 [.slice Ao89 t670.length co89] from (Kd.FK_slice_mk (Kd.R_reads' (Kd.R_mono (ok':=(fun k_ => some k_ ≠ (.slice Ao26 t608.length co26 : Value).ownBlock /\ some k_ ≠ (v657 : Value).ownBlock /\ some k_ ≠ (v661 : Value).ownBlock /\ some k_ ≠ (.slice Ao36 t618.length co36 : Value).ownBlock /\ some k_ ≠ (.slice Ao42 t633.length co42 : Value).ownBlock /\ k_ ≠ gb603 /\ k_ ≠ gb625 /\ k_ ≠ gb640)) (Kd.R_types (Kd.R_types (Kd.R_types (HO672.out) BK603.out (by decide)) BK625.out (by decide)) BK640.out (by decide)) (fun k_ hk => ⟨hk.1.1.1.1.1.1.1.1.2,⟨hk.1.1.1.1.1.1.1.2,⟨hk.1.1.1.1.1.1.2,⟨hk.1.1.1.1.1.2,⟨hk.1.1.1.1.2,⟨hk.1.1.2,⟨hk.1.2,hk.2⟩⟩⟩⟩⟩⟩⟩))).2.1 (Kd.R_F (Kd.R_mono (ok':=(fun k_ => some k_ ≠ (.slice Ao26 t608.length co26 : Value).ownBlock /\ some k_ ≠ (v657 : Value).ownBlock /\ some k_ ≠ (v661 : Value).ownBlock /\ some k_ ≠ (.slice Ao36 t618.length co36 : Value).ownBlock /\ some k_ ≠ (.slice Ao42 t633.length co42 : Value).ownBlock /\ k_ ≠ gb603 /\ k_ ≠ gb625 /\ k_ ≠ gb640)) (Kd.R_types (Kd.R_types (Kd.R_types (HO672.out) BK603.out (by decide)) BK625.out (by decide)) BK640.out (by decide)) (fun k_ hk => ⟨hk.1.1.1.1.1.1.1.1.2,⟨hk.1.1.1.1.1.1.1.2,⟨hk.1.1.1.1.1.1.2,⟨hk.1.1.1.1.1.2,⟨hk.1.1.1.1.2,⟨hk.1.1.2,⟨hk.1.2,hk.2⟩⟩⟩⟩⟩⟩⟩))))) (Reps.none _ _))))
               intro v674 w90 ho91 hb hg_ hnew_
               clear hg_ hnew_
               (first | rw [<- Ny673.out] at ho91 | (simp only [Int.reduceToNat] at ho91; rw [<- Ny673.out] at ho91))
               have n0_:=rb HO_5 hb
               have n1_:=rb HO_15 hb
               have n2_:=rb HO_17 hb
               have n3_:=rb HO_626007 hb
               have n4_:=rb HO_641007 hb
               have n5_:=Zz.k (Kd.N_lower ho91 (Qal (bw HB)))
               have n6_:=bl BK603 hb
               have n7_:=bl BK625 hb
               have n8_:=bl BK640 hb
               have n9_:=bs HB hb
               clear HO_5
               clear HO_15
               clear HO_17
               clear HO_626007
               clear HO_641007
               clear BK603
               clear BK625
               clear BK640
               clear HB
               clear HO669
               clear HO672
               have HO_5:=n0_
               have HO_15:=n1_
               have HO_17:=n2_
               have HO_626007:=n3_
               have HO_641007:=n4_
               have HO675:=n5_
               have BK603:=n6_
               have BK625:=n7_
               have BK640:=n8_
               have HB:=n9_
               clear n0_ n1_ n2_ n3_ n4_ n5_ n6_ n7_ n8_ n9_
               clear hb ho91
               refine hK.out _ _ (b11 BK625 (e11 BK640)) (fun hHeld => ?_)
               clear hK K
               refine nn 147 (h := ?_)
               refine pu0 5 19 63 (h := ?_)
               refine dn0 (h := ?_)
               try go_wp2
               go_loopg [20] kj71 (fun kq v20 w' => ∃ (x20_8 : Int),v20 = .int .i64 x20_8 /\ Zz (w7_EditRaces.l2 kq x3_1 (Qbx l0_0 x3_1) t608 x6_3 t655 t659 y673 x20_8 l0_0 l0_1 l0_2 l0_3 = some r) /\ Zz (kq <= kj71) /\ Zz (Kd.R Qap 32 w' w.heap.size (fun k_ => some k_ ≠ (v657 : Value).ownBlock /\ some k_ ≠ (v661 : Value).ownBlock /\ some k_ ≠ ((.slice Ao36 t618.length co36) : Value).ownBlock /\ some k_ ≠ ((.slice Ao42 t633.length co42) : Value).ownBlock) (.slice Ao26 t608.length co26) t608) /\ Zz (Kd.R Qap 32 w' w.heap.size (fun k_ => some k_ ≠ ((.slice Ao26 t608.length co26) : Value).ownBlock /\ some k_ ≠ (v661 : Value).ownBlock /\ some k_ ≠ ((.slice Ao36 t618.length co36) : Value).ownBlock /\ some k_ ≠ ((.slice Ao42 t633.length co42) : Value).ownBlock) v657 t655) /\ Zz (Kd.R Qap 32 w' w.heap.size (fun k_ => some k_ ≠ ((.slice Ao26 t608.length co26) : Value).ownBlock /\ some k_ ≠ (v657 : Value).ownBlock /\ some k_ ≠ ((.slice Ao36 t618.length co36) : Value).ownBlock /\ some k_ ≠ ((.slice Ao42 t633.length co42) : Value).ownBlock) v661 t659) /\ Zz (Kd.N (Kd.slice 32 Qap) 23 w' w.heap.size (fun k_ => some k_ ≠ ((.slice Ao26 t608.length co26) : Value).ownBlock /\ some k_ ≠ (v657 : Value).ownBlock /\ some k_ ≠ (v661 : Value).ownBlock /\ some k_ ≠ ((.slice Ao36 t618.length co36) : Value).ownBlock /\ some k_ ≠ ((.slice Ao42 t633.length co42) : Value).ownBlock /\ k_ ≠ gb603 /\ k_ ≠ gb625 /\ k_ ≠ gb640) v674 y673) /\ Zz (Kd.R Qap 32 w' w.heap.size (fun k_ => some k_ ≠ ((.slice Ao26 t608.length co26) : Value).ownBlock /\ some k_ ≠ (v657 : Value).ownBlock /\ some k_ ≠ (v661 : Value).ownBlock /\ some k_ ≠ ((.slice Ao42 t633.length co42) : Value).ownBlock) (.slice Ao36 t618.length co36) t618) /\ Zz (Kd.R Qap 32 w' w.heap.size (fun k_ => some k_ ≠ ((.slice Ao26 t608.length co26) : Value).ownBlock /\ some k_ ≠ (v657 : Value).ownBlock /\ some k_ ≠ (v661 : Value).ownBlock /\ some k_ ≠ ((.slice Ao36 t618.length co36) : Value).ownBlock) (.slice Ao42 t633.length co42) t633) /\ Zz (w'.heap[gb603]? = some (.cells #[(.slice (some ad606) l0_0.length c0_0),(.slice A0_1 l0_1.length c0_1),(.slice A0_2 l0_2.length c0_2),(.slice A0_3 l0_3.length c0_3)] 27 (0,0))) /\ Zz (w'.heap[gb625]? = some (.cells #[.int .i64 t611, .int .i64 t612, .int .i64 t613, .int .i64 t614, .int .i64 t615, .int .i64 t616, .string t617,(.slice Ao36 t618.length co36), .int .i64 t621, .int .i64 t622, .int .i64 t623] 34 (0,0))) /\ Zz (w'.heap[gb640]? = some (.cells #[.int .i64 t626, .int .i64 t627, .int .i64 t628, .int .i64 t629, .int .i64 t630, .int .i64 t631, .string t632,(.slice Ao42 t633.length co42), .int .i64 t636, .int .i64 t637, .int .i64 t638] 34 (0,0))) /\ Zz (Below w.heap.size w w'))
               case atStart => exact ⟨(0),rf,H',⟨Nat.le_refl _⟩,⟨by (with_reducible repeat (first | apply Kd.R_alloc | apply Kd.R_drewN | apply Kd.R_drew)); exact Kd.R_mono HO_5.out (fun _ hk => ⟨hk.1.1.1,⟨hk.1.1.2.1,⟨hk.1.1.2.2.1,hk.1.1.2.2.2⟩⟩⟩)⟩,⟨by (with_reducible repeat (first | apply Kd.R_alloc | apply Kd.R_drewN | apply Kd.R_drew)); exact Kd.R_mono HO_15.out (fun _ hk => ⟨hk.1.1.1,⟨hk.1.1.2.1,⟨hk.1.1.2.2.1,hk.1.1.2.2.2⟩⟩⟩)⟩,⟨by (with_reducible repeat (first | apply Kd.R_alloc | apply Kd.R_drewN | apply Kd.R_drew)); exact Kd.R_mono HO_17.out (fun _ hk => ⟨hk.1.1.1,⟨hk.1.1.2.1,⟨hk.1.1.2.2.1,hk.1.1.2.2.2⟩⟩⟩)⟩,⟨nk HO675⟩,⟨by (with_reducible repeat (first | apply Kd.R_alloc | apply Kd.R_drewN | apply Kd.R_drew)); exact Kd.R_mono HO_626007.out (fun _ hk => ⟨hk.1.1.1,⟨hk.1.1.2.1,⟨hk.1.1.2.2.1,hk.1.1.2.2.2⟩⟩⟩)⟩,⟨by (with_reducible repeat (first | apply Kd.R_alloc | apply Kd.R_drewN | apply Kd.R_drew)); exact Kd.R_mono HO_641007.out (fun _ hk => ⟨hk.1.1.1,⟨hk.1.1.2.1,⟨hk.1.1.2.2.1,hk.1.1.2.2.2⟩⟩⟩)⟩,⟨kk BK603⟩,⟨kk BK625⟩,⟨kk BK640⟩,⟨bw HB⟩⟩
               case round =>
                show (let G_ : Prop:=_; G_)
                intro G_
                exact (let_tmp i_ : Nonempty G_:=(((⟨by
                subst G_
                clear H'
                try clear c82
                obtain ⟨x20_8,rfl,HA,HK8,HO_5,HO_15,HO_17,HO_19,HO_626007,HO_641007,BK603,BK625,BK640,HB⟩:=hrel
                cases gk with
                | zero => exact absurd HA.out (by simp [w7_EditRaces.l2])
                | succ k8 =>
                 have H:=HA.out
                 clear HA
                 simp only [w7_EditRaces.l2] at H
                 by_cases c92 : x20_8 < 2; rotate_left
                 ·rw [if_neg c92] at H
                  have c92b0:=Ze c92
                  clear c92
                  have H':=Zz.k H
                  clear H
                  go_wp2
                  go_roundg k8
                  case measure => have:=HK1.out; have:=HJ9.out; have:=HK3.out; have:=HJ24.out; have:=HJ30.out; have:=HJ52.out; have:=HJ71.out; have:=HK8.out; omega
                  case rel => exact ⟨(wrap64 (x6_3 + 1)),rf,H',⟨by have:=HK1.out; have:=HJ9.out; have:=HK3.out; have:=HJ24.out; have:=HJ30.out; have:=HJ52.out; have:=HJ71.out; have:=HK8.out; omega⟩,⟨by (with_reducible repeat (first | apply Kd.R_alloc | apply Kd.R_drewN | apply Kd.R_drew)); exact Kd.R_mono HO_5.out (fun _ hk => trivial)⟩,⟨kk BK603⟩,⟨bw HB⟩⟩
                 show (let G_ : Prop:=_; G_)
                 intro G_
                 exact (let_tmp i_ : Nonempty G_:=(((⟨by
                 subst G_
                 rw [if_pos c92] at H
                 have c92b0:=Zd c92
                 clear c92
                 by_cases c93 : 0 <= x20_8; rotate_left
                 ·rw [if_neg c93] at H
                  exact absurd H (by simp)
                 show (let G_ : Prop:=_; G_)
                 intro G_
                 exact (let_tmp i_ : Nonempty G_:=(((⟨by
                 subst G_
                 rw [if_pos c93] at H
                 have c93b0:=Zd c93
                 clear c93
                 by_cases c94 : x20_8 < (y673.length : Int); rotate_left
                 ·rw [if_neg c94] at H
                  exact absurd H (by simp)
                 show (let G_ : Prop:=_; G_)
                 intro G_
                 exact (let_tmp i_ : Nonempty G_:=(((⟨by
                 subst G_
                 rw [if_pos c94] at H
                 have c94b0:=Zd c94
                 clear c94
                 by_cases c95 : 0 < ((Qam y673 x20_8).length : Int); rotate_left
                 ·rw [if_neg c95] at H
                  exact absurd H (by simp)
                 show (let G_ : Prop:=_; G_)
                 intro G_
                 exact (let_tmp i_ : Nonempty G_:=(((⟨by
                 subst G_
                 rw [if_pos c95] at H
                 have c95b0:=Zd c95
                 have c95b1 : decide (0 < (Qam y673 x20_8).length) = true:=Zd (by omega)
                 clear c95
                 obtain ⟨t678,A96,H⟩:=bE H
                 obtain ⟨t681,A97,H⟩:=bE H
                 have HC98:=Zz.k H
                 clear H
                 try go_wp2
                 have n0_:=Zz.k (Kd.R_drew HO_5.out)
                 have n1_:=Zz.k (Kd.R_drew HO_15.out)
                 have n2_:=Zz.k (Kd.R_drew HO_17.out)
                 have n3_:=Zz.k (Kd.N_drew HO_19.out)
                 have n4_:=Zz.k (Kd.R_drew HO_626007.out)
                 have n5_:=Zz.k (Kd.R_drew HO_641007.out)
                 have n6_:=Zz.k (Qao BK603.out)
                 have n7_:=Zz.k (Qao BK625.out)
                 have n8_:=Zz.k (Qao BK640.out)
                 have n9_:=Zz.k (Qae HB.out)
                 clear HO_5
                 clear HO_15
                 clear HO_17
                 clear HO_19
                 clear HO_626007
                 clear HO_641007
                 clear BK603
                 clear BK625
                 clear BK640
                 clear HB
                 have HO_5:=n0_
                 have HO_15:=n1_
                 have HO_17:=n2_
                 have HO_19:=n3_
                 have HO_626007:=n4_
                 have HO_641007:=n5_
                 have BK603:=n6_
                 have BK625:=n7_
                 have BK640:=n8_
                 have HB:=n9_
                 clear n0_ n1_ n2_ n3_ n4_ n5_ n6_ n7_ n8_ n9_
                 obtain ⟨Ao100,co100,eo100⟩:=Kd.N_slice HO_19.out
                 (first | subst eo100 | (injection eo100 with f1_ f2_ f3_; have f4_:=f1_.symm; have f5_:=f3_.symm; clear f1_ f2_ f3_; subst f4_; subst f5_))
                 have p676 : 0 <= (x20_8 : Int):=od
                 have q676 : x20_8 < (y673.length : Int):=od
                 obtain ⟨ad676,A676_0,c676_0,e676,hx676_0,hl676_0,hi676_0⟩:=at_LElem (Kd.N_reads' HO_19.out).2.2 x20_8 p676 q676
                 cases e676
                 obtain ⟨ce676,hce676,hMe676,hcc676⟩:=Kd.N_get HO_19.out [] x20_8 p676 (by first | exact q676 | exact od | (have e_:=(Kd.N_reads' HO_19.out).1; omega))
                 obtain ⟨ua676_0, uc676_0, rfl, ul676_0, ge676_0⟩ := Kd.FK_slice_open hMe676
                 have hv676_0:=hcc676 0 _ rfl
                 rw [Nat.add_zero,show ((Kd.slice 32 Qap)).sz = 1 from rfl,Nat.mul_one] at hv676_0
                 replace hv676_0:=Zo (hv676_0.symm.trans hx676_0)
                 injection hv676_0 with hva_ hvn_ hvc_
                 rw [hva_] at ge676_0
                 rw [hvc_] at ul676_0
                 have HL676_0:=Zz.k (show Kd.V Qap 32 _ w.heap.size _ _ (Qam y673 x20_8) from Kd.V_mk ul676_0 ge676_0)
                 clear hva_ hvn_ hvc_ ge676_0 ul676_0
                 clear hcc676 hce676
                 have HR676_0:=Zz.k hi676_0
                 have HC676_0:=Zz.k hl676_0
                 clear hi676_0 hl676_0
                 replace p676:=eq_true p676
                 replace q676:=eq_true q676
                 have p677 : 0 <= (0 : Int):=(by omega)
                 have q677 : 0 < ((Qam y673 x20_8).length : Int):=od
                 obtain ⟨ad677,e677,hx677_0,hx677_1,hx677_2⟩:=Qbd (ck HR676_0) 0 p677 q677
                 cases e677
                 have qi677 : (0 < (Qam y673 x20_8).length) = True:=eq_true (by omega)
                 (try rw [show ((0 : Int)).toNat = 0 from rfl] at hx677_0)
                 (try rw [show 0 * 3 = 0 from rfl] at hx677_0)
                 (try rw [Addr.add_zero'] at hx677_0)
                 (try rw [show ((0 : Int)).toNat = 0 from rfl] at hx677_1)
                 (try rw [show 0 * 3 = 0 from rfl] at hx677_1)
                 (try rw [Addr.add_zero'] at hx677_1)
                 (try rw [show ((0 : Int)).toNat = 0 from rfl] at hx677_2)
                 (try rw [show 0 * 3 = 0 from rfl] at hx677_2)
                 (try rw [Addr.add_zero'] at hx677_2)
                 replace p677:=eq_true p677
                 replace q677:=eq_true q677
                 have p679 : 0 <= (x20_8 : Int):=od
                 have q679 : x20_8 < (y673.length : Int):=od
                 obtain ⟨ad679,A679_0,c679_0,e679,hx679_0,hl679_0,hi679_0⟩:=at_LElem (Kd.N_reads' HO_19.out).2.2 x20_8 p679 q679
                 obtain rfl : ad676 = ad679:=(by injection e679)
                 obtain ⟨ce679,hce679,hMe679,hcc679⟩:=Kd.N_get HO_19.out [] x20_8 p679 (by first | exact q679 | exact od | (have e_:=(Kd.N_reads' HO_19.out).1; omega))
                 obtain ⟨ua679_0, uc679_0, rfl, ul679_0, ge679_0⟩ := Kd.FK_slice_open hMe679
                 have hv679_0:=hcc679 0 _ rfl
                 rw [Nat.add_zero,show ((Kd.slice 32 Qap)).sz = 1 from rfl,Nat.mul_one] at hv679_0
                 replace hv679_0:=Zo (hv679_0.symm.trans hx679_0)
                 injection hv679_0 with hva_ hvn_ hvc_
                 rw [hva_] at ge679_0
                 rw [hvc_] at ul679_0
                 have HL679_0:=Zz.k (show Kd.V Qap 32 _ w.heap.size _ _ (Qam y673 x20_8) from Kd.V_mk ul679_0 ge679_0)
                 clear hva_ hvn_ hvc_ ge679_0 ul679_0
                 clear hcc679 hce679
                 have HR679_0:=Zz.k hi679_0
                 have HC679_0:=Zz.k hl679_0
                 clear hi679_0 hl679_0
                 replace p679:=eq_true p679
                 replace q679:=eq_true q679
                 have ea_:=Zo (hx676_0.symm.trans hx679_0)
                 injection ea_ with ea_ en_ ec_
                 subst ea_
                 subst ec_
                 clear en_
                 have p680 : 0 <= (0 : Int):=(by omega)
                 have q680 : 0 < ((Qam y673 x20_8).length : Int):=od
                 obtain ⟨ad680,e680,hx680_0,hx680_1,hx680_2⟩:=Qbd (ck HR679_0) 0 p680 q680
                 cases e680
                 have qi680 : (0 < (Qam y673 x20_8).length) = True:=eq_true (by omega)
                 (try rw [show ((0 : Int)).toNat = 0 from rfl] at hx680_0)
                 (try rw [show 0 * 3 = 0 from rfl] at hx680_0)
                 (try rw [Addr.add_zero'] at hx680_0)
                 (try rw [show ((0 : Int)).toNat = 0 from rfl] at hx680_1)
                 (try rw [show 0 * 3 = 0 from rfl] at hx680_1)
                 (try rw [Addr.add_zero'] at hx680_1)
                 (try rw [show ((0 : Int)).toNat = 0 from rfl] at hx680_2)
                 (try rw [show 0 * 3 = 0 from rfl] at hx680_2)
                 (try rw [Addr.add_zero'] at hx680_2)
                 replace p680:=eq_true p680
                 replace q680:=eq_true q680
                 obtain ⟨Ao101,co101,eo101⟩:=Kd.R_slice HO_15.out
                 (first | subst eo101 | (injection eo101 with f1_ f2_ f3_; have f4_:=f1_.symm; have f5_:=f3_.symm; clear f1_ f2_ f3_; subst f4_; subst f5_))
                 refine stP (fun w' => w'.cell? (ad676.add (x20_8).toNat) = some (.slice (some ad677) (Qam y673 x20_8).length c676_0) /\ w'.cell? ad677 = some (.int .i64 ((Qaa (Qam y673 x20_8) 0).f0)) /\ w'.cell? ⟨ad677.block,ad677.off + 1,none⟩ = some (.int .i64 ((Qaa (Qam y673 x20_8) 0).f1)) /\ w'.cell? ⟨ad677.block,ad677.off + 2,none⟩ = some (.int .i64 ((Qaa (Qam y673 x20_8) 0).f2)) /\ w'.cell? (ad676.add (x20_8).toNat) = some (.slice (some ad677) (Qam y673 x20_8).length c676_0) /\ w'.cell? ad677 = some (.int .i64 ((Qaa (Qam y673 x20_8) 0).f0)) /\ w'.cell? ⟨ad677.block,ad677.off + 1,none⟩ = some (.int .i64 ((Qaa (Qam y673 x20_8) 0).f1)) /\ w'.cell? ⟨ad677.block,ad677.off + 2,none⟩ = some (.int .i64 ((Qaa (Qam y673 x20_8) 0).f2))) 18 ⟨hx676_0,hx677_0,hx677_1,hx677_2,hx679_0,hx680_0,hx680_1,hx680_2⟩ (h:=fun hHeld => ?_); refine Qaw w7_EditRaces.tab28 w7_EditRaces.bits28 (fun HT_ HW_ => ?_)
                 generalize wr.drew = w99 at HO_5 HO_15 HO_17 HO_19 HO_626007 HO_641007 BK603 BK625 BK640 HB HL676_0 HL679_0 HR676_0 HR679_0 hx676_0 hx677_0 hx677_1 hx677_2 hx679_0 hx680_0 hx680_1 hx680_2 hHeld ⊢
                 refine pu HT_ 0 152 1 (h := ?_)
                 refine pu HT_ 1 153 3 (h := ?_)
                 refine pu HT_ 2 154 7 (h := ?_)
                 refine pu HT_ 3 155 15 (h := ?_)
                 refine pu HT_ 8 160 271 (h := ?_)
                 refine pu HT_ 9 161 783 (h := ?_)
                 refine pu HT_ 10 162 1807 (h := ?_)
                 refine pu HT_ 11 163 3855 (h := ?_)
                 refine tk HT_ HW_ hHeld 4 156 3871 (h := ?_)
                 refine pu HT_ 5 157 3903 (h := ?_)
                 refine tk HT_ HW_ hHeld 6 158 3967 (h := ?_)
                 refine tk HT_ HW_ hHeld 12 164 8063 (h := ?_)
                 refine pu HT_ 13 165 16255 (h := ?_)
                 refine tk HT_ HW_ hHeld 14 166 32639 (h := ?_)
                 refine on HT_ 7 (some 159) 32767 (h:=fun K hK => ?_)
                 refine gS Tryz.func15 #[.slice Ao101 t655.length co101, .agg #[.int .i64 ((Qaa (Qam y673 x20_8) 0).f0), .int .i64 ((Qaa (Qam y673 x20_8) 0).f1), .int .i64 ((Qaa (Qam y673 x20_8) 0).f2)]] (h := ?_)
                 with_reducible refine (r0_At.calls k8 _ _ t655 ((Qaa (Qam y673 x20_8) 0).f0) ((Qaa (Qam y673 x20_8) 0).f1) ((Qaa (Qam y673 x20_8) 0).f2) t678 _ ?side1 ?side2 A96.out).mono ?_
                 (case side1 => exact cr HO_15)
                 (case side2 => exact (Kd.R_reads' HO_15.out).2.1)
                 rintro e w102 ⟨rfl,hb⟩
                 have HS0_:=(hb.cell (World.block_lt_of_cell? _ _ (hHeld.1))).trans (hHeld.1)
                 have HS1_:=(hb.cell (World.block_lt_of_cell? _ _ (hHeld.2.1))).trans (hHeld.2.1)
                 have HS2_:=(hb.cell (World.block_lt_of_cell? _ _ (hHeld.2.2.1))).trans (hHeld.2.2.1)
                 have HS3_:=(hb.cell (World.block_lt_of_cell? _ _ (hHeld.2.2.2.1))).trans (hHeld.2.2.2.1)
                 have HS4_:=(hb.cell (World.block_lt_of_cell? _ _ (hHeld.2.2.2.2.1))).trans (hHeld.2.2.2.2.1)
                 have HS5_:=(hb.cell (World.block_lt_of_cell? _ _ (hHeld.2.2.2.2.2.1))).trans (hHeld.2.2.2.2.2.1)
                 have HS6_:=(hb.cell (World.block_lt_of_cell? _ _ (hHeld.2.2.2.2.2.2.1))).trans (hHeld.2.2.2.2.2.2.1)
                 have HS7_:=(hb.cell (World.block_lt_of_cell? _ _ (hHeld.2.2.2.2.2.2.2))).trans (hHeld.2.2.2.2.2.2.2)
                 refine ⟨_,rfl, ?_⟩
                 have n0_:=rb HO_5 hb
                 have n1_:=rb HO_15 hb
                 have n2_:=rb HO_17 hb
                 have n3_:=nb HO_19 hb
                 have n4_:=rb HO_626007 hb
                 have n5_:=rb HO_641007 hb
                 have n6_:=Zz.k (Kd.V_below (by (with_reducible repeat (first | apply Kd.V_alloc | apply Kd.V_drewN | apply Kd.V_drew)); exact HL676_0.out) hb)
                 have n7_:=Zz.k (Kd.V_below (by (with_reducible repeat (first | apply Kd.V_alloc | apply Kd.V_drewN | apply Kd.V_drew)); exact HL679_0.out) hb)
                 have n8_:=bl BK603 hb
                 have n9_:=bl BK625 hb
                 have n10_:=bl BK640 hb
                 have n11_:=Zz.k (Kd.C_below (ck HR676_0) hb)
                 have n12_:=Zz.k (Kd.C_below (ck HR679_0) hb)
                 have n13_:=bs HB hb
                 clear HO_5
                 clear HO_15
                 clear HO_17
                 clear HO_19
                 clear HO_626007
                 clear HO_641007
                 clear HL676_0
                 clear HL679_0
                 clear BK603
                 clear BK625
                 clear BK640
                 clear HR676_0
                 clear HR679_0
                 clear HB
                 have HO_5:=n0_
                 have HO_15:=n1_
                 have HO_17:=n2_
                 have HO_19:=n3_
                 have HO_626007:=n4_
                 have HO_641007:=n5_
                 have HL676_0:=n6_
                 have HL679_0:=n7_
                 have BK603:=n8_
                 have BK625:=n9_
                 have BK640:=n10_
                 have HR676_0:=n11_
                 have HR679_0:=n12_
                 have HB:=n13_
                 clear n0_ n1_ n2_ n3_ n4_ n5_ n6_ n7_ n8_ n9_ n10_ n11_ n12_ n13_
                 (try clear hb)
                 (try clear hb2)
                 (try clear hk)
                 (try clear hi)
                 obtain ⟨Ao103,co103,eo103⟩:=Kd.R_slice HO_17.out
                 (first | subst eo103 | (injection eo103 with f1_ f2_ f3_; have f4_:=f1_.symm; have f5_:=f3_.symm; clear f1_ f2_ f3_; subst f4_; subst f5_))
                 refine hK.out _ _ ⟨HS0_,HS1_,HS2_,HS3_,HS4_,HS5_,HS6_,HS7_⟩ (fun hHeld => ?_)
                 clear hK K
                 refine nn 159 (h := ?_)
                 refine on HT_ 15 (some 167) 65535 (h:=fun K hK => ?_)
                 refine gS Tryz.func15 #[.slice Ao103 t659.length co103, .agg #[.int .i64 ((Qaa (Qam y673 x20_8) 0).f0), .int .i64 ((Qaa (Qam y673 x20_8) 0).f1), .int .i64 ((Qaa (Qam y673 x20_8) 0).f2)]] (h := ?_)
                 with_reducible refine (r0_At.calls k8 _ _ t659 ((Qaa (Qam y673 x20_8) 0).f0) ((Qaa (Qam y673 x20_8) 0).f1) ((Qaa (Qam y673 x20_8) 0).f2) t681 _ ?side1 ?side2 A97.out).mono ?_
                 (case side1 => exact cr HO_17)
                 (case side2 => exact (Kd.R_reads' HO_17.out).2.1)
                 rintro e w104 ⟨rfl,hb⟩
                 have HS0_:=(hb.cell (World.block_lt_of_cell? _ _ (hHeld.1))).trans (hHeld.1)
                 have HS1_:=(hb.cell (World.block_lt_of_cell? _ _ (hHeld.2.1))).trans (hHeld.2.1)
                 have HS2_:=(hb.cell (World.block_lt_of_cell? _ _ (hHeld.2.2.1))).trans (hHeld.2.2.1)
                 have HS3_:=(hb.cell (World.block_lt_of_cell? _ _ (hHeld.2.2.2.1))).trans (hHeld.2.2.2.1)
                 have HS4_:=(hb.cell (World.block_lt_of_cell? _ _ (hHeld.2.2.2.2.1))).trans (hHeld.2.2.2.2.1)
                 have HS5_:=(hb.cell (World.block_lt_of_cell? _ _ (hHeld.2.2.2.2.2.1))).trans (hHeld.2.2.2.2.2.1)
                 have HS6_:=(hb.cell (World.block_lt_of_cell? _ _ (hHeld.2.2.2.2.2.2.1))).trans (hHeld.2.2.2.2.2.2.1)
                 have HS7_:=(hb.cell (World.block_lt_of_cell? _ _ (hHeld.2.2.2.2.2.2.2))).trans (hHeld.2.2.2.2.2.2.2)
                 refine ⟨_,rfl, ?_⟩
                 have n0_:=rb HO_5 hb
                 have n1_:=rb HO_15 hb
                 have n2_:=rb HO_17 hb
                 have n3_:=nb HO_19 hb
                 have n4_:=rb HO_626007 hb
                 have n5_:=rb HO_641007 hb
                 have n6_:=Zz.k (Kd.V_below (by (with_reducible repeat (first | apply Kd.V_alloc | apply Kd.V_drewN | apply Kd.V_drew)); exact HL676_0.out) hb)
                 have n7_:=Zz.k (Kd.V_below (by (with_reducible repeat (first | apply Kd.V_alloc | apply Kd.V_drewN | apply Kd.V_drew)); exact HL679_0.out) hb)
                 have n8_:=bl BK603 hb
                 have n9_:=bl BK625 hb
                 have n10_:=bl BK640 hb
                 have n11_:=Zz.k (Kd.C_below (ck HR676_0) hb)
                 have n12_:=Zz.k (Kd.C_below (ck HR679_0) hb)
                 have n13_:=bs HB hb
                 clear HO_5
                 clear HO_15
                 clear HO_17
                 clear HO_19
                 clear HO_626007
                 clear HO_641007
                 clear HL676_0
                 clear HL679_0
                 clear BK603
                 clear BK625
                 clear BK640
                 clear HR676_0
                 clear HR679_0
                 clear HB
                 have HO_5:=n0_
                 have HO_15:=n1_
                 have HO_17:=n2_
                 have HO_19:=n3_
                 have HO_626007:=n4_
                 have HO_641007:=n5_
                 have HL676_0:=n6_
                 have HL679_0:=n7_
                 have BK603:=n8_
                 have BK625:=n9_
                 have BK640:=n10_
                 have HR676_0:=n11_
                 have HR679_0:=n12_
                 have HB:=n13_
                 clear n0_ n1_ n2_ n3_ n4_ n5_ n6_ n7_ n8_ n9_ n10_ n11_ n12_ n13_
                 (try clear hb)
                 (try clear hb2)
                 (try clear hk)
                 (try clear hi)
                 refine hK.out _ _ ⟨HS0_,HS1_,HS2_,HS3_,HS4_,HS5_,HS6_,HS7_⟩ (fun hHeld => ?_)
                 clear hK K
                 refine nn 167 (h := ?_)
                 refine pu HT_ 16 21 131071 (h := ?_)
                 refine pu HT_ 17 22 262143 (h := ?_)
                 refine dn HT_ (h := ?_)
                 go_upto_region 29 with (fail)
                 go_cut [199] (fun v199 wc => ∃ (kq : Nat) (x199_97 : Bool),v199 = .bool x199_97 /\ Zz (w7_EditRaces.j8 kq x3_1 (Qbx l0_0 x3_1) t608 x6_3 t655 t659 y673 x20_8 x199_97 l0_0 l0_1 l0_2 l0_3 = some r) /\ Zz (kq <= k8) /\ Zz (Kd.R Qap 32 wc w.heap.size (fun k_ => some k_ ≠ ((.slice Ao101 t655.length co101) : Value).ownBlock /\ some k_ ≠ ((.slice Ao103 t659.length co103) : Value).ownBlock /\ some k_ ≠ ((.slice Ao36 t618.length co36) : Value).ownBlock /\ some k_ ≠ ((.slice Ao42 t633.length co42) : Value).ownBlock) (.slice Ao26 t608.length co26) t608) /\ Zz (Kd.R Qap 32 wc w.heap.size (fun k_ => some k_ ≠ ((.slice Ao26 t608.length co26) : Value).ownBlock /\ some k_ ≠ ((.slice Ao103 t659.length co103) : Value).ownBlock /\ some k_ ≠ ((.slice Ao36 t618.length co36) : Value).ownBlock /\ some k_ ≠ ((.slice Ao42 t633.length co42) : Value).ownBlock) (.slice Ao101 t655.length co101) t655) /\ Zz (Kd.R Qap 32 wc w.heap.size (fun k_ => some k_ ≠ ((.slice Ao26 t608.length co26) : Value).ownBlock /\ some k_ ≠ ((.slice Ao101 t655.length co101) : Value).ownBlock /\ some k_ ≠ ((.slice Ao36 t618.length co36) : Value).ownBlock /\ some k_ ≠ ((.slice Ao42 t633.length co42) : Value).ownBlock) (.slice Ao103 t659.length co103) t659) /\ Zz (Kd.N (Kd.slice 32 Qap) 23 wc w.heap.size (fun k_ => some k_ ≠ ((.slice Ao26 t608.length co26) : Value).ownBlock /\ some k_ ≠ ((.slice Ao101 t655.length co101) : Value).ownBlock /\ some k_ ≠ ((.slice Ao103 t659.length co103) : Value).ownBlock /\ some k_ ≠ ((.slice Ao36 t618.length co36) : Value).ownBlock /\ some k_ ≠ ((.slice Ao42 t633.length co42) : Value).ownBlock /\ k_ ≠ gb603 /\ k_ ≠ gb625 /\ k_ ≠ gb640) (.slice (some ad676) y673.length co100) y673) /\ Zz (Kd.R Qap 32 wc w.heap.size (fun k_ => some k_ ≠ ((.slice Ao26 t608.length co26) : Value).ownBlock /\ some k_ ≠ ((.slice Ao101 t655.length co101) : Value).ownBlock /\ some k_ ≠ ((.slice Ao103 t659.length co103) : Value).ownBlock /\ some k_ ≠ ((.slice Ao42 t633.length co42) : Value).ownBlock) (.slice Ao36 t618.length co36) t618) /\ Zz (Kd.R Qap 32 wc w.heap.size (fun k_ => some k_ ≠ ((.slice Ao26 t608.length co26) : Value).ownBlock /\ some k_ ≠ ((.slice Ao101 t655.length co101) : Value).ownBlock /\ some k_ ≠ ((.slice Ao103 t659.length co103) : Value).ownBlock /\ some k_ ≠ ((.slice Ao36 t618.length co36) : Value).ownBlock) (.slice Ao42 t633.length co42) t633) /\ Zz (wc.heap[gb603]? = some (.cells #[(.slice (some ad606) l0_0.length c0_0),(.slice A0_1 l0_1.length c0_1),(.slice A0_2 l0_2.length c0_2),(.slice A0_3 l0_3.length c0_3)] 27 (0,0))) /\ Zz (wc.heap[gb625]? = some (.cells #[.int .i64 t611, .int .i64 t612, .int .i64 t613, .int .i64 t614, .int .i64 t615, .int .i64 t616, .string t617,(.slice Ao36 t618.length co36), .int .i64 t621, .int .i64 t622, .int .i64 t623] 34 (0,0))) /\ Zz (wc.heap[gb640]? = some (.cells #[.int .i64 t626, .int .i64 t627, .int .i64 t628, .int .i64 t629, .int .i64 t630, .int .i64 t631, .string t632,(.slice Ao42 t633.length co42), .int .i64 t636, .int .i64 t637, .int .i64 t638] 34 (0,0))) /\ Zz (Kd.C Qap wc (some ad677) (Qam y673 x20_8).length (Qam y673 x20_8)) /\ Zz (Kd.C Qap wc (some ad677) (Qam y673 x20_8).length (Qam y673 x20_8)) /\ Zz (Below w.heap.size w wc))
                 case first =>
                  have H:=HC98.out
                  clear HC98
                  by_cases c105 : t678 < 0
                  ·show (let G_ : Prop:=_; G_)
                   intro G_
                   exact (let_tmp i_ : Nonempty G_:=(((⟨by
                   subst G_
                   rw [if_pos c105] at H
                   have c105b0:=Zd c105
                   clear c105
                   (first | rw [c105b0] | (simp only [Qbe,Qbi]; rw [c105b0]) | skip)
                   have H':=Zz.k H
                   clear H
                   go_wp2
                   go_meet
                   case rel => exact ⟨_,(true),rf,H',⟨by have:=HK1.out; have:=HJ9.out; have:=HK3.out; have:=HJ24.out; have:=HJ30.out; have:=HJ52.out; have:=HJ71.out; have:=HK8.out; first | omega | exact Nat.le_refl _⟩,⟨rk HO_5⟩,⟨rk HO_15⟩,⟨rk HO_17⟩,⟨nk HO_19⟩,⟨rk HO_626007⟩,⟨rk HO_641007⟩,⟨kk BK603⟩,⟨kk BK625⟩,⟨kk BK640⟩,⟨ck HR676_0⟩,⟨ck HR679_0⟩,⟨bw HB⟩⟩⟩ : Nonempty G_)) :); w7_EditRaces.bxo (G:=G_) (inferInstanceAs (Nonempty G_)))
                  rw [if_neg c105] at H
                  have c105b0:=Ze c105
                  clear c105
                  (first | rw [c105b0] | (simp only [Qbe,Qbi]; rw [c105b0]) | skip)
                  by_cases c106 : t681 < 0
                  ·show (let G_ : Prop:=_; G_)
                   intro G_
                   exact (let_tmp i_ : Nonempty G_:=(((⟨by
                   subst G_
                   rw [if_pos c106] at H
                   have c106b0:=Zd c106
                   clear c106
                   have H':=Zz.k H
                   clear H
                   go_wp2
                   go_meet
                   case rel => exact ⟨_,(true),rf,H',⟨by have:=HK1.out; have:=HJ9.out; have:=HK3.out; have:=HJ24.out; have:=HJ30.out; have:=HJ52.out; have:=HJ71.out; have:=HK8.out; first | omega | exact Nat.le_refl _⟩,⟨rk HO_5⟩,⟨rk HO_15⟩,⟨rk HO_17⟩,⟨nk HO_19⟩,⟨rk HO_626007⟩,⟨rk HO_641007⟩,⟨kk BK603⟩,⟨kk BK625⟩,⟨kk BK640⟩,⟨ck HR676_0⟩,⟨ck HR679_0⟩,⟨bw HB⟩⟩⟩ : Nonempty G_)) :); w7_EditRaces.bxo (G:=G_) (inferInstanceAs (Nonempty G_)))
                  rw [if_neg c106] at H
                  have c106b0:=Ze c106
                  clear c106
                  by_cases c107 : 1 < ((Qam y673 x20_8).length : Int); rotate_left
                  ·rw [if_neg c107] at H
                   exact absurd H (by simp)
                  show (let G_ : Prop:=_; G_)
                  intro G_
                  exact (let_tmp i_ : Nonempty G_:=(((⟨by
                  subst G_
                  rw [if_pos c107] at H
                  have c107b0:=Zd c107
                  have c107b1 : decide (1 < (Qam y673 x20_8).length) = true:=Zd (by omega)
                  clear c107
                  obtain ⟨t684,A108,H⟩:=bE H
                  by_cases c109 : t684 = (wrap64 (t678 + 1)); rotate_left
                  ·rw [if_neg c109] at H
                   obtain ⟨c109b0,c109b1⟩:=bF c109
                   have H':=Zz.k H
                   clear H
                   have p682 : 0 <= (x20_8 : Int):=od
                   have q682 : x20_8 < (y673.length : Int):=od
                   obtain ⟨ad682,A682_0,c682_0,e682,hx682_0,hl682_0,hi682_0⟩:=at_LElem (Kd.N_reads' HO_19.out).2.2 x20_8 p682 q682
                   obtain rfl : ad676 = ad682:=(by injection e682)
                   obtain ⟨ce682,hce682,hMe682,hcc682⟩:=Kd.N_get HO_19.out [] x20_8 p682 (by first | exact q682 | exact od | (have e_:=(Kd.N_reads' HO_19.out).1; omega))
                   obtain ⟨ua682_0, uc682_0, rfl, ul682_0, ge682_0⟩ := Kd.FK_slice_open hMe682
                   have hv682_0:=hcc682 0 _ rfl
                   rw [Nat.add_zero,show ((Kd.slice 32 Qap)).sz = 1 from rfl,Nat.mul_one] at hv682_0
                   replace hv682_0:=Zo (hv682_0.symm.trans hx682_0)
                   injection hv682_0 with hva_ hvn_ hvc_
                   rw [hva_] at ge682_0
                   rw [hvc_] at ul682_0
                   have HL682_0:=Zz.k (show Kd.V Qap 32 _ w.heap.size _ _ (Qam y673 x20_8) from Kd.V_mk ul682_0 ge682_0)
                   clear hva_ hvn_ hvc_ ge682_0 ul682_0
                   clear hcc682 hce682
                   have HR682_0:=Zz.k hi682_0
                   have HC682_0:=Zz.k hl682_0
                   clear hi682_0 hl682_0
                   replace p682:=eq_true p682
                   replace q682:=eq_true q682
                   have p683 : 0 <= (1 : Int):=(by omega)
                   have q683 : 1 < ((Qam y673 x20_8).length : Int):=od
                   obtain ⟨ad683,e683,hx683_0,hx683_1,hx683_2⟩:=Qbd (ck HR682_0) 1 p683 q683
                   cases e683
                   have ez_ : some (Value.slice (some ad677) (Qam y673 x20_8).length c676_0) = some (Value.slice (some ad683) (Qam y673 x20_8).length c682_0):=Eq.trans (Eq.symm (by assumption)) hx682_0
                   injection ez_ with ez1_; injection ez1_ with ez2_ ez3_ ez4_; injection ez2_ with ez5_; subst ez5_
                   (try simp only [show (1 : Int).toNat = 1 from rfl,Nat.reduceMul,Nat.reduceEqDiff,Go.Addr.add,↓reduceIte] at hx683_0)
                   (try simp only [show (1 : Int).toNat = 1 from rfl,Nat.reduceMul,Nat.reduceEqDiff,Go.Addr.add,↓reduceIte] at hx683_1)
                   (try simp only [show (1 : Int).toNat = 1 from rfl,Nat.reduceMul,Nat.reduceEqDiff,Go.Addr.add,↓reduceIte] at hx683_2)
                   have qi683 : (1 < (Qam y673 x20_8).length) = True:=eq_true (by omega)
                   (try rw [show ((1 : Int)).toNat = 1 from rfl] at hx683_0)
                   (try rw [show 1 * 3 = 3 from rfl] at hx683_0)
                   (try rw [show ((1 : Int)).toNat = 1 from rfl] at hx683_1)
                   (try rw [show 1 * 3 = 3 from rfl] at hx683_1)
                   (try rw [show ((1 : Int)).toNat = 1 from rfl] at hx683_2)
                   (try rw [show 1 * 3 = 3 from rfl] at hx683_2)
                   replace p683:=eq_true p683
                   replace q683:=eq_true q683
                   go_wp2_with (first | (go_at_call 15; (with_reducible refine (r0_At.calls k8 _ _ t655 ((Qaa (Qam y673 x20_8) 1).f0) ((Qaa (Qam y673 x20_8) 1).f1) ((Qaa (Qam y673 x20_8) 1).f2) t684 _ ?side1 ?side2 A108.out).mono ?_); (case side1 => exact cr HO_15); (case side2 => exact (Kd.R_reads' HO_15.out).2.1); rintro e w113 ⟨rfl,hb⟩; replace HO_5:=rb HO_5 hb; replace HO_15:=rb HO_15 hb; replace HO_17:=rb HO_17 hb; replace HO_19:=nb HO_19 hb; replace HO_626007:=rb HO_626007 hb; replace HO_641007:=rb HO_641007 hb; replace HL676_0:=Zz.k (Kd.V_below (by (with_reducible repeat (first | apply Kd.V_alloc | apply Kd.V_drewN | apply Kd.V_drew)); exact HL676_0.out) hb); replace HL679_0:=Zz.k (Kd.V_below (by (with_reducible repeat (first | apply Kd.V_alloc | apply Kd.V_drewN | apply Kd.V_drew)); exact HL679_0.out) hb); replace HL682_0:=Zz.k (Kd.V_below (by (with_reducible repeat (first | apply Kd.V_alloc | apply Kd.V_drewN | apply Kd.V_drew)); exact HL682_0.out) hb); replace BK603:=bl BK603 hb; replace BK625:=bl BK625 hb; replace BK640:=bl BK640 hb; replace HR676_0:=Zz.k (Kd.C_below (ck HR676_0) hb); replace HR679_0:=Zz.k (Kd.C_below (ck HR679_0) hb); replace HR682_0:=Zz.k (Kd.C_below (ck HR682_0) hb); replace HB:=bs HB hb; clear hb))
                   go_meet
                   case rel => exact ⟨_,(true),rf,H',⟨by have:=HK1.out; have:=HJ9.out; have:=HK3.out; have:=HJ24.out; have:=HJ30.out; have:=HJ52.out; have:=HJ71.out; have:=HK8.out; first | omega | exact Nat.le_refl _⟩,⟨rk HO_5⟩,⟨rk HO_15⟩,⟨rk HO_17⟩,⟨nk HO_19⟩,⟨rk HO_626007⟩,⟨rk HO_641007⟩,⟨kk BK603⟩,⟨kk BK625⟩,⟨kk BK640⟩,⟨ck HR676_0⟩,⟨ck HR679_0⟩,⟨bw HB⟩⟩
                  show (let G_ : Prop:=_; G_)
                  intro G_
                  exact (let_tmp i_ : Nonempty G_:=(((⟨by
                  subst G_
                  rw [if_pos c109] at H
                  obtain ⟨c109b0,c109b1⟩:=bT c109
                  clear c109
                  obtain ⟨t687,A110,H⟩:=bE H
                  have H':=Zz.k H
                  clear H
                  have p682 : 0 <= (x20_8 : Int):=od
                  have q682 : x20_8 < (y673.length : Int):=od
                  obtain ⟨ad682,A682_0,c682_0,e682,hx682_0,hl682_0,hi682_0⟩:=at_LElem (Kd.N_reads' HO_19.out).2.2 x20_8 p682 q682
                  obtain rfl : ad676 = ad682:=(by injection e682)
                  obtain ⟨ce682,hce682,hMe682,hcc682⟩:=Kd.N_get HO_19.out [] x20_8 p682 (by first | exact q682 | exact od | (have e_:=(Kd.N_reads' HO_19.out).1; omega))
                  obtain ⟨ua682_0, uc682_0, rfl, ul682_0, ge682_0⟩ := Kd.FK_slice_open hMe682
                  have hv682_0:=hcc682 0 _ rfl
                  rw [Nat.add_zero,show ((Kd.slice 32 Qap)).sz = 1 from rfl,Nat.mul_one] at hv682_0
                  replace hv682_0:=Zo (hv682_0.symm.trans hx682_0)
                  injection hv682_0 with hva_ hvn_ hvc_
                  rw [hva_] at ge682_0
                  rw [hvc_] at ul682_0
                  have HL682_0:=Zz.k (show Kd.V Qap 32 _ w.heap.size _ _ (Qam y673 x20_8) from Kd.V_mk ul682_0 ge682_0)
                  clear hva_ hvn_ hvc_ ge682_0 ul682_0
                  clear hcc682 hce682
                  have HR682_0:=Zz.k hi682_0
                  have HC682_0:=Zz.k hl682_0
                  clear hi682_0 hl682_0
                  replace p682:=eq_true p682
                  replace q682:=eq_true q682
                  have p683 : 0 <= (1 : Int):=(by omega)
                  have q683 : 1 < ((Qam y673 x20_8).length : Int):=od
                  obtain ⟨ad683,e683,hx683_0,hx683_1,hx683_2⟩:=Qbd (ck HR682_0) 1 p683 q683
                  cases e683
                  have ez_ : some (Value.slice (some ad677) (Qam y673 x20_8).length c676_0) = some (Value.slice (some ad683) (Qam y673 x20_8).length c682_0):=Eq.trans (Eq.symm (by assumption)) hx682_0
                  injection ez_ with ez1_; injection ez1_ with ez2_ ez3_ ez4_; injection ez2_ with ez5_; subst ez5_
                  (try simp only [show (1 : Int).toNat = 1 from rfl,Nat.reduceMul,Nat.reduceEqDiff,Go.Addr.add,↓reduceIte] at hx683_0)
                  (try simp only [show (1 : Int).toNat = 1 from rfl,Nat.reduceMul,Nat.reduceEqDiff,Go.Addr.add,↓reduceIte] at hx683_1)
                  (try simp only [show (1 : Int).toNat = 1 from rfl,Nat.reduceMul,Nat.reduceEqDiff,Go.Addr.add,↓reduceIte] at hx683_2)
                  have qi683 : (1 < (Qam y673 x20_8).length) = True:=eq_true (by omega)
                  (try rw [show ((1 : Int)).toNat = 1 from rfl] at hx683_0)
                  (try rw [show 1 * 3 = 3 from rfl] at hx683_0)
                  (try rw [show ((1 : Int)).toNat = 1 from rfl] at hx683_1)
                  (try rw [show 1 * 3 = 3 from rfl] at hx683_1)
                  (try rw [show ((1 : Int)).toNat = 1 from rfl] at hx683_2)
                  (try rw [show 1 * 3 = 3 from rfl] at hx683_2)
                  replace p683:=eq_true p683
                  replace q683:=eq_true q683
                  go_wp2_with (first | (go_at_call 15; (with_reducible refine (r0_At.calls k8 _ _ t655 ((Qaa (Qam y673 x20_8) 1).f0) ((Qaa (Qam y673 x20_8) 1).f1) ((Qaa (Qam y673 x20_8) 1).f2) t684 _ ?side1 ?side2 A108.out).mono ?_); (case side1 => exact cr HO_15); (case side2 => exact (Kd.R_reads' HO_15.out).2.1); rintro e w111 ⟨rfl, hb⟩; replace HO_5 := rb HO_5 hb; replace HO_15 := rb HO_15 hb; replace HO_17 := rb HO_17 hb; replace HO_19 := nb HO_19 hb; replace HO_626007 := rb HO_626007 hb; replace HO_641007 := rb HO_641007 hb; replace HL676_0 := Zz.k (Kd.V_below (by (with_reducible repeat (first | apply Kd.V_alloc | apply Kd.V_drewN | apply Kd.V_drew)); exact HL676_0.out) hb); replace HL679_0 := Zz.k (Kd.V_below (by (with_reducible repeat (first | apply Kd.V_alloc | apply Kd.V_drewN | apply Kd.V_drew)); exact HL679_0.out) hb); replace HL682_0 := Zz.k (Kd.V_below (by (with_reducible repeat (first | apply Kd.V_alloc | apply Kd.V_drewN | apply Kd.V_drew)); exact HL682_0.out) hb); replace BK603 := bl BK603 hb; replace BK625 := bl BK625 hb; replace BK640 := bl BK640 hb; replace HR676_0 := Zz.k (Kd.C_below (ck HR676_0) hb); replace HR679_0 := Zz.k (Kd.C_below (ck HR679_0) hb); replace HR682_0 := Zz.k (Kd.C_below (ck HR682_0) hb); replace HB := bs HB hb; clear hb; have p685 : 0 <= (x20_8 : Int) := od; have q685 : x20_8 < (y673.length : Int) := od; obtain ⟨ad685, A685_0, c685_0, e685, hx685_0, hl685_0, hi685_0⟩ := at_LElem (Kd.N_reads' HO_19.out).2.2 x20_8 p685 q685; obtain rfl : ad676 = ad685 := (by injection e685); obtain ⟨ce685, hce685, hMe685, hcc685⟩ := Kd.N_get HO_19.out [] x20_8 p685 (by first | exact q685 | exact od | (have e_ := (Kd.N_reads' HO_19.out).1; omega)); obtain ⟨ua685_0, uc685_0, rfl, ul685_0, ge685_0⟩ := Kd.FK_slice_open hMe685; have hv685_0 := hcc685 0 _ rfl; rw [Nat.add_zero, show ((Kd.slice 32 Qap)).sz = 1 from rfl, Nat.mul_one] at hv685_0; replace hv685_0 := Zo (hv685_0.symm.trans hx685_0); injection hv685_0 with hva_ hvn_ hvc_; rw [hva_] at ge685_0; rw [hvc_] at ul685_0; have HL685_0 := Zz.k (show Kd.V Qap 32 _ w.heap.size _ _ (Qam y673 x20_8) from Kd.V_mk ul685_0 ge685_0); clear hva_ hvn_ hvc_ ge685_0 ul685_0; clear hcc685 hce685; have HR685_0 := Zz.k hi685_0; have HC685_0 := Zz.k hl685_0; clear hi685_0 hl685_0; replace p685 := eq_true p685; replace q685 := eq_true q685; have p686 : 0 <= (1 : Int) := (by omega); have q686 : 1 < ((Qam y673 x20_8).length : Int) := od; obtain ⟨ad686, e686, hx686_0, hx686_1, hx686_2⟩ := Qbd (ck HR685_0) 1 p686 q686; cases e686; (try simp only [show (1 : Int).toNat = 1 from rfl, Nat.reduceMul, Nat.reduceEqDiff, Go.Addr.add, ↓reduceIte] at hx686_0); (try simp only [show (1 : Int).toNat = 1 from rfl, Nat.reduceMul, Nat.reduceEqDiff, Go.Addr.add, ↓reduceIte] at hx686_1); (try simp only [show (1 : Int).toNat = 1 from rfl, Nat.reduceMul, Nat.reduceEqDiff, Go.Addr.add, ↓reduceIte] at hx686_2); have qi686 : (1 < (Qam y673 x20_8).length) = True := eq_true (by omega); (try rw [show ((1 : Int)).toNat = 1 from rfl] at hx686_0); (try rw [show 1 * 3 = 3 from rfl] at hx686_0); (try rw [show ((1 : Int)).toNat = 1 from rfl] at hx686_1); (try rw [show 1 * 3 = 3 from rfl] at hx686_1); (try rw [show ((1 : Int)).toNat = 1 from rfl] at hx686_2); (try rw [show 1 * 3 = 3 from rfl] at hx686_2); replace p686 := eq_true p686; replace q686 := eq_true q686) | (go_at_call 15; (with_reducible refine (r0_At.calls k8 _ _ t659 ((Qaa (Qam y673 x20_8) 1).f0) ((Qaa (Qam y673 x20_8) 1).f1) ((Qaa (Qam y673 x20_8) 1).f2) t687 _ ?side1 ?side2 A110.out).mono ?_); (case side1 => exact cr HO_17); (case side2 => exact (Kd.R_reads' HO_17.out).2.1); rintro e w112 ⟨rfl, hb⟩; replace HO_5 := rb HO_5 hb; replace HO_15 := rb HO_15 hb; replace HO_17 := rb HO_17 hb; replace HO_19 := nb HO_19 hb; replace HO_626007 := rb HO_626007 hb; replace HO_641007 := rb HO_641007 hb; replace HL676_0 := Zz.k (Kd.V_below (by (with_reducible repeat (first | apply Kd.V_alloc | apply Kd.V_drewN | apply Kd.V_drew)); exact HL676_0.out) hb); replace HL679_0 := Zz.k (Kd.V_below (by (with_reducible repeat (first | apply Kd.V_alloc | apply Kd.V_drewN | apply Kd.V_drew)); exact HL679_0.out) hb); replace HL682_0 := Zz.k (Kd.V_below (by (with_reducible repeat (first | apply Kd.V_alloc | apply Kd.V_drewN | apply Kd.V_drew)); exact HL682_0.out) hb); replace HL685_0 := Zz.k (Kd.V_below (by (with_reducible repeat (first | apply Kd.V_alloc | apply Kd.V_drewN | apply Kd.V_drew)); exact HL685_0.out) hb); replace BK603 := bl BK603 hb; replace BK625 := bl BK625 hb; replace BK640 := bl BK640 hb; replace HR676_0 := Zz.k (Kd.C_below (ck HR676_0) hb); replace HR679_0 := Zz.k (Kd.C_below (ck HR679_0) hb); replace HR682_0 := Zz.k (Kd.C_below (ck HR682_0) hb); replace HR685_0 := Zz.k (Kd.C_below (ck HR685_0) hb); replace HB := bs HB hb; clear hb))
                  go_meet
                  case rel => exact ⟨_,((t687 != (wrap64 (t681 + 1)))),rf,H',⟨by have:=HK1.out; have:=HJ9.out; have:=HK3.out; have:=HJ24.out; have:=HJ30.out; have:=HJ52.out; have:=HJ71.out; have:=HK8.out; first | omega | exact Nat.le_refl _⟩,⟨rk HO_5⟩,⟨rk HO_15⟩,⟨rk HO_17⟩,⟨nk HO_19⟩,⟨rk HO_626007⟩,⟨rk HO_641007⟩,⟨kk BK603⟩,⟨kk BK625⟩,⟨kk BK640⟩,⟨ck HR676_0⟩,⟨ck HR679_0⟩,⟨bw HB⟩⟩⟩ : Nonempty G_)) :); w7_EditRaces.bxo (G:=G_) (inferInstanceAs (Nonempty G_)))⟩ : Nonempty G_)) :); w7_EditRaces.bxo (G:=G_) (inferInstanceAs (Nonempty G_)))
                 case rest =>
                  show (let G_ : Prop:=_; G_)
                  intro G_
                  exact (let_tmp i_ : Nonempty G_:=(((⟨by
                  subst G_
                  clear HC98
                  try clear c92b0; try clear c93b0; try clear c94b0; try clear c95b0; try clear c95b1; try clear hx676_0; try clear hx677_0; try clear hx677_1; try clear hx677_2; try clear hx679_0; try clear hx680_0; try clear hx680_1; try clear hx680_2; try clear p676; try clear p677; try clear p679; try clear p680; try clear q676; try clear q677; try clear q679; try clear q680
                  obtain ⟨kq,x199_97,rfl,HA,HJ97,HO_5,HO_15,HO_17,HO_19,HO_626007,HO_641007,BK603,BK625,BK640,HR676_0,HR679_0,HB⟩:=hcut
                  cases kq with
                  | zero => exact absurd HA.out (by simp [w7_EditRaces.j8])
                  | succ kj97 =>
                   have H:=HA.out
                   clear HA
                   simp only [w7_EditRaces.j8] at H
                   by_cases c114 : x199_97 = true
                   ·show (let G_ : Prop:=_; G_)
                    intro G_
                    exact (let_tmp i_ : Nonempty G_:=(((⟨by
                    subst G_
                    subst c114
                    rw [if_pos rfl] at H
                    obtain rfl:=Zo H
                    go_wp2
                    go_ret
                    exact ⟨re,bw HB⟩⟩ : Nonempty G_)) :); w7_EditRaces.bxo (G:=G_) (inferInstanceAs (Nonempty G_)))
                   replace c114:=Zf c114
                   subst c114
                   rw [if_neg nft] at H
                   have H':=Zz.k H
                   clear H
                   go_wp2
                   go_roundg kj97
                   case measure => have:=HK1.out; have:=HJ9.out; have:=HK3.out; have:=HJ24.out; have:=HJ30.out; have:=HJ52.out; have:=HJ71.out; have:=HK8.out; have:=HJ97.out; omega
                   case rel => exact ⟨(wrap64 (x20_8 + 1)),rf,H',⟨by have:=HK1.out; have:=HJ9.out; have:=HK3.out; have:=HJ24.out; have:=HJ30.out; have:=HJ52.out; have:=HJ71.out; have:=HK8.out; have:=HJ97.out; omega⟩,⟨rk HO_5⟩,⟨rk HO_15⟩,⟨rk HO_17⟩,⟨nk HO_19⟩,⟨rk HO_626007⟩,⟨rk HO_641007⟩,⟨kk BK603⟩,⟨kk BK625⟩,⟨kk BK640⟩,⟨bw HB⟩⟩⟩ : Nonempty G_)) :); w7_EditRaces.bxo (G:=G_) (inferInstanceAs (Nonempty G_)))⟩ : Nonempty G_)) :); w7_EditRaces.bxo (G:=G_) (inferInstanceAs (Nonempty G_)))⟩ : Nonempty G_)) :); w7_EditRaces.bxo (G:=G_) (inferInstanceAs (Nonempty G_)))⟩ : Nonempty G_)) :); w7_EditRaces.bxo (G:=G_) (inferInstanceAs (Nonempty G_)))⟩ : Nonempty G_)) :); w7_EditRaces.bxo (G:=G_) (inferInstanceAs (Nonempty G_)))⟩ : Nonempty G_)) :); w7_EditRaces.bxo (G:=G_) (inferInstanceAs (Nonempty G_)))⟩ : Nonempty G_)) :); w7_EditRaces.bxo (G:=G_) (inferInstanceAs (Nonempty G_)))⟩ : Nonempty G_)) :); w7_EditRaces.bxo (G:=G_) (inferInstanceAs (Nonempty G_)))⟩ : Nonempty G_)) :); w7_EditRaces.bxo (G:=G_) (inferInstanceAs (Nonempty G_)))⟩ : Nonempty G_)) :); w7_EditRaces.bxo (G:=G_) (inferInstanceAs (Nonempty G_)))⟩ : Nonempty G_)) :); w7_EditRaces.bxo (G:=G_) (inferInstanceAs (Nonempty G_)))⟩ : Nonempty G_)) :); w7_EditRaces.bxo (G:=G_) (inferInstanceAs (Nonempty G_)))⟩ : Nonempty G_)) :); w7_EditRaces.bxo (G:=G_) (inferInstanceAs (Nonempty G_)))⟩ : Nonempty G_)) :); w7_EditRaces.bxo (G:=G_) (inferInstanceAs (Nonempty G_)))⟩ : Nonempty G_)) :); w7_EditRaces.bxo (G:=G_) (inferInstanceAs (Nonempty G_)))⟩ : Nonempty G_)) :); w7_EditRaces.bxo (G:=G_) (inferInstanceAs (Nonempty G_)))⟩ : Nonempty G_)) :); w7_EditRaces.bxo (G:=G_) (inferInstanceAs (Nonempty G_)))⟩ : Nonempty G_)) :); w7_EditRaces.bxo (G:=G_) (inferInstanceAs (Nonempty G_)))
end
end Go.Proofs.YtlllghajjamdpaaGreatDoor.L
end
