/- Part 11 of the proof that for every argument the law DocTells answers true: which elements of any row are visible, its text, how many toggles of any edit count, whether it is effective, any element's rune, and whether any op would be idle, are the page's, or the error is. -/
import Derived.Test.YtonoaflfobajcaaGreatDoorZDO10
section
namespace Go.Proofs.YtonoaflfobajcaaGreatDoor.L
open Go.RowKit Go.Proofs.YtonoaflfobajcaaGreatDoorW.PrintWords Go.Proofs.YtonoaflfobajcaaGreatDoorW.PrintLast Go.Proofs.YtonoaflfobajcaaGreatDoorW.PrintMore
set_option linter.unusedVariables false
set_option linter.unusedSimpArgs false
set_option maxHeartbeats 40000000
set_option maxRecDepth 1000000
section
attribute [local go_sem] Qbl Qbj Qbp Qbo Qba Qaz Qbk Qbi
theorem w6_DocTells.bxo {G : Prop} (h : Nonempty G) : G:=h.elim id
mutual
def w6_DocTells.l0 : Nat -> Int -> List (List (SOp)) -> List (SElem) -> List (SOp) -> List Int -> Option (Bool)
 | 0,_,_,_,_,_ => none
 | k + 1,x3,x570000,x570001,x570002,x570003 => if x3 < (x570000.length : Int) then (w6_DocTells.j1 k x3 (decide (x3 < 4)) x570000 x570001 x570002 x570003) else (w6_DocTells.j1 k x3 false x570000 x570001 x570002 x570003)
def w6_DocTells.j1 : Nat -> Int -> Bool -> List (List (SOp)) -> List (SElem) -> List (SOp) -> List Int -> Option (Bool)
 | 0,_,_,_,_,_,_ => none
 | k + 1,x3,x42,x570000,x570001,x570002,x570003 => if x42 = true then (if 0 <= x3 then (if x3 < (x570000.length : Int) then ((r0_CopyOps.f k (Qde x570000 x3)).bind fun t573 => ((r4_Row.f k (Qde x570000 x3)).bind fun t577 => ((doc_Visible.f t573).bind fun bt578 => ((doc_Text.f t573).bind fun bt582 => (if t577 = true then ((r4_Visible.f k t573).bind fun t584 => ((r4_Text.f k t573).bind fun t587 => (w6_DocTells.j2 k x3 t573 t577 bt578.1 bt578.2 bt582.1 bt582.2 0 t587 t584 x570000 x570001 x570002 x570003))) else (w6_DocTells.j2 k x3 t573 t577 bt578.1 bt578.2 bt582.1 bt582.2 1 (⟨#[]⟩ : ByteArray) ([] : List (SElem)) x570000 x570001 x570002 x570003)))))) else (none)) else (none)) else ((w6_wakes.f).bind fun t571 => (some t571))
def w6_DocTells.j2 : Nat -> Int -> List (SOp) -> Bool -> List (SElem) -> Int -> ByteArray -> Int -> Int -> ByteArray -> List (SElem) -> List (List (SOp)) -> List (SElem) -> List (SOp) -> List Int -> Option (Bool)
 | 0,_,_,_,_,_,_,_,_,_,_,_,_,_,_ => none
 | k + 1,x3,x4,x5,x6,x7,x8,x9,x10,x11,x12,x570000,x570001,x570002,x570003 => (w6_num.f x7).bind fun t588 => (if t588 = x10 then ((r0_EqElems.f k x6 x12).bind fun t589 => (if t589 = true then ((w6_num.f x9).bind fun t590 => (if t590 = x10 then (w6_DocTells.j3 k x3 x4 x5 x6 x10 (x8.toList != x11.toList) x570000 x570001 x570002 x570003) else (w6_DocTells.j3 k x3 x4 x5 x6 x10 true x570000 x570001 x570002 x570003))) else (w6_DocTells.j3 k x3 x4 x5 x6 x10 true x570000 x570001 x570002 x570003))) else (w6_DocTells.j3 k x3 x4 x5 x6 x10 true x570000 x570001 x570002 x570003))
def w6_DocTells.j3 : Nat -> Int -> List (SOp) -> Bool -> List (SElem) -> Int -> Bool -> List (List (SOp)) -> List (SElem) -> List (SOp) -> List Int -> Option (Bool)
 | 0,_,_,_,_,_,_,_,_,_,_ => none
 | k + 1,x3,x4,x5,x6,x10,x92,x570000,x570001,x570002,x570003 => if x92 = true then (some false) else ((w5_Elems.f k x570000 x570001 x570002 x570003 x4).bind fun t591 => (w6_DocTells.l1 k x3 x4 x5 x6 x10 t591 0 x570000 x570001 x570002 x570003))
def w6_DocTells.l1 : Nat -> Int -> List (SOp) -> Bool -> List (SElem) -> Int -> List (SElem) -> Int -> List (List (SOp)) -> List (SElem) -> List (SOp) -> List Int -> Option (Bool)
 | 0,_,_,_,_,_,_,_,_,_,_,_ => none
 | k + 1,x3,x4,x5,x6,x10,x13,x14,x570000,x570001,x570002,x570003 => if x14 < (x13.length : Int) then (if 0 <= x14 then ((doc_Count.f k x4 ((Qaa x13 x14).f0) ((Qaa x13 x14).f1)).bind fun bt596 => ((doc_Effective.f k x4 ((Qaa x13 x14).f0) ((Qaa x13 x14).f1)).bind fun bt600 => ((doc_Rune.f x4 ((Qaa x13 x14).f0) ((Qaa x13 x14).f1) ((Qaa x13 x14).f2)).bind fun bt603 => (if x5 = true then ((r4_Edit.f k x4 ((Qaa x13 x14).f0) ((Qaa x13 x14).f1)).bind fun t607 => (if t607 = true then ((r4_Count.f k x4 ((Qaa x13 x14).f0) ((Qaa x13 x14).f1)).bind fun t610 => ((r4_Effective.f k x4 ((Qaa x13 x14).f0) ((Qaa x13 x14).f1)).bind fun t613 => (w6_DocTells.j5 k x3 x4 x5 x6 x10 x13 x14 bt596.1 bt596.2 bt600.1 bt600.2 bt603.1 bt603.2 0 3 t610 t613 0 x570000 x570001 x570002 x570003))) else (w6_DocTells.j5 k x3 x4 x5 x6 x10 x13 x14 bt596.1 bt596.2 bt600.1 bt600.2 bt603.1 bt603.2 3 3 0 false 0 x570000 x570001 x570002 x570003))) else (w6_DocTells.j6 k x3 x4 x5 x6 x10 x13 x14 bt596.1 bt596.2 bt600.1 bt600.2 bt603.1 bt603.2 x10 x10 0 false 0 x570000 x570001 x570002 x570003))))) else (none)) else (w6_DocTells.l2 k x3 x4 x5 x6 0 x570000 x570001 x570002 x570003)
def w6_DocTells.j6 : Nat -> Int -> List (SOp) -> Bool -> List (SElem) -> Int -> List (SElem) -> Int -> Int -> Int -> Bool -> Int -> Int -> Int -> Int -> Int -> Int -> Bool -> Int -> List (List (SOp)) -> List (SElem) -> List (SOp) -> List Int -> Option (Bool)
 | 0,_,_,_,_,_,_,_,_,_,_,_,_,_,_,_,_,_,_,_,_,_,_ => none
 | k + 1,x3,x4,x5,x6,x10,x13,x14,x15,x16,x17,x18,x19,x20,x21,x22,x23,x24,x25,x570000,x570001,x570002,x570003 => (w6_num.f x16).bind fun t618 => (if t618 = x21 then (if x15 = x23 then ((w6_num.f x18).bind fun t619 => (if t619 = x21 then (if (x17 != x24) = true then (w6_DocTells.j7 k x3 x4 x5 x6 x10 x13 x14 true x570000 x570001 x570002 x570003) else ((w6_num.f x20).bind fun t620 => (if t620 = x22 then (w6_DocTells.j7 k x3 x4 x5 x6 x10 x13 x14 (x19 != x25) x570000 x570001 x570002 x570003) else (w6_DocTells.j7 k x3 x4 x5 x6 x10 x13 x14 true x570000 x570001 x570002 x570003)))) else (w6_DocTells.j7 k x3 x4 x5 x6 x10 x13 x14 true x570000 x570001 x570002 x570003))) else (w6_DocTells.j7 k x3 x4 x5 x6 x10 x13 x14 true x570000 x570001 x570002 x570003)) else (w6_DocTells.j7 k x3 x4 x5 x6 x10 x13 x14 true x570000 x570001 x570002 x570003))
def w6_DocTells.j7 : Nat -> Int -> List (SOp) -> Bool -> List (SElem) -> Int -> List (SElem) -> Int -> Bool -> List (List (SOp)) -> List (SElem) -> List (SOp) -> List Int -> Option (Bool)
 | 0,_,_,_,_,_,_,_,_,_,_,_,_ => none
 | k + 1,x3,x4,x5,x6,x10,x13,x14,x222,x570000,x570001,x570002,x570003 => if x222 = true then (some false) else (w6_DocTells.l1 k x3 x4 x5 x6 x10 x13 (wrap64 (x14 + 1)) x570000 x570001 x570002 x570003)
def w6_DocTells.j5 : Nat -> Int -> List (SOp) -> Bool -> List (SElem) -> Int -> List (SElem) -> Int -> Int -> Int -> Bool -> Int -> Int -> Int -> Int -> Int -> Int -> Bool -> Int -> List (List (SOp)) -> List (SElem) -> List (SOp) -> List Int -> Option (Bool)
 | 0,_,_,_,_,_,_,_,_,_,_,_,_,_,_,_,_,_,_,_,_,_,_ => none
 | k + 1,x3,x4,x5,x6,x10,x13,x14,x15,x16,x17,x18,x19,x20,x21,x22,x23,x24,x25,x570000,x570001,x570002,x570003 => if 0 <= x14 then (if x14 < (x13.length : Int) then ((r4_Written.f k x4 ((Qaa x13 x14).f0) ((Qaa x13 x14).f1) ((Qaa x13 x14).f2)).bind fun t615 => (if t615 = true then ((r4_Rune.f k x4 ((Qaa x13 x14).f0) ((Qaa x13 x14).f1) ((Qaa x13 x14).f2)).bind fun t617 => (w6_DocTells.j6 k x3 x4 x5 x6 x10 x13 x14 x15 x16 x17 x18 x19 x20 x21 0 x23 x24 t617 x570000 x570001 x570002 x570003)) else (w6_DocTells.j6 k x3 x4 x5 x6 x10 x13 x14 x15 x16 x17 x18 x19 x20 x21 x22 x23 x24 x25 x570000 x570001 x570002 x570003))) else (none)) else (none)
def w6_DocTells.l2 : Nat -> Int -> List (SOp) -> Bool -> List (SElem) -> Int -> List (List (SOp)) -> List (SElem) -> List (SOp) -> List Int -> Option (Bool)
 | 0,_,_,_,_,_,_,_,_,_ => none
 | k + 1,x3,x4,x5,x6,x26,x570000,x570001,x570002,x570003 => if x26 < (x570002.length : Int) then (w6_DocTells.j9 k x3 x4 x5 x6 x26 (decide (x26 < 4)) x570000 x570001 x570002 x570003) else (w6_DocTells.j9 k x3 x4 x5 x6 x26 false x570000 x570001 x570002 x570003)
def w6_DocTells.j9 : Nat -> Int -> List (SOp) -> Bool -> List (SElem) -> Int -> Bool -> List (List (SOp)) -> List (SElem) -> List (SOp) -> List Int -> Option (Bool)
 | 0,_,_,_,_,_,_,_,_,_,_ => none
 | k + 1,x3,x4,x5,x6,x26,x231,x570000,x570001,x570002,x570003 => if x231 = true then (if 0 <= x26 then (if x26 < (x570002.length : Int) then ((r0_CopyOp.f k ((Qad x570002 x26).f0) ((Qad x570002 x26).f1) ((Qad x570002 x26).f2) ((Qad x570002 x26).f3.f0) ((Qad x570002 x26).f3.f1) ((Qad x570002 x26).f3.f2) ((Qad x570002 x26).f4) ((Qad x570002 x26).f5) ((Qad x570002 x26).f6) ((Qad x570002 x26).f7) ((Qad x570002 x26).f8)).bind fun bt622 => (if x5 = true then (w6_DocTells.j10 k x3 x4 x5 x6 x26 ((Int.tmod x26 2) == 0) x570000 x570001 x570002 x570003 bt622.1 bt622.2.1 bt622.2.2.1 bt622.2.2.2.1 bt622.2.2.2.2.1 bt622.2.2.2.2.2.1 bt622.2.2.2.2.2.2.1 bt622.2.2.2.2.2.2.2.1 bt622.2.2.2.2.2.2.2.2.1 bt622.2.2.2.2.2.2.2.2.2.1 bt622.2.2.2.2.2.2.2.2.2.2) else (w6_DocTells.j10 k x3 x4 x5 x6 x26 false x570000 x570001 x570002 x570003 bt622.1 bt622.2.1 bt622.2.2.1 bt622.2.2.2.1 bt622.2.2.2.2.1 bt622.2.2.2.2.2.1 bt622.2.2.2.2.2.2.1 bt622.2.2.2.2.2.2.2.1 bt622.2.2.2.2.2.2.2.2.1 bt622.2.2.2.2.2.2.2.2.2.1 bt622.2.2.2.2.2.2.2.2.2.2))) else (none)) else (none)) else ((w0_Elems.f k x6).bind fun t645 => (if 0 <= x3 then (if x3 < (x570000.length : Int) then ((r0_EqOps.f k x4 (Qde x570000 x3)).bind fun t647 => (if t647 = true then (w6_DocTells.l0 k (wrap64 (x3 + 1)) x570000 x570001 x570002 x570003) else (some false))) else (none)) else (none)))
def w6_DocTells.j10 : Nat -> Int -> List (SOp) -> Bool -> List (SElem) -> Int -> Bool -> List (List (SOp)) -> List (SElem) -> List (SOp) -> List Int -> Int -> Int -> Int -> Int -> Int -> Int -> ByteArray -> List (SElem) -> Int -> Int -> Int -> Option (Bool)
 | 0,_,_,_,_,_,_,_,_,_,_,_,_,_,_,_,_,_,_,_,_,_ => none
 | k + 1,x3,x4,x5,x6,x26,x245,x570000,x570001,x570002,x570003,x636000,x636001,x636002,x636003,x636004,x636005,x636006,x636007,x636008,x636009,x636010 => if x245 = true then ((r4_Many.f k x4 x636000).bind fun t636 => (w6_DocTells.j11 k x3 x4 x5 x6 x26 x570000 x570001 x570002 x570003 x636000 (wrap64 (t636 + 1)) x636002 x636003 x636004 x636005 x636006 x636007 x636008 x636009 x636010)) else (w6_DocTells.j11 k x3 x4 x5 x6 x26 x570000 x570001 x570002 x570003 x636000 x636001 x636002 x636003 x636004 x636005 x636006 x636007 x636008 x636009 x636010)
def w6_DocTells.j11 : Nat -> Int -> List (SOp) -> Bool -> List (SElem) -> Int -> List (List (SOp)) -> List (SElem) -> List (SOp) -> List Int -> Int -> Int -> Int -> Int -> Int -> Int -> ByteArray -> List (SElem) -> Int -> Int -> Int -> Option (Bool)
 | 0,_,_,_,_,_,_,_,_,_,_,_,_,_,_,_,_,_,_,_,_ => none
 | k + 1,x3,x4,x5,x6,x26,x570000,x570001,x570002,x570003,x636000,x636001,x636002,x636003,x636004,x636005,x636006,x636007,x636008,x636009,x636010 => (doc_Idle.f x4 x636000 x636001 x636002 x636003 x636004 x636005 x636006 x636007 x636008 x636009 x636010).bind fun bt637 => (if x5 = true then ((r4_Behind.f k x4 x636000 x636001 x636002 x636003 x636004 x636005 x636006 x636007 x636008 x636009 x636010).bind fun t639 => ((r4_Row.f k t639).bind fun t642 => (w6_DocTells.j12 k x3 x4 x5 x6 x26 bt637.1 bt637.2 1 false t642 x570000 x570001 x570002 x570003 x636000 x636001 x636002 x636003 x636004 x636005 x636006 x636007 x636008 x636009 x636010))) else (w6_DocTells.j12 k x3 x4 x5 x6 x26 bt637.1 bt637.2 1 false false x570000 x570001 x570002 x570003 x636000 x636001 x636002 x636003 x636004 x636005 x636006 x636007 x636008 x636009 x636010))
def w6_DocTells.j12 : Nat -> Int -> List (SOp) -> Bool -> List (SElem) -> Int -> Bool -> Int -> Int -> Bool -> Bool -> List (List (SOp)) -> List (SElem) -> List (SOp) -> List Int -> Int -> Int -> Int -> Int -> Int -> Int -> ByteArray -> List (SElem) -> Int -> Int -> Int -> Option (Bool)
 | 0,_,_,_,_,_,_,_,_,_,_,_,_,_,_,_,_,_,_,_,_,_,_,_,_,_ => none
 | k + 1,x3,x4,x5,x6,x26,x28,x29,x30,x31,x264,x570000,x570001,x570002,x570003,x636000,x636001,x636002,x636003,x636004,x636005,x636006,x636007,x636008,x636009,x636010 => if x264 = true then ((r4_Idle.f k x4 x636000 x636001 x636002 x636003 x636004 x636005 x636006 x636007 x636008 x636009 x636010).bind fun t643 => (w6_DocTells.j13 k x3 x4 x5 x6 x26 x28 x29 0 t643 x570000 x570001 x570002 x570003)) else (w6_DocTells.j13 k x3 x4 x5 x6 x26 x28 x29 x30 x31 x570000 x570001 x570002 x570003)
def w6_DocTells.j13 : Nat -> Int -> List (SOp) -> Bool -> List (SElem) -> Int -> Bool -> Int -> Int -> Bool -> List (List (SOp)) -> List (SElem) -> List (SOp) -> List Int -> Option (Bool)
 | 0,_,_,_,_,_,_,_,_,_,_,_,_,_ => none
 | k + 1,x3,x4,x5,x6,x26,x28,x29,x30,x31,x570000,x570001,x570002,x570003 => (w6_num.f x29).bind fun t644 => (if t644 = x30 then (if (x28 != x31) = true then (some false) else (w6_DocTells.l2 k x3 x4 x5 x6 (wrap64 (x26 + 1)) x570000 x570001 x570002 x570003)) else (some false))
end
def w6_DocTells.f (k : Nat) (l0_0 : List (List (SOp))) (l0_1 : List (SElem)) (l0_2 : List (SOp)) (l0_3 : List Int) : Option (Bool):=(w5_Heavy.f k l0_0 l0_1 l0_2 l0_3).bind fun t570 => (if t570 = true then (some true) else (w6_DocTells.l0 k 0 l0_0 l0_1 l0_2 l0_3))
def w6_DocTells.T20 : Bool × List (List Nat × List Nat):=(true,[([],[]),([],[]),([],[]),([1,2],[1,2]),([3],[3]),([4],[4]),([],[]),([],[]),([6,7],[6,7]),([8],[8]),([9],[9]),([0,5,10],[0,5,10]),([11],[11]),([12],[12]),([12],[12]),([13,11,0,1,2,3,4,5,6,7,8,9,10,11,12,13],[13]),([14,15,0,1,2,3,4,5,6,7,8,9,10,11,12,13,14,15],[14])])
def w6_DocTells.B20 : List Nat:=[0,0,0,6,14,30,0,0,192,448,960,2047,4095,8191,8191,16383,65535]
theorem w6_DocTells.tab20 : rtab .any (Qcj Tryz.f4 20) = w6_DocTells.T20:=by kernel_rfl
theorem w6_DocTells.bits20 : Qau w6_DocTells.T20.2 w6_DocTells.B20 = true:=by kernel_rfl
def w6_DocTells.T21 : Bool × List (List Nat × List Nat):=(true,[([],[]),([],[]),([],[]),([1,2],[1,2]),([3],[3]),([4],[4]),([],[]),([],[]),([6,7],[6,7]),([8],[8]),([9],[9]),([0,5,10],[0,5,10]),([11],[11]),([12],[12]),([12],[12]),([13,11,0,1,2,3,4,5,6,7,8,9,10,11,12,13],[13]),([14,15,0,1,2,3,4,5,6,7,8,9,10,11,12,13,14,15],[14])])
def w6_DocTells.B21 : List Nat:=[0,0,0,6,14,30,0,0,192,448,960,2047,4095,8191,8191,16383,65535]
theorem w6_DocTells.tab21 : rtab .any (Qcj Tryz.f4 21) = w6_DocTells.T21:=by kernel_rfl
theorem w6_DocTells.bits21 : Qau w6_DocTells.T21.2 w6_DocTells.B21 = true:=by kernel_rfl
def w6_DocTells.T27 : Bool × List (List Nat × List Nat):=(true,[([],[]),([],[]),([],[]),([1,2],[1,2]),([3],[3]),([4],[4]),([],[]),([],[]),([6,7],[6,7]),([8],[8]),([9],[9]),([0,5,10],[0,5,10])])
def w6_DocTells.B27 : List Nat:=[0,0,0,6,14,30,0,0,192,448,960,2047]
theorem w6_DocTells.tab27 : rtab .any (Qcj Tryz.f4 27) = w6_DocTells.T27:=by kernel_rfl
theorem w6_DocTells.bits27 : Qau w6_DocTells.T27.2 w6_DocTells.B27 = true:=by kernel_rfl
def w6_DocTells.T28 : Bool × List (List Nat × List Nat):=(true,[([],[]),([],[]),([],[]),([1,2],[1,2]),([3],[3]),([4],[4]),([],[]),([],[]),([6,7],[6,7]),([8],[8]),([9],[9]),([0,5,10],[0,5,10]),([],[]),([],[]),([],[]),([13,14],[13,14]),([15],[15]),([16],[16]),([],[]),([],[]),([18,19],[18,19]),([20],[20]),([21],[21]),([12,17,22,11],[12,17,22]),([23],[]),([11,24,0,1,2,3,4,5,6,7,8,9,10,11,24],[11]),([23,25,0,1,2,3,4,5,6,7,8,9,10,11,12,13,14,15,16,17,18,19,20,21,22,23,24,25],[23])])
def w6_DocTells.B28 : List Nat:=[0,0,0,6,14,30,0,0,192,448,960,2047,0,0,0,24576,57344,122880,0,0,786432,1835008,3932160,8388607,16777215,33554431,67108863]
theorem w6_DocTells.tab28 : rtab .any (Qcj Tryz.f4 28) = w6_DocTells.T28:=by kernel_rfl
theorem w6_DocTells.bits28 : Qau w6_DocTells.T28.2 w6_DocTells.B28 = true:=by kernel_rfl
theorem w6_DocTells.calls (k : Nat) (A0_0 : Option Addr) (c0_0 : Nat) (l0_0 : List (List (SOp))) (A0_1 : Option Addr) (c0_1 : Nat) (l0_1 : List (SElem)) (A0_2 : Option Addr) (c0_2 : Nat) (l0_2 : List (SOp)) (A0_3 : Option Addr) (c0_3 : Nat) (l0_3 : List Int) (r : Bool) (w : World) (hr0_0 : Kd.C (Kd.slice 64 kOp) w A0_0 l0_0.length l0_0) (hc0_0 : l0_0.length <= c0_0) (hr0_1 : Kd.C Qao w A0_1 l0_1.length l0_1) (hc0_1 : l0_1.length <= c0_1) (hr0_2 : Kd.C kOp w A0_2 l0_2.length l0_2) (hc0_2 : l0_2.length <= c0_2) (hr0_3 : Kd.C (Kd.int .i64) w A0_3 l0_3.length l0_3) (hc0_3 : l0_3.length <= c0_3) (hT : GT w) (h : w6_DocTells.f k l0_0 l0_1 l0_2 l0_3 = some r) :
  Calls Tryz.prog 4 #[.agg #[.slice A0_0 l0_0.length c0_0, .slice A0_1 l0_1.length c0_1, .slice A0_2 l0_2.length c0_2, .slice A0_3 l0_3.length c0_3]] w fun e w' => e = .returned (.bool r) /\ Below w.heap.size w w':=by
 have hu27:=Tryz.underlying27
 have hu32:=Tryz.underlying32
 have hu64:=Tryz.underlying64
 have HR0_0:=Zz.k hr0_0
 have HC0_0:=Zz.k hc0_0
 clear hr0_0 hc0_0
 have HR0_1:=Zz.k hr0_1
 have HC0_1:=Zz.k hc0_1
 clear hr0_1 hc0_1
 have HR0_2:=Zz.k hr0_2
 have HC0_2:=Zz.k hc0_2
 clear hr0_2 hc0_2
 have HR0_3:=Zz.k hr0_3
 have HC0_3:=Zz.k hc0_3
 clear hr0_3 hc0_3
 have HB:=Zz.k (Below.refl w.heap.size w)
 unfold w6_DocTells.f at h; have H:=h
 clear h
 obtain ⟨t570,A2,H⟩:=bE H
 by_cases c3 : t570 = true
 ·show (let G_ : Prop:=_; G_)
  intro G_
  exact (let_tmp i_ : Nonempty G_:=(((⟨by
  subst G_
  subst c3
  rw [if_pos rfl] at H
  obtain rfl:=Zo H
  go_enter Tryz.func4,Tryz.ntmps4
  go_wp2_with (first | ((with_reducible refine Qaf (N:=1) rfl ?_); refine bx 1 #[.slice A0_0 l0_0.length c0_0, .slice A0_1 l0_1.length c0_1, .slice A0_2 l0_2.length c0_2, .slice A0_3 l0_3.length c0_3] 27 (h := ?_); intro gb569 hg w4 hbox hb; have BK569:=Zz.k (hbox); have GW569:=bz HB hg; have GE569:=bz HB hg; replace HB:=bs HB hb; clear hb hbox hg; obtain ⟨_,_,_,_,_,_,_,_⟩:=kc4 BK569) | ((with_reducible refine Qac (f:=5) rfl ?_); refine gl (some 33) Tryz.func5 #[.agg #[.slice A0_0 l0_0.length c0_0, .slice A0_1 l0_1.length c0_1, .slice A0_2 l0_2.length c0_2, .slice A0_3 l0_3.length c0_3]] (h := ?_); (with_reducible refine (w5_Heavy.calls k _ _ l0_0 _ _ l0_1 _ _ l0_2 _ _ l0_3 true _ ?side1 ?side2 ?side3 ?side4 ?side5 ?side6 ?side7 ?side8 A2.out).mono ?_); (case side1 => exact cb HR0_0 HB); (case side2 => exact HC0_0.out); (case side3 => exact cb HR0_1 HB); (case side4 => exact HC0_1.out); (case side5 => exact cb HR0_2 HB); (case side6 => exact HC0_2.out); (case side7 => exact cb HR0_3 HB); (case side8 => exact HC0_3.out); rintro e w6 ⟨rfl,hb⟩; refine ⟨_,rfl, ?_⟩; replace BK569:=bl BK569 hb; replace HB:=bs HB hb; clear hb))
  go_ret
  exact ⟨re,bw HB⟩⟩ : Nonempty G_)) :); w6_DocTells.bxo (G:=G_) (inferInstanceAs (Nonempty G_)))
 replace c3:=Zf c3
 subst c3
 rw [if_neg nft] at H
 have H':=Zz.k H
 clear H
 go_enter Tryz.func4,Tryz.ntmps4
 go_wp2_with (first | ((with_reducible refine Qaf (N:=1) rfl ?_); refine bx 1 #[.slice A0_0 l0_0.length c0_0, .slice A0_1 l0_1.length c0_1, .slice A0_2 l0_2.length c0_2, .slice A0_3 l0_3.length c0_3] 27 (h := ?_); intro gb569 hg w7 hbox hb; have BK569:=Zz.k (hbox); have GW569:=bz HB hg; have GE569:=bz HB hg; replace HB:=bs HB hb; clear hb hbox hg; obtain ⟨_,_,_,_,_,_,_,_⟩:=kc4 BK569) | ((with_reducible refine Qac (f:=5) rfl ?_); refine gl (some 33) Tryz.func5 #[.agg #[.slice A0_0 l0_0.length c0_0, .slice A0_1 l0_1.length c0_1, .slice A0_2 l0_2.length c0_2, .slice A0_3 l0_3.length c0_3]] (h := ?_); (with_reducible refine (w5_Heavy.calls k _ _ l0_0 _ _ l0_1 _ _ l0_2 _ _ l0_3 false _ ?side1 ?side2 ?side3 ?side4 ?side5 ?side6 ?side7 ?side8 A2.out).mono ?_); (case side1 => exact cb HR0_0 HB); (case side2 => exact HC0_0.out); (case side3 => exact cb HR0_1 HB); (case side4 => exact HC0_1.out); (case side5 => exact cb HR0_2 HB); (case side6 => exact HC0_2.out); (case side7 => exact cb HR0_3 HB); (case side8 => exact HC0_3.out); rintro e w9 ⟨rfl,hb⟩; refine ⟨_,rfl, ?_⟩; replace BK569:=bl BK569 hb; replace HB:=bs HB hb; clear hb))
 go_loopg [3] k (fun kq v3 w' => ∃ (x3_1 : Int),v3 = .int .i64 x3_1 /\ Zz (w6_DocTells.l0 kq x3_1 l0_0 l0_1 l0_2 l0_3 = some r) /\ Zz (kq <= k) /\ Zz (w'.heap[gb569]? = some (.cells #[(.slice A0_0 l0_0.length c0_0),(.slice A0_1 l0_1.length c0_1),(.slice A0_2 l0_2.length c0_2),(.slice A0_3 l0_3.length c0_3)] 27 (0,0))) /\ Zz (Below w.heap.size w w'))
 case atStart => exact ⟨(0),rf,H',⟨Nat.le_refl _⟩,⟨kk BK569⟩,⟨bw HB⟩⟩
 case round =>
  show (let G_ : Prop:=_; G_)
  intro G_
  exact (let_tmp i_ : Nonempty G_:=(((⟨by
  subst G_
  clear H'
  try clear c3
  obtain ⟨x3_1,rfl,HA,HK1,BK569,HB⟩:=hrel
  cases gk with
  | zero => exact absurd HA.out (by simp [w6_DocTells.l0])
  | succ k1 =>
   have H:=HA.out
   clear HA
   simp only [w6_DocTells.l0] at H
   have HC10:=Zz.k H
   clear H
   go_upto_region 4 with (fail)
   go_cut [42] (fun v42 wc => ∃ (kq : Nat) (x42_9 : Bool),v42 = .bool x42_9 /\ Zz (w6_DocTells.j1 kq x3_1 x42_9 l0_0 l0_1 l0_2 l0_3 = some r) /\ Zz (kq <= k1) /\ Zz (wc.heap[gb569]? = some (.cells #[(.slice A0_0 l0_0.length c0_0),(.slice A0_1 l0_1.length c0_1),(.slice A0_2 l0_2.length c0_2),(.slice A0_3 l0_3.length c0_3)] 27 (0,0))) /\ Zz (Below w.heap.size w wc))
   case first =>
    have H:=HC10.out
    clear HC10
    by_cases c11 : x3_1 < (l0_0.length : Int)
    ·show (let G_ : Prop:=_; G_)
     intro G_
     exact (let_tmp i_ : Nonempty G_:=(((⟨by
     subst G_
     rw [if_pos c11] at H
     have c11b0:=Zd c11
     clear c11
     (first | rw [c11b0] | (simp only [Qbc,Qbg]; rw [c11b0]) | skip)
     have H':=Zz.k H
     clear H
     obtain ⟨_,_,_,_,_,_,_,_⟩:=kc4 BK569
     go_wp2
     go_meet
     case rel => exact ⟨_,(decide (x3_1 < 4)),rf,H',⟨by have:=HK1.out; first | omega | exact Nat.le_refl _⟩,⟨kk BK569⟩,⟨bw HB⟩⟩⟩ : Nonempty G_)) :); w6_DocTells.bxo (G:=G_) (inferInstanceAs (Nonempty G_)))
    rw [if_neg c11] at H
    have c11b0:=Ze c11
    clear c11
    (first | rw [c11b0] | (simp only [Qbc,Qbg]; rw [c11b0]) | skip)
    have H':=Zz.k H
    clear H
    obtain ⟨_,_,_,_,_,_,_,_⟩:=kc4 BK569
    go_wp2
    go_meet
    case rel => exact ⟨_,(false),rf,H',⟨by have:=HK1.out; first | omega | exact Nat.le_refl _⟩,⟨kk BK569⟩,⟨bw HB⟩⟩
   case rest =>
    show (let G_ : Prop:=_; G_)
    intro G_
    exact (let_tmp i_ : Nonempty G_:=(((⟨by
    subst G_
    clear HC10
    obtain ⟨kq,x42_9,rfl,HA,HJ9,BK569,HB⟩:=hcut
    cases kq with
    | zero => exact absurd HA.out (by simp [w6_DocTells.j1])
    | succ kj9 =>
     have H:=HA.out
     clear HA
     simp only [w6_DocTells.j1] at H
     by_cases c14 : x42_9 = true; rotate_left
     ·replace c14:=Zf c14
      subst c14
      rw [if_neg nft] at H
      obtain ⟨t571,A146,H⟩:=bE H
      obtain rfl:=Zo H
      go_wp2_with (first | ((with_reducible refine Qac (f:=38) rfl ?_); refine gl (some 287) Tryz.func38 #[] (h := ?_); (with_reducible refine (w6_wakes.calls  t571 _ A146.out).mono ?_); rintro e w147 ⟨rfl,hb⟩; refine ⟨_,rfl, ?_⟩; replace BK569:=bl BK569 hb; replace HB:=bs HB hb; clear hb))
      go_ret
      exact ⟨re,bw HB⟩
     show (let G_ : Prop:=_; G_)
     intro G_
     exact (let_tmp i_ : Nonempty G_:=(((⟨by
     subst G_
     subst c14
     rw [if_pos rfl] at H
     by_cases c15 : 0 <= x3_1; rotate_left
     ·rw [if_neg c15] at H
      exact absurd H (by simp)
     show (let G_ : Prop:=_; G_)
     intro G_
     exact (let_tmp i_ : Nonempty G_:=(((⟨by
     subst G_
     rw [if_pos c15] at H
     have c15b0:=Zd c15
     clear c15
     by_cases c16 : x3_1 < (l0_0.length : Int); rotate_left
     ·rw [if_neg c16] at H
      exact absurd H (by simp)
     show (let G_ : Prop:=_; G_)
     intro G_
     exact (let_tmp i_ : Nonempty G_:=(((⟨by
     subst G_
     rw [if_pos c16] at H
     have c16b0:=Zd c16
     clear c16
     obtain ⟨t573,A17,H⟩:=bE H
     obtain ⟨t577,A18,H⟩:=bE H
     obtain ⟨⟨t578,t579⟩,A19,H⟩:=bE H
     try dsimp only at H
     obtain ⟨⟨t582,t583⟩,A20,H⟩:=bE H
     try dsimp only at H
     have HC21:=Zz.k H
     clear H
     obtain ⟨_,_,_,_,_,_,_,_⟩:=kc4 BK569
     have p572 : 0 <= (x3_1 : Int):=od
     have q572 : x3_1 < (l0_0.length : Int):=od
     obtain ⟨ad572,A572_0,c572_0,e572,hx572_0,hl572_0,hi572_0⟩:=at_LOp HR0_0.out x3_1 p572 q572
     cases e572
     replace hx572_0:=cl HB hx572_0
     have HR572_0:=Zz.k hi572_0
     have HC572_0:=Zz.k hl572_0
     clear hi572_0 hl572_0
     replace p572:=eq_true p572
     replace q572:=eq_true q572
     go_upto_if 67 with (first | ((with_reducible refine Qac (f:=6) rfl ?_); refine gl (some 50) Tryz.func6 #[.slice A572_0 (Qde l0_0 x3_1).length c572_0] (h := ?_); (with_reducible refine (r0_CopyOps.calls kj9 _ _ (Qde l0_0 x3_1) t573 _ ?side1 ?side2 A17.out).mono ?_); (case side1 => exact cb HR572_0 HB); (case side2 => exact HC572_0.out); rintro e w23 ⟨v574,rfl,ho0,hb⟩; refine ⟨_,rfl, ?_⟩; have HO575:=Zz.k (Kd.S_lower ho0 (Qaj (bw HB))); replace BK569:=bl BK569 hb; replace HB:=bs HB hb; clear hb; clear ho0; obtain ⟨_,_,_,_,_,_,_,_⟩:=kc4 BK569; have p576 : 0 <= (x3_1 : Int):=od; have q576 : x3_1 < (l0_0.length : Int):=od; obtain ⟨ad576,A576_0,c576_0,e576,hx576_0,hl576_0,hi576_0⟩:=at_LOp HR0_0.out x3_1 p576 q576; obtain rfl : ad572 = ad576:=(by injection e576); replace hx576_0:=cl HB hx576_0; have HR576_0:=Zz.k hi576_0; have HC576_0:=Zz.k hl576_0; clear hi576_0 hl576_0; replace p576:=eq_true p576; replace q576:=eq_true q576) | ((with_reducible refine Qac (f:=7) rfl ?_); refine gl (some 56) Tryz.func7 #[.slice A576_0 (Qde l0_0 x3_1).length c576_0] (h := ?_); (with_reducible refine (r4_Row.calls kj9 _ _ (Qde l0_0 x3_1) t577 _ ?side1 ?side2 ?side3 A18.out).mono ?_); (case side1 => exact cb HR576_0 HB); (case side2 => exact HC576_0.out); (case side3 => exact (hT.below (bw HB))); rintro e w25 ⟨rfl,hb⟩; refine ⟨_,rfl, ?_⟩; replace HO575:=sb HO575 hb; replace BK569:=bl BK569 hb; replace HB:=bs HB hb; clear hb; obtain ⟨Ao26,co26,eo26⟩:=Kd.S_slice HO575.out; subst eo26) | ((with_reducible refine Qac (f:=19) rfl ?_); refine gl (some 59) Tryz.func19 #[.slice Ao26 t573.length co26] (h := ?_); (with_reducible refine (doc_Visible.calls _ _ t573 t578 t579 _ ?side1 ?side2 A19.out).mono ?_); (case side1 => exact cs HO575); (case side2 => exact (Kd.S_reads' HO575.out).2.1); rintro e w27 ⟨v580,rfl,ho0,hb⟩; refine ⟨_,rfl, ?_⟩; have HO581:=Zz.k (Kd.R_lower ho0 (Qaj (bw HB))); replace HO575:=Zz.k (Kd.S_elder' (sk HO575) (Kd.R_base ho0) hb); replace BK569:=bl BK569 hb; replace HB:=bs HB hb; clear hb; clear ho0) | ((with_reducible refine Qac (f:=20) rfl ?_); refine gl (some 64) Tryz.func20 #[.slice Ao26 t573.length co26] (h := ?_); (with_reducible refine (doc_Text.calls _ _ t573 t582 t583 _ ?side1 ?side2 A20.out).mono ?_); (case side1 => exact cs HO575); (case side2 => exact (Kd.S_reads' HO575.out).2.1); rintro e w28 ⟨rfl,hb⟩; refine ⟨_,rfl, ?_⟩; replace HO575:=sb HO575 hb; replace HO581:=rb HO581 hb; replace BK569:=bl BK569 hb; replace HB:=bs HB hb; clear hb))
     (try simp only [Act.put,List.setIfInBounds_toArray,List.set_cons_zero,List.set_cons_succ])
     go_cut [10,11,12] (fun v10 v11 v12 wc => ∃ (kq : Nat) (x10_20 : Int) (x11_20 : ByteArray) (x12_20 : List (SElem)),v10 = .int .i64 x10_20 /\ v11 = .string x11_20 /\ Zz (w6_DocTells.j2 kq x3_1 t573 t577 t578 t579 t582 t583 x10_20 x11_20 x12_20 l0_0 l0_1 l0_2 l0_3 = some r) /\ Zz (kq <= kj9) /\ Zz (Kd.S kOp 64 wc w.heap.size (fun k_ => some k_ ≠ (v580 : Value).ownBlock /\ some k_ ≠ (v12 : Value).ownBlock) (.slice Ao26 t573.length co26) t573) /\ Zz (Kd.R Qao 32 wc w.heap.size (fun k_ => some k_ ≠ (v12 : Value).ownBlock) v580 t578) /\ Zz (Kd.R Qao 32 wc w.heap.size (fun k_ => some k_ ≠ (v580 : Value).ownBlock) v12 x12_20) /\ Zz (wc.heap[gb569]? = some (.cells #[(.slice (some ad572) l0_0.length c0_0),(.slice A0_1 l0_1.length c0_1),(.slice A0_2 l0_2.length c0_2),(.slice A0_3 l0_3.length c0_3)] 27 (0,0))) /\ Zz (Below w.heap.size w wc))
     case first =>
      have H:=HC21.out
      clear HC21
      by_cases c29 : t577 = true; rotate_left
      ·replace c29:=Zf c29
       subst c29
       rw [if_neg nft] at H
       have H':=Zz.k H
       clear H
       go_wp2
       go_meet
       case rel => exact ⟨_,(1),((⟨#[]⟩ : ByteArray)),(([] : List (SElem))),rf,rf,H',⟨by have:=HK1.out; have:=HJ9.out; first | omega | exact Nat.le_refl _⟩,⟨by (with_reducible repeat (first | apply Kd.S_alloc | apply Kd.S_drewN | apply Kd.S_drew)); exact Kd.S_mono HO575.out (fun _ hk => ⟨hk.2,(by simp [Value.ownBlock])⟩)⟩,⟨by (with_reducible repeat (first | apply Kd.R_alloc | apply Kd.R_drewN | apply Kd.R_drew)); exact Kd.R_mono HO581.out (fun _ hk => (by simp [Value.ownBlock]))⟩,⟨by first | exact Kd.R_nil _ _ _ _ _ | exact Kd.N_nil _ _ _ _ _ | exact Kd.V_nil _ _ _ _ _ | exact Kd.Q_nil _ _ _ _ _ | exact Kd.S_nil _ _ _ _ _⟩,⟨kk BK569⟩,⟨bw HB⟩⟩
      show (let G_ : Prop:=_; G_)
      intro G_
      exact (let_tmp i_ : Nonempty G_:=(((⟨by
      subst G_
      subst c29
      rw [if_pos rfl] at H
      obtain ⟨t584,A30,H⟩:=bE H
      obtain ⟨t587,A31,H⟩:=bE H
      have H':=Zz.k H
      clear H
      go_wp2_with (first | ((with_reducible refine Qac (f:=21) rfl ?_); refine gl (some 69) Tryz.func21 #[.slice Ao26 t573.length co26] (h := ?_); (with_reducible refine (r4_Visible.calls kj9 _ _ t573 t584 _ ?side1 ?side2 ?side3 A30.out).mono ?_); (case side1 => exact cs HO575); (case side2 => exact (Kd.S_reads' HO575.out).2.1); (case side3 => exact (hT.below (bw HB))); rintro e w32 ⟨v585,rfl,ho0,hb⟩; refine ⟨_,rfl, ?_⟩; have HO586:=Zz.k (Kd.R_lower (Kd.R_new' ho0 (Kd.R_lt (rk HO581))) (Qaj (bw HB))); replace HO575:=Zz.k (Kd.S_elder' (sk HO575) (Kd.R_base ho0) hb); replace HO581:=Zz.k (Kd.R_elder' (rk HO581) (Kd.R_base ho0) hb); replace BK569:=bl BK569 hb; replace HB:=bs HB hb; clear hb; clear ho0) | ((with_reducible refine Qac (f:=22) rfl ?_); refine gl (some 71) Tryz.func22 #[.slice Ao26 t573.length co26] (h := ?_); (with_reducible refine (r4_Text.calls kj9 _ _ t573 t587 _ ?side1 ?side2 ?side3 A31.out).mono ?_); (case side1 => exact cs HO575); (case side2 => exact (Kd.S_reads' HO575.out).2.1); (case side3 => exact (hT.below (bw HB))); rintro e w33 ⟨rfl,hb⟩; refine ⟨_,rfl, ?_⟩; replace HO575:=sb HO575 hb; replace HO581:=rb HO581 hb; replace HO586:=rb HO586 hb; replace BK569:=bl BK569 hb; replace HB:=bs HB hb; clear hb))
      go_meet
      case rel => exact ⟨_,(0),(t587),(t584),rf,rf,H',⟨by have:=HK1.out; have:=HJ9.out; first | omega | exact Nat.le_refl _⟩,⟨by (with_reducible repeat (first | apply Kd.S_alloc | apply Kd.S_drewN | apply Kd.S_drew)); exact Kd.S_mono HO575.out (fun _ hk => ⟨hk.1.2,hk.2⟩)⟩,⟨by (with_reducible repeat (first | apply Kd.R_alloc | apply Kd.R_drewN | apply Kd.R_drew)); exact Kd.R_mono HO581.out (fun _ hk => hk.2)⟩,⟨by (with_reducible repeat (first | apply Kd.R_alloc | apply Kd.R_drewN | apply Kd.R_drew)); exact Kd.R_mono HO586.out (fun _ hk => hk.2)⟩,⟨kk BK569⟩,⟨bw HB⟩⟩⟩ : Nonempty G_)) :); w6_DocTells.bxo (G:=G_) (inferInstanceAs (Nonempty G_)))
     case rest =>
      show (let G_ : Prop:=_; G_)
      intro G_
      exact (let_tmp i_ : Nonempty G_:=(((⟨by
      subst G_
      clear HC21
      try clear c14; try clear c15b0; try clear c16b0; try clear hx572_0; try clear hx576_0; try clear p572; try clear p576; try clear q572; try clear q576
      obtain ⟨kq,x10_20,x11_20,x12_20,rfl,rfl,HA,HJ20,HO_4,HO_6,HO_12,BK569,HB⟩:=hcut
      cases kq with
      | zero => exact absurd HA.out (by simp [w6_DocTells.j2])
      | succ kj20 =>
       have H:=HA.out
       clear HA
       simp only [w6_DocTells.j2] at H
       have HC34:=Zz.k H
       clear H
       go_upto_region 14 with (fail)
       go_cut [92] (fun v92 wc => ∃ (kq : Nat) (x92_33 : Bool),v92 = .bool x92_33 /\ Zz (w6_DocTells.j3 kq x3_1 t573 t577 t578 x10_20 x92_33 l0_0 l0_1 l0_2 l0_3 = some r) /\ Zz (kq <= kj20) /\ Zz (Kd.S kOp 64 wc w.heap.size (fun k_ => some k_ ≠ (v580 : Value).ownBlock) (.slice Ao26 t573.length co26) t573) /\ Zz (Kd.R Qao 32 wc w.heap.size (fun _ => True) v580 t578) /\ Zz (wc.heap[gb569]? = some (.cells #[(.slice (some ad572) l0_0.length c0_0),(.slice A0_1 l0_1.length c0_1),(.slice A0_2 l0_2.length c0_2),(.slice A0_3 l0_3.length c0_3)] 27 (0,0))) /\ Zz (Below w.heap.size w wc))
       case first =>
        have H:=HC34.out
        clear HC34
        obtain ⟨t588,A35,H⟩:=bE H
        by_cases c36 : t588 = x10_20; rotate_left
        ·rw [if_neg c36] at H
         obtain ⟨c36b0,c36b1⟩:=bF c36
         (first | rw [c36b0] | (simp only [Qbc,Qbg]; rw [c36b0]) | skip)
         have H':=Zz.k H
         clear H
         go_wp2_with (first | ((with_reducible refine Qac (f:=23) rfl ?_); refine gl (some 73) Tryz.func23 #[.int .i64 t579] (h := ?_); (with_reducible refine (w6_num.calls t579 t588 _ A35.out).mono ?_); rintro e w' ⟨rfl,⟨nd,rfl⟩⟩; refine ⟨_,rfl, ?_⟩))
         go_meet
         case rel => exact ⟨_,(true),rf,H',⟨by have:=HK1.out; have:=HJ9.out; have:=HJ20.out; first | omega | exact Nat.le_refl _⟩,⟨by (with_reducible repeat (first | apply Kd.S_alloc | apply Kd.S_drewN | apply Kd.S_drew)); exact Kd.S_mono HO_4.out (fun _ hk => hk.1)⟩,⟨by (with_reducible repeat (first | apply Kd.R_alloc | apply Kd.R_drewN | apply Kd.R_drew)); exact Kd.R_mono HO_6.out (fun _ hk => trivial)⟩,⟨kk BK569⟩,⟨bw HB⟩⟩
        show (let G_ : Prop:=_; G_)
        intro G_
        exact (let_tmp i_ : Nonempty G_:=(((⟨by
        subst G_
        rw [if_pos c36] at H
        obtain ⟨c36b0,c36b1⟩:=bT c36
        clear c36
        (first | rw [c36b0] | (simp only [Qbc,Qbg]; rw [c36b0]) | skip)
        obtain ⟨t589,A37,H⟩:=bE H
        by_cases c38 : t589 = true; rotate_left
        ·replace c38:=Zf c38
         subst c38
         rw [if_neg nft] at H
         have H':=Zz.k H
         clear H
         go_wp2_with (first | ((with_reducible refine Qac (f:=23) rfl ?_); refine gl (some 73) Tryz.func23 #[.int .i64 t579] (h := ?_); (with_reducible refine (w6_num.calls t579 t588 _ A35.out).mono ?_); rintro e w' ⟨rfl,⟨nd,rfl⟩⟩; refine ⟨_,rfl, ?_⟩; obtain ⟨Ao45,co45,eo45⟩:=Kd.R_slice HO_6.out; subst eo45; obtain ⟨Ao46,co46,eo46⟩:=Kd.R_slice HO_12.out; subst eo46) | (go_at_call 24; (with_reducible refine (r0_EqElems.calls kj20 _ _ t578 _ _ x12_20 false _ ?side1 ?side2 ?side3 ?side4 A37.out).mono ?_); (case side1 => exact cr HO_6); (case side2 => exact (Kd.R_reads' HO_6.out).2.1); (case side3 => exact cr HO_12); (case side4 => exact (Kd.R_reads' HO_12.out).2.1); rintro e w' ⟨rfl,⟨nd,rfl⟩⟩))
         go_meet
         case rel => exact ⟨_,(true),rf,H',⟨by have:=HK1.out; have:=HJ9.out; have:=HJ20.out; first | omega | exact Nat.le_refl _⟩,⟨by (with_reducible repeat (first | apply Kd.S_alloc | apply Kd.S_drewN | apply Kd.S_drew)); exact Kd.S_mono HO_4.out (fun _ hk => hk.1)⟩,⟨by (with_reducible repeat (first | apply Kd.R_alloc | apply Kd.R_drewN | apply Kd.R_drew)); exact Kd.R_mono HO_6.out (fun _ hk => trivial)⟩,⟨kk BK569⟩,⟨bw HB⟩⟩
        show (let G_ : Prop:=_; G_)
        intro G_
        exact (let_tmp i_ : Nonempty G_:=(((⟨by
        subst G_
        subst c38
        rw [if_pos rfl] at H
        obtain ⟨t590,A39,H⟩:=bE H
        by_cases c40 : t590 = x10_20; rotate_left
        ·rw [if_neg c40] at H
         obtain ⟨c40b0,c40b1⟩:=bF c40
         have H':=Zz.k H
         clear H
         go_wp2_with (first | ((with_reducible refine Qac (f:=23) rfl ?_); refine gl (some 73) Tryz.func23 #[.int .i64 t579] (h := ?_); (with_reducible refine (w6_num.calls t579 t588 _ A35.out).mono ?_); rintro e w' ⟨rfl,⟨nd,rfl⟩⟩; refine ⟨_,rfl, ?_⟩; obtain ⟨Ao43,co43,eo43⟩:=Kd.R_slice HO_6.out; subst eo43; obtain ⟨Ao44,co44,eo44⟩:=Kd.R_slice HO_12.out; subst eo44) | (go_at_call 24; (with_reducible refine (r0_EqElems.calls kj20 _ _ t578 _ _ x12_20 true _ ?side1 ?side2 ?side3 ?side4 A37.out).mono ?_); (case side1 => exact cr HO_6); (case side2 => exact (Kd.R_reads' HO_6.out).2.1); (case side3 => exact cr HO_12); (case side4 => exact (Kd.R_reads' HO_12.out).2.1); rintro e w' ⟨rfl,⟨nd,rfl⟩⟩) | (go_at_call 23; (with_reducible refine (w6_num.calls t583 t590 _ A39.out).mono ?_); rintro e w' ⟨rfl,⟨nd,rfl⟩⟩))
         go_meet
         case rel => exact ⟨_,(true),rf,H',⟨by have:=HK1.out; have:=HJ9.out; have:=HJ20.out; first | omega | exact Nat.le_refl _⟩,⟨by (with_reducible repeat (first | apply Kd.S_alloc | apply Kd.S_drewN | apply Kd.S_drew)); exact Kd.S_mono HO_4.out (fun _ hk => hk.1)⟩,⟨by (with_reducible repeat (first | apply Kd.R_alloc | apply Kd.R_drewN | apply Kd.R_drew)); exact Kd.R_mono HO_6.out (fun _ hk => trivial)⟩,⟨kk BK569⟩,⟨bw HB⟩⟩
        show (let G_ : Prop:=_; G_)
        intro G_
        exact (let_tmp i_ : Nonempty G_:=(((⟨by
        subst G_
        rw [if_pos c40] at H
        obtain ⟨c40b0,c40b1⟩:=bT c40
        clear c40
        have H':=Zz.k H
        clear H
        go_wp2_with (first | ((with_reducible refine Qac (f:=23) rfl ?_); refine gl (some 73) Tryz.func23 #[.int .i64 t579] (h := ?_); (with_reducible refine (w6_num.calls t579 t588 _ A35.out).mono ?_); rintro e w' ⟨rfl,⟨nd,rfl⟩⟩; refine ⟨_,rfl, ?_⟩; obtain ⟨Ao41,co41,eo41⟩:=Kd.R_slice HO_6.out; subst eo41; obtain ⟨Ao42,co42,eo42⟩:=Kd.R_slice HO_12.out; subst eo42) | (go_at_call 24; (with_reducible refine (r0_EqElems.calls kj20 _ _ t578 _ _ x12_20 true _ ?side1 ?side2 ?side3 ?side4 A37.out).mono ?_); (case side1 => exact cr HO_6); (case side2 => exact (Kd.R_reads' HO_6.out).2.1); (case side3 => exact cr HO_12); (case side4 => exact (Kd.R_reads' HO_12.out).2.1); rintro e w' ⟨rfl,⟨nd,rfl⟩⟩) | (go_at_call 23; (with_reducible refine (w6_num.calls t583 t590 _ A39.out).mono ?_); rintro e w' ⟨rfl,⟨nd,rfl⟩⟩))
        go_meet
        case rel => exact ⟨_,((t582.toList != x11_20.toList)),rf,H',⟨by have:=HK1.out; have:=HJ9.out; have:=HJ20.out; first | omega | exact Nat.le_refl _⟩,⟨by (with_reducible repeat (first | apply Kd.S_alloc | apply Kd.S_drewN | apply Kd.S_drew)); exact Kd.S_mono HO_4.out (fun _ hk => hk.1)⟩,⟨by (with_reducible repeat (first | apply Kd.R_alloc | apply Kd.R_drewN | apply Kd.R_drew)); exact Kd.R_mono HO_6.out (fun _ hk => trivial)⟩,⟨kk BK569⟩,⟨bw HB⟩⟩⟩ : Nonempty G_)) :); w6_DocTells.bxo (G:=G_) (inferInstanceAs (Nonempty G_)))⟩ : Nonempty G_)) :); w6_DocTells.bxo (G:=G_) (inferInstanceAs (Nonempty G_)))⟩ : Nonempty G_)) :); w6_DocTells.bxo (G:=G_) (inferInstanceAs (Nonempty G_)))
       case rest =>
        show (let G_ : Prop:=_; G_)
        intro G_
        exact (let_tmp i_ : Nonempty G_:=(((⟨by
        subst G_
        clear HC34
        obtain ⟨kq,x92_33,rfl,HA,HJ33,HO_4,HO_6,BK569,HB⟩:=hcut
        cases kq with
        | zero => exact absurd HA.out (by simp [w6_DocTells.j3])
        | succ kj33 =>
         have H:=HA.out
         clear HA
         simp only [w6_DocTells.j3] at H
         by_cases c47 : x92_33 = true
         ·show (let G_ : Prop:=_; G_)
          intro G_
          exact (let_tmp i_ : Nonempty G_:=(((⟨by
          subst G_
          subst c47
          rw [if_pos rfl] at H
          obtain rfl:=Zo H
          go_wp2
          go_ret
          exact ⟨re,bw HB⟩⟩ : Nonempty G_)) :); w6_DocTells.bxo (G:=G_) (inferInstanceAs (Nonempty G_)))
         replace c47:=Zf c47
         subst c47
         rw [if_neg nft] at H
         obtain ⟨t591,A48,H⟩:=bE H
         have H':=Zz.k H
         clear H
         obtain ⟨_,_,_,_,_,_,_,_⟩:=kc4 BK569
         go_wp2_with (first | ((with_reducible refine Qac (f:=11) rfl ?_); refine gl (some 95) Tryz.func11 #[.agg #[.slice (some ad572) l0_0.length c0_0, .slice A0_1 l0_1.length c0_1, .slice A0_2 l0_2.length c0_2, .slice A0_3 l0_3.length c0_3], .slice Ao26 t573.length co26] (h := ?_); (with_reducible refine (w5_Elems.calls kj33 _ _ l0_0 _ _ l0_1 _ _ l0_2 _ _ l0_3 _ _ t573 t591 _ ?side1 ?side2 ?side3 ?side4 ?side5 ?side6 ?side7 ?side8 ?side9 ?side10 A48.out).mono ?_); (case side1 => exact cb HR0_0 HB); (case side2 => exact HC0_0.out); (case side3 => exact cb HR0_1 HB); (case side4 => exact HC0_1.out); (case side5 => exact cb HR0_2 HB); (case side6 => exact HC0_2.out); (case side7 => exact cb HR0_3 HB); (case side8 => exact HC0_3.out); (case side9 => exact cs HO_4); (case side10 => exact (Kd.S_reads' HO_4.out).2.1); rintro e w50 ⟨v592,rfl,ho0,hb⟩; refine ⟨_,rfl, ?_⟩; have HO593:=Zz.k (Kd.R_lower (Kd.R_new' ho0 (Kd.R_lt (rk HO_6))) (Qaj (bw HB))); replace HO_4:=Zz.k (Kd.S_elder' (sk HO_4) (Kd.R_base ho0) hb); replace HO_6:=Zz.k (Kd.R_elder' (rk HO_6) (Kd.R_base ho0) hb); replace BK569:=bl BK569 hb; replace HB:=bs HB hb; clear hb; clear ho0))
         go_loopg [14] kj33 (fun kq v14 w' => ∃ (x14_5 : Int),v14 = .int .i64 x14_5 /\ Zz (w6_DocTells.l1 kq x3_1 t573 t577 t578 x10_20 t591 x14_5 l0_0 l0_1 l0_2 l0_3 = some r) /\ Zz (kq <= kj33) /\ Zz (Kd.S kOp 64 w' w.heap.size (fun k_ => some k_ ≠ (v580 : Value).ownBlock /\ some k_ ≠ (v592 : Value).ownBlock) (.slice Ao26 t573.length co26) t573) /\ Zz (Kd.R Qao 32 w' w.heap.size (fun k_ => some k_ ≠ (v592 : Value).ownBlock) v580 t578) /\ Zz (Kd.R Qao 32 w' w.heap.size (fun k_ => some k_ ≠ (v580 : Value).ownBlock) v592 t591) /\ Zz (w'.heap[gb569]? = some (.cells #[(.slice (some ad572) l0_0.length c0_0),(.slice A0_1 l0_1.length c0_1),(.slice A0_2 l0_2.length c0_2),(.slice A0_3 l0_3.length c0_3)] 27 (0,0))) /\ Zz (Below w.heap.size w w'))
         case atStart => exact ⟨(0),rf,H',⟨Nat.le_refl _⟩,⟨sk HO_4⟩,⟨by (with_reducible repeat (first | apply Kd.R_alloc | apply Kd.R_drewN | apply Kd.R_drew)); exact Kd.R_mono HO_6.out (fun _ hk => hk.2)⟩,⟨by (with_reducible repeat (first | apply Kd.R_alloc | apply Kd.R_drewN | apply Kd.R_drew)); exact Kd.R_mono HO593.out (fun _ hk => hk.2)⟩,⟨kk BK569⟩,⟨bw HB⟩⟩
         case round =>
          show (let G_ : Prop:=_; G_)
          intro G_
          exact (let_tmp i_ : Nonempty G_:=(((⟨by
          subst G_
          clear H'
          try clear c47
          obtain ⟨x14_5,rfl,HA,HK5,HO_4,HO_6,HO_13,BK569,HB⟩:=hrel
          cases gk with
          | zero => exact absurd HA.out (by simp [w6_DocTells.l1])
          | succ k5 =>
           have H:=HA.out
           clear HA
           simp only [w6_DocTells.l1] at H
           by_cases c51 : x14_5 < (t591.length : Int); rotate_left
           ·rw [if_neg c51] at H
            have c51b0:=Ze c51
            clear c51
            have H':=Zz.k H
            clear H
            obtain ⟨Ao89,co89,eo89⟩:=Kd.R_slice HO_13.out
            subst eo89
            go_wp2
            go_loopg [26] k5 (fun kq v26 w' => ∃ (x26_6 : Int),v26 = .int .i64 x26_6 /\ Zz (w6_DocTells.l2 kq x3_1 t573 t577 t578 x26_6 l0_0 l0_1 l0_2 l0_3 = some r) /\ Zz (kq <= k5) /\ Zz (Kd.S kOp 64 w' w.heap.size (fun k_ => some k_ ≠ (v580 : Value).ownBlock) (.slice Ao26 t573.length co26) t573) /\ Zz (Kd.R Qao 32 w' w.heap.size (fun _ => True) v580 t578) /\ Zz (w'.heap[gb569]? = some (.cells #[(.slice (some ad572) l0_0.length c0_0),(.slice A0_1 l0_1.length c0_1),(.slice A0_2 l0_2.length c0_2),(.slice A0_3 l0_3.length c0_3)] 27 (0,0))) /\ Zz (Below w.heap.size w w'))
            case atStart => exact ⟨(0),rf,H',⟨Nat.le_refl _⟩,⟨by (with_reducible repeat (first | apply Kd.S_alloc | apply Kd.S_drewN | apply Kd.S_drew)); exact Kd.S_mono HO_4.out (fun _ hk => hk.1)⟩,⟨by (with_reducible repeat (first | apply Kd.R_alloc | apply Kd.R_drewN | apply Kd.R_drew)); exact Kd.R_mono HO_6.out (fun _ hk => trivial)⟩,⟨kk BK569⟩,⟨bw HB⟩⟩
            case round =>
             show (let G_ : Prop:=_; G_)
             intro G_
             exact (let_tmp i_ : Nonempty G_:=(((⟨by
             subst G_
             clear H'
             try clear c51b0
             obtain ⟨x26_6,rfl,HA,HK6,HO_4,HO_6,BK569,HB⟩:=hrel
             cases gk with
             | zero => exact absurd HA.out (by simp [w6_DocTells.l2])
             | succ k6 =>
              have H:=HA.out
              clear HA
              simp only [w6_DocTells.l2] at H
              have HC90:=Zz.k H
              clear H
              go_upto_region 34 with (fail)
              go_cut [231] (fun v231 wc => ∃ (kq : Nat) (x231_89 : Bool),v231 = .bool x231_89 /\ Zz (w6_DocTells.j9 kq x3_1 t573 t577 t578 x26_6 x231_89 l0_0 l0_1 l0_2 l0_3 = some r) /\ Zz (kq <= k6) /\ Zz (Kd.S kOp 64 wc w.heap.size (fun k_ => some k_ ≠ (v580 : Value).ownBlock) (.slice Ao26 t573.length co26) t573) /\ Zz (Kd.R Qao 32 wc w.heap.size (fun _ => True) v580 t578) /\ Zz (wc.heap[gb569]? = some (.cells #[(.slice (some ad572) l0_0.length c0_0),(.slice A0_1 l0_1.length c0_1),(.slice A0_2 l0_2.length c0_2),(.slice A0_3 l0_3.length c0_3)] 27 (0,0))) /\ Zz (Below w.heap.size w wc))
              case first =>
               have H:=HC90.out
               clear HC90
               by_cases c91 : x26_6 < (l0_2.length : Int)
               ·show (let G_ : Prop:=_; G_)
                intro G_
                exact (let_tmp i_ : Nonempty G_:=(((⟨by
                subst G_
                rw [if_pos c91] at H
                have c91b0:=Zd c91
                clear c91
                (first | rw [c91b0] | (simp only [Qbc,Qbg]; rw [c91b0]) | skip)
                have H':=Zz.k H
                clear H
                obtain ⟨_,_,_,_,_,_,_,_⟩:=kc4 BK569
                go_wp2
                go_meet
                case rel => exact ⟨_,(decide (x26_6 < 4)),rf,H',⟨by have:=HK1.out; have:=HJ9.out; have:=HJ20.out; have:=HJ33.out; have:=HK5.out; have:=HK6.out; first | omega | exact Nat.le_refl _⟩,⟨sk HO_4⟩,⟨rk HO_6⟩,⟨kk BK569⟩,⟨bw HB⟩⟩⟩ : Nonempty G_)) :); w6_DocTells.bxo (G:=G_) (inferInstanceAs (Nonempty G_)))
               rw [if_neg c91] at H
               have c91b0:=Ze c91
               clear c91
               (first | rw [c91b0] | (simp only [Qbc,Qbg]; rw [c91b0]) | skip)
               have H':=Zz.k H
               clear H
               obtain ⟨_,_,_,_,_,_,_,_⟩:=kc4 BK569
               go_wp2
               go_meet
               case rel => exact ⟨_,(false),rf,H',⟨by have:=HK1.out; have:=HJ9.out; have:=HJ20.out; have:=HJ33.out; have:=HK5.out; have:=HK6.out; first | omega | exact Nat.le_refl _⟩,⟨sk HO_4⟩,⟨rk HO_6⟩,⟨kk BK569⟩,⟨bw HB⟩⟩
              case rest =>
               show (let G_ : Prop:=_; G_)
               intro G_
               exact (let_tmp i_ : Nonempty G_:=(((⟨by
               subst G_
               clear HC90
               obtain ⟨kq,x231_89,rfl,HA,HJ89,HO_4,HO_6,BK569,HB⟩:=hcut
               cases kq with
               | zero => exact absurd HA.out (by simp [w6_DocTells.j9])
               | succ kj89 =>
                have H:=HA.out
                clear HA
                simp only [w6_DocTells.j9] at H
                by_cases c94 : x231_89 = true; rotate_left
                ·replace c94:=Zf c94
                 subst c94
                 rw [if_neg nft] at H
                 obtain ⟨t645,A133,H⟩:=bE H
                 by_cases c134 : 0 <= x3_1; rotate_left
                 ·rw [if_neg c134] at H
                  exact absurd H (by simp)
                 show (let G_ : Prop:=_; G_)
                 intro G_
                 exact (let_tmp i_ : Nonempty G_:=(((⟨by
                 subst G_
                 rw [if_pos c134] at H
                 have c134b0:=Zd c134
                 clear c134
                 by_cases c135 : x3_1 < (l0_0.length : Int); rotate_left
                 ·rw [if_neg c135] at H
                  exact absurd H (by simp)
                 show (let G_ : Prop:=_; G_)
                 intro G_
                 exact (let_tmp i_ : Nonempty G_:=(((⟨by
                 subst G_
                 rw [if_pos c135] at H
                 have c135b0:=Zd c135
                 clear c135
                 obtain ⟨t647,A136,H⟩:=bE H
                 by_cases c137 : t647 = true; rotate_left
                 ·replace c137:=Zf c137
                  subst c137
                  rw [if_neg nft] at H
                  obtain rfl:=Zo H
                  obtain ⟨Ao142,co142,eo142⟩:=Kd.R_slice HO_6.out
                  subst eo142
                  go_wp2_with (first | ((with_reducible refine Qac (f:=37) rfl ?_); refine gl (some 278) Tryz.func37 #[.slice Ao142 t578.length co142] (h := ?_); (with_reducible refine (w0_Elems.calls kj89 (fun k_ => some k_ = (.slice Ao142 t578.length co142 : Value).ownBlock) (.slice Ao142 t578.length co142) t578 t645 w _ ?side1 ?side2 A133.out).mono ?_); (case side1 => repeat (first | (with_reducible first | exact HB.out | apply Qag | apply Qbf | apply Qae | refine Qbw ?_ GE569.out) | exact HB.out)); (case side2 => exact Kd.R_tight rfl HO_6.out); rintro e w143 ⟨rfl,hy0,hb,hkp⟩; refine ⟨_,rfl, ?_⟩; replace HO_4:=Zz.k (Kd.S_mono (ok':=fun k_ => some k_ ≠ (.slice Ao142 t578.length co142 : Value).ownBlock) (Kd.S_keptB (HO_4.out) hkp (fun k_ hk_ hs_ => (hk_) hs_)) (fun k_ hk_ => hk_.1)); replace BK569:=Zz.k (blk_kept (kk BK569) hkp (fun hs_ => (fun e_ => (Kd.R_ne HO_6.out BK569.out (by decide)) e_) hs_)); replace HO_6:=Zz.k (Kd.R_reok rfl hy0 (fun k_ e_ => HO_6.out.1 k_ e_)); replace HB:=Zz.k (hb); clear hb; clear hkp; clear hy0; obtain ⟨_,_,_,_,_,_,_,_⟩:=kc4 BK569; have p646 : 0 <= (x3_1 : Int):=od; have q646 : x3_1 < (l0_0.length : Int):=od; obtain ⟨ad646,A646_0,c646_0,e646,hx646_0,hl646_0,hi646_0⟩:=at_LOp HR0_0.out x3_1 p646 q646; obtain rfl : ad572 = ad646:=(by injection e646); replace hx646_0:=cl HB hx646_0; have HR646_0:=Zz.k hi646_0; have HC646_0:=Zz.k hl646_0; clear hi646_0 hl646_0; replace p646:=eq_true p646; replace q646:=eq_true q646) | ((with_reducible refine Qac (f:=17) rfl ?_); refine gl (some 285) Tryz.func17 #[.slice Ao26 t573.length co26, .slice A646_0 (Qde l0_0 x3_1).length c646_0] (h := ?_); (with_reducible refine (r0_EqOps.calls kj89 _ _ t573 _ _ (Qde l0_0 x3_1) false _ ?side1 ?side2 ?side3 ?side4 A136.out).mono ?_); (case side1 => exact cs HO_4); (case side2 => exact (Kd.S_reads' HO_4.out).2.1); (case side3 => exact cb HR646_0 HB); (case side4 => exact HC646_0.out); rintro e w145 ⟨rfl,hb⟩; refine ⟨_,rfl, ?_⟩; replace HO_4:=sb HO_4 hb; replace HO_6:=rb HO_6 hb; replace BK569:=bl BK569 hb; replace HB:=bs HB hb; clear hb))
                  go_ret
                  exact ⟨re,bw HB⟩
                 show (let G_ : Prop:=_; G_)
                 intro G_
                 exact (let_tmp i_ : Nonempty G_:=(((⟨by
                 subst G_
                 subst c137
                 rw [if_pos rfl] at H
                 have H':=Zz.k H
                 clear H
                 obtain ⟨Ao138,co138,eo138⟩:=Kd.R_slice HO_6.out
                 subst eo138
                 go_wp2_with (first | ((with_reducible refine Qac (f:=37) rfl ?_); refine gl (some 278) Tryz.func37 #[.slice Ao138 t578.length co138] (h := ?_); (with_reducible refine (w0_Elems.calls kj89 (fun k_ => some k_ = (.slice Ao138 t578.length co138 : Value).ownBlock) (.slice Ao138 t578.length co138) t578 t645 w _ ?side1 ?side2 A133.out).mono ?_); (case side1 => repeat (first | (with_reducible first | exact HB.out | apply Qag | apply Qbf | apply Qae | refine Qbw ?_ GE569.out) | exact HB.out)); (case side2 => exact Kd.R_tight rfl HO_6.out); rintro e w139 ⟨rfl,hy0,hb,hkp⟩; refine ⟨_,rfl, ?_⟩; replace HO_4:=Zz.k (Kd.S_mono (ok':=fun k_ => some k_ ≠ (.slice Ao138 t578.length co138 : Value).ownBlock) (Kd.S_keptB (HO_4.out) hkp (fun k_ hk_ hs_ => (hk_) hs_)) (fun k_ hk_ => hk_.1)); replace BK569:=Zz.k (blk_kept (kk BK569) hkp (fun hs_ => (fun e_ => (Kd.R_ne HO_6.out BK569.out (by decide)) e_) hs_)); replace HO_6:=Zz.k (Kd.R_reok rfl hy0 (fun k_ e_ => HO_6.out.1 k_ e_)); replace HB:=Zz.k (hb); clear hb; clear hkp; clear hy0; obtain ⟨_,_,_,_,_,_,_,_⟩:=kc4 BK569; have p646 : 0 <= (x3_1 : Int):=od; have q646 : x3_1 < (l0_0.length : Int):=od; obtain ⟨ad646,A646_0,c646_0,e646,hx646_0,hl646_0,hi646_0⟩:=at_LOp HR0_0.out x3_1 p646 q646; obtain rfl : ad572 = ad646:=(by injection e646); replace hx646_0:=cl HB hx646_0; have HR646_0:=Zz.k hi646_0; have HC646_0:=Zz.k hl646_0; clear hi646_0 hl646_0; replace p646:=eq_true p646; replace q646:=eq_true q646) | ((with_reducible refine Qac (f:=17) rfl ?_); refine gl (some 285) Tryz.func17 #[.slice Ao26 t573.length co26, .slice A646_0 (Qde l0_0 x3_1).length c646_0] (h := ?_); (with_reducible refine (r0_EqOps.calls kj89 _ _ t573 _ _ (Qde l0_0 x3_1) true _ ?side1 ?side2 ?side3 ?side4 A136.out).mono ?_); (case side1 => exact cs HO_4); (case side2 => exact (Kd.S_reads' HO_4.out).2.1); (case side3 => exact cb HR646_0 HB); (case side4 => exact HC646_0.out); rintro e w141 ⟨rfl,hb⟩; refine ⟨_,rfl, ?_⟩; replace HO_4:=sb HO_4 hb; replace HO_6:=rb HO_6 hb; replace BK569:=bl BK569 hb; replace HB:=bs HB hb; clear hb))
                 go_roundg kj89
                 case measure => have:=HK1.out; have:=HJ9.out; have:=HJ20.out; have:=HJ33.out; have:=HK5.out; have:=HK6.out; have:=HJ89.out; omega
                 case rel => exact ⟨(wrap64 (x3_1 + 1)),rf,H',⟨by have:=HK1.out; have:=HJ9.out; have:=HJ20.out; have:=HJ33.out; have:=HK5.out; have:=HK6.out; have:=HJ89.out; omega⟩,⟨kk BK569⟩,⟨bw HB⟩⟩⟩ : Nonempty G_)) :); w6_DocTells.bxo (G:=G_) (inferInstanceAs (Nonempty G_)))⟩ : Nonempty G_)) :); w6_DocTells.bxo (G:=G_) (inferInstanceAs (Nonempty G_)))⟩ : Nonempty G_)) :); w6_DocTells.bxo (G:=G_) (inferInstanceAs (Nonempty G_)))
                show (let G_ : Prop:=_; G_)
                intro G_
                exact (let_tmp i_ : Nonempty G_:=(((⟨by
                subst G_
                subst c94
                rw [if_pos rfl] at H
                by_cases c95 : 0 <= x26_6; rotate_left
                ·rw [if_neg c95] at H
                 exact absurd H (by simp)
                show (let G_ : Prop:=_; G_)
                intro G_
                exact (let_tmp i_ : Nonempty G_:=(((⟨by
                subst G_
                rw [if_pos c95] at H
                have c95b0:=Zd c95
                clear c95
                by_cases c96 : x26_6 < (l0_2.length : Int); rotate_left
                ·rw [if_neg c96] at H
                 exact absurd H (by simp)
                show (let G_ : Prop:=_; G_)
                intro G_
                exact (let_tmp i_ : Nonempty G_:=(((⟨by
                subst G_
                rw [if_pos c96] at H
                have c96b0:=Zd c96
                clear c96
                obtain ⟨⟨t622,t623,t624,t625,t626,t627,t628,t629,t632,t633,t634⟩,A97,H⟩:=bE H
                try dsimp only at H
                have HC98:=Zz.k H
                clear H
                obtain ⟨_,_,_,_,_,_,_,_⟩:=kc4 BK569
                have p621 : 0 <= (x26_6 : Int):=od
                have q621 : x26_6 < (l0_2.length : Int):=od
                obtain ⟨ad621,A621_7,c621_7,e621,hx621_0,hx621_1,hx621_2,hx621_3,hx621_4,hx621_5,hx621_6,hx621_7,hx621_8,hx621_9,hx621_10,hl621_7,hi621_7⟩:=Qby HR0_2.out x26_6 p621 q621
                cases e621
                replace hx621_0:=cl HB hx621_0
                replace hx621_1:=cl HB hx621_1
                replace hx621_2:=cl HB hx621_2
                replace hx621_3:=cl HB hx621_3
                replace hx621_4:=cl HB hx621_4
                replace hx621_5:=cl HB hx621_5
                replace hx621_6:=cl HB hx621_6
                replace hx621_7:=cl HB hx621_7
                replace hx621_8:=cl HB hx621_8
                replace hx621_9:=cl HB hx621_9
                replace hx621_10:=cl HB hx621_10
                have HR621_7:=Zz.k hi621_7
                have HC621_7:=Zz.k hl621_7
                clear hi621_7 hl621_7
                replace p621:=eq_true p621
                replace q621:=eq_true q621
                go_upto_region 37 with (first | ((with_reducible refine Qac (f:=32) rfl ?_); refine gl (some 239) Tryz.func32 #[.agg #[.int .i64 ((Qad l0_2 x26_6).f0), .int .i64 ((Qad l0_2 x26_6).f1), .int .i64 ((Qad l0_2 x26_6).f2), .int .i64 ((Qad l0_2 x26_6).f3.f0), .int .i64 ((Qad l0_2 x26_6).f3.f1), .int .i64 ((Qad l0_2 x26_6).f3.f2), .string ((Qad l0_2 x26_6).f4), .slice A621_7 ((Qad l0_2 x26_6).f5).length c621_7, .int .i64 ((Qad l0_2 x26_6).f6), .int .i64 ((Qad l0_2 x26_6).f7), .int .i64 ((Qad l0_2 x26_6).f8)]] (h := ?_); (with_reducible refine (r0_CopyOp.calls kj89 ((Qad l0_2 x26_6).f0) ((Qad l0_2 x26_6).f1) ((Qad l0_2 x26_6).f2) ((Qad l0_2 x26_6).f3.f0) ((Qad l0_2 x26_6).f3.f1) ((Qad l0_2 x26_6).f3.f2) ((Qad l0_2 x26_6).f4) _ _ ((Qad l0_2 x26_6).f5) ((Qad l0_2 x26_6).f6) ((Qad l0_2 x26_6).f7) ((Qad l0_2 x26_6).f8) t622 t623 t624 t625 t626 t627 t628 t629 t632 t633 t634 _ ?side1 ?side2 A97.out).mono ?_); (case side1 => exact cb HR621_7 HB); (case side2 => exact HC621_7.out); rintro e w100 ⟨v630,rfl,ho0,hb⟩; refine ⟨_,rfl, ?_⟩; have HO631:=Zz.k (Kd.R_lower (Kd.R_new' ho0 (Kd.R_lt (rk HO_6))) (Qaj (bw HB))); replace HO_4:=Zz.k (Kd.S_elder' (sk HO_4) (Kd.R_base ho0) hb); replace HO_6:=Zz.k (Kd.R_elder' (rk HO_6) (Kd.R_base ho0) hb); replace BK569:=bl BK569 hb; replace HB:=bs HB hb; clear hb; clear ho0) | ((with_reducible refine Qaf (N:=27) rfl ?_); refine bx 27 #[.int .i64 0, .int .i64 0, .int .i64 0, .int .i64 0, .int .i64 0, .int .i64 0, .string (⟨#[]⟩ : ByteArray), .slice none 0 0, .int .i64 0, .int .i64 0, .int .i64 0] 64 (h := ?_); intro gb635 hg w101 hbox hb; have BK635:=Zz.k (hbox); have GW635:=bz HB hg; have GE635:=bz HB hg; have NB569_635:=bn BK569 hg; have NB635_569:=bm BK569 hg; replace HO_4:=Zz.k (Kd.S_below (Kd.S_elderB (sk HO_4) gb635 (Nat.le_of_eq hg.symm)) hb); replace HO_6:=rb HO_6 hb; replace HO631:=rb HO631 hb; replace BK569:=bl BK569 hb; replace HB:=bs HB hb; clear hb hbox hg; have hnb102:=NB635_569.out; have hnc102:=NB569_635.out; obtain ⟨_,_,_,_,_,_,_,_,_,_,_,_,_,_,_,_,_,_,_,_,_,_⟩:=kc11 BK635; obtain ⟨Ao104,co104,eo104⟩:=Kd.R_slice HO631.out; subst eo104))
                (try simp only [Act.put,List.setIfInBounds_toArray,List.set_cons_zero,List.set_cons_succ])
                go_cut [245] (fun v245 wc => ∃ (kq : Nat) (x245_97 : Bool),v245 = .bool x245_97 /\ Zz (w6_DocTells.j10 kq x3_1 t573 t577 t578 x26_6 x245_97 l0_0 l0_1 l0_2 l0_3 t622 t623 t624 t625 t626 t627 t628 t629 t632 t633 t634 = some r) /\ Zz (kq <= kj89) /\ Zz (Kd.S kOp 64 wc w.heap.size (fun k_ => some k_ ≠ (v580 : Value).ownBlock /\ some k_ ≠ ((.slice Ao104 t629.length co104) : Value).ownBlock /\ k_ ≠ gb635) (.slice Ao26 t573.length co26) t573) /\ Zz (Kd.R Qao 32 wc w.heap.size (fun k_ => some k_ ≠ ((.slice Ao104 t629.length co104) : Value).ownBlock) v580 t578) /\ Zz (Kd.R Qao 32 wc w.heap.size (fun k_ => some k_ ≠ (v580 : Value).ownBlock) (.slice Ao104 t629.length co104) t629) /\ Zz (wc.heap[gb569]? = some (.cells #[(.slice (some ad572) l0_0.length c0_0),(.slice A0_1 l0_1.length c0_1),(.slice (some ad621) l0_2.length c0_2),(.slice A0_3 l0_3.length c0_3)] 27 (0,0))) /\ Zz (wc.heap[gb635]? = some (.cells #[.int .i64 t622, .int .i64 t623, .int .i64 t624, .int .i64 t625, .int .i64 t626, .int .i64 t627, .string t628,(.slice Ao104 t629.length co104), .int .i64 t632, .int .i64 t633, .int .i64 t634] 64 (0,0))) /\ Zz (Below w.heap.size w wc))
                case first =>
                 have H:=HC98.out
                 clear HC98
                 by_cases c105 : t577 = true
                 ·show (let G_ : Prop:=_; G_)
                  intro G_
                  exact (let_tmp i_ : Nonempty G_:=(((⟨by
                  subst G_
                  subst c105
                  rw [if_pos rfl] at H
                  have H':=Zz.k H
                  clear H
                  go_wp2
                  go_meet
                  case rel => exact ⟨_,(((Int.tmod x26_6 2) == 0)),rf,H',⟨by have:=HK1.out; have:=HJ9.out; have:=HJ20.out; have:=HJ33.out; have:=HK5.out; have:=HK6.out; have:=HJ89.out; first | omega | exact Nat.le_refl _⟩,⟨by (with_reducible repeat (first | apply Kd.S_alloc | apply Kd.S_drewN | apply Kd.S_drew)); exact Kd.S_mono (sf11 (Kd.S_mono HO_4.out (fun k_ hk => (⟨hk,hk.2⟩ : _ /\ k_ ≠ gb635)))) (fun _ hk => ⟨hk.1.1.1,⟨hk.1.1.2,hk.1.2⟩⟩)⟩,⟨by (with_reducible repeat (first | apply Kd.R_alloc | apply Kd.R_drewN | apply Kd.R_drew)); exact Kd.R_mono (rf11 (Kd.R_types HO_6.out BK635.out (by decide))) (fun _ hk => hk.1.2)⟩,⟨by (with_reducible repeat (first | apply Kd.R_alloc | apply Kd.R_drewN | apply Kd.R_drew)); exact Kd.R_mono (rf11 (Kd.R_types HO631.out BK635.out (by decide))) (fun _ hk => hk.1.2)⟩,⟨kk BK569⟩,⟨bp11 (kk BK635)⟩,⟨bw HB⟩⟩⟩ : Nonempty G_)) :); w6_DocTells.bxo (G:=G_) (inferInstanceAs (Nonempty G_)))
                 replace c105:=Zf c105
                 subst c105
                 rw [if_neg nft] at H
                 have H':=Zz.k H
                 clear H
                 go_wp2
                 go_meet
                 case rel => exact ⟨_,(false),rf,H',⟨by have:=HK1.out; have:=HJ9.out; have:=HJ20.out; have:=HJ33.out; have:=HK5.out; have:=HK6.out; have:=HJ89.out; first | omega | exact Nat.le_refl _⟩,⟨by (with_reducible repeat (first | apply Kd.S_alloc | apply Kd.S_drewN | apply Kd.S_drew)); exact Kd.S_mono (sf11 (Kd.S_mono HO_4.out (fun k_ hk => (⟨hk,hk.2⟩ : _ /\ k_ ≠ gb635)))) (fun _ hk => ⟨hk.1.1.1,⟨hk.1.1.2,hk.1.2⟩⟩)⟩,⟨by (with_reducible repeat (first | apply Kd.R_alloc | apply Kd.R_drewN | apply Kd.R_drew)); exact Kd.R_mono (rf11 (Kd.R_types HO_6.out BK635.out (by decide))) (fun _ hk => hk.1.2)⟩,⟨by (with_reducible repeat (first | apply Kd.R_alloc | apply Kd.R_drewN | apply Kd.R_drew)); exact Kd.R_mono (rf11 (Kd.R_types HO631.out BK635.out (by decide))) (fun _ hk => hk.1.2)⟩,⟨kk BK569⟩,⟨bp11 (kk BK635)⟩,⟨bw HB⟩⟩
                case rest =>
                 show (let G_ : Prop:=_; G_)
                 intro G_
                 exact (let_tmp i_ : Nonempty G_:=(((⟨by
                 subst G_
                 clear HC98
                 try clear c94; try clear c95b0; try clear c96b0; try clear hx621_0; try clear hx621_1; try clear hx621_10; try clear hx621_2; try clear hx621_3; try clear hx621_4; try clear hx621_5; try clear hx621_6; try clear hx621_7; try clear hx621_8; try clear hx621_9; try clear p621; try clear q621
                 obtain ⟨kq,x245_97,rfl,HA,HJ97,HO_4,HO_6,HO_636007,BK569,BK635,HB⟩:=hcut
                 cases kq with
                 | zero => exact absurd HA.out (by simp [w6_DocTells.j10])
                 | succ kj97 =>
                  have H:=HA.out
                  clear HA
                  simp only [w6_DocTells.j10] at H
                  have HC106:=Zz.k H
                  clear H
                  go_upto_if 245 with (fail)
                  go_cut [] (fun wc => ∃ (kq : Nat) (x636001_105 : Int),Zz (w6_DocTells.j11 kq x3_1 t573 t577 t578 x26_6 l0_0 l0_1 l0_2 l0_3 t622 x636001_105 t624 t625 t626 t627 t628 t629 t632 t633 t634 = some r) /\ Zz (kq <= kj97) /\ Zz (Kd.S kOp 64 wc w.heap.size (fun k_ => some k_ ≠ (v580 : Value).ownBlock /\ some k_ ≠ ((.slice Ao104 t629.length co104) : Value).ownBlock /\ k_ ≠ gb635) (.slice Ao26 t573.length co26) t573) /\ Zz (Kd.R Qao 32 wc w.heap.size (fun k_ => some k_ ≠ ((.slice Ao104 t629.length co104) : Value).ownBlock) v580 t578) /\ Zz (Kd.R Qao 32 wc w.heap.size (fun k_ => some k_ ≠ (v580 : Value).ownBlock) (.slice Ao104 t629.length co104) t629) /\ Zz (wc.heap[gb569]? = some (.cells #[(.slice (some ad572) l0_0.length c0_0),(.slice A0_1 l0_1.length c0_1),(.slice (some ad621) l0_2.length c0_2),(.slice A0_3 l0_3.length c0_3)] 27 (0,0))) /\ Zz (wc.heap[gb635]? = some (.cells #[.int .i64 t622, .int .i64 x636001_105, .int .i64 t624, .int .i64 t625, .int .i64 t626, .int .i64 t627, .string t628,(.slice Ao104 t629.length co104), .int .i64 t632, .int .i64 t633, .int .i64 t634] 64 (0,0))) /\ Zz (Below w.heap.size w wc))
                  case first =>
                   have H:=HC106.out
                   clear HC106
                   by_cases c107 : x245_97 = true; rotate_left
                   ·replace c107:=Zf c107
                    subst c107
                    rw [if_neg nft] at H
                    have H':=Zz.k H
                    clear H
                    go_wp2
                    go_meet
                    case rel => exact ⟨_,(t623),H',⟨by have:=HK1.out; have:=HJ9.out; have:=HJ20.out; have:=HJ33.out; have:=HK5.out; have:=HK6.out; have:=HJ89.out; have:=HJ97.out; first | omega | exact Nat.le_refl _⟩,⟨sk HO_4⟩,⟨rk HO_6⟩,⟨rk HO_636007⟩,⟨kk BK569⟩,⟨kk BK635⟩,⟨bw HB⟩⟩
                   show (let G_ : Prop:=_; G_)
                   intro G_
                   exact (let_tmp i_ : Nonempty G_:=(((⟨by
                   subst G_
                   subst c107
                   rw [if_pos rfl] at H
                   obtain ⟨t636,A108,H⟩:=bE H
                   have H':=Zz.k H
                   clear H
                   have hnb109:=NB635_569.out
                   have hnc109:=NB569_635.out
                   obtain ⟨_,_,_,_,_,_,_,_,_,_,_,_,_,_,_,_,_,_,_,_,_,_⟩:=kc11 BK635
                   go_wp2_with (first | ((with_reducible refine Qac (f:=33) rfl ?_); refine gl (some 249) Tryz.func33 #[.slice Ao26 t573.length co26, .int .i64 t622] (h := ?_); (with_reducible refine (r4_Many.calls kj97 _ _ t573 t622 t636 _ ?side1 ?side2 A108.out).mono ?_); (case side1 => exact cs HO_4); (case side2 => exact (Kd.S_reads' HO_4.out).2.1); rintro e w' ⟨rfl,⟨nd,rfl⟩⟩; refine ⟨_,rfl, ?_⟩; (try (rw [drewN_self wc]; generalize hq_ : World.drewN wc _ = wc; have n0_ : Zz (Kd.S kOp 64 wc w.heap.size (fun k_ => some k_ ≠ (v580 : Value).ownBlock /\ some k_ ≠ (.slice Ao104 t629.length co104 : Value).ownBlock /\ k_ ≠ gb635) (.slice Ao26 t573.length co26) t573):=⟨by rw [<- hq_]; exact (sk HO_4)⟩; have n1_ : Zz (Kd.R Qao 32 wc w.heap.size (fun k_ => some k_ ≠ (.slice Ao104 t629.length co104 : Value).ownBlock) v580 t578):=⟨by rw [<- hq_]; exact (rk HO_6)⟩; have n2_ : Zz (Kd.R Qao 32 wc w.heap.size (fun k_ => some k_ ≠ (v580 : Value).ownBlock) (.slice Ao104 t629.length co104) t629):=⟨by rw [<- hq_]; exact (rk HO_636007)⟩; have n3_ : Zz (wc.heap[gb569]? = some (.cells #[.slice (some ad572) l0_0.length c0_0, .slice A0_1 l0_1.length c0_1, .slice (some ad621) l0_2.length c0_2, .slice A0_3 l0_3.length c0_3] 27 (0,0))):=⟨by rw [<- hq_]; exact (kk BK569)⟩; have n4_ : Zz (wc.heap[gb635]? = some (.cells #[.int .i64 t622, .int .i64 t623, .int .i64 t624, .int .i64 t625, .int .i64 t626, .int .i64 t627, .string t628, .slice Ao104 t629.length co104, .int .i64 t632, .int .i64 t633, .int .i64 t634] 64 (0,0))):=⟨by rw [<- hq_]; exact (kk BK635)⟩; have n5_ : Zz (Below w.heap.size w wc):=⟨by rw [<- hq_]; exact (bw HB)⟩; clear HO_4 HO_6 HO_636007 BK569 BK635 HB hq_; have HO_4:=n0_; have HO_6:=n1_; have HO_636007:=n2_; have BK569:=n3_; have BK635:=n4_; have HB:=n5_; clear n0_ n1_ n2_ n3_ n4_ n5_; obtain ⟨_,_,_,_,_,_,_,_,_,_,_,_,_,_,_,_,_,_,_,_,_,_⟩:=kc11 BK635))))
                   go_meet
                   case rel => exact ⟨_,(wrap64 (t636 + 1)),H',⟨by have:=HK1.out; have:=HJ9.out; have:=HJ20.out; have:=HJ33.out; have:=HK5.out; have:=HK6.out; have:=HJ89.out; have:=HJ97.out; first | omega | exact Nat.le_refl _⟩,⟨by (with_reducible repeat (first | apply Kd.S_alloc | apply Kd.S_drewN | apply Kd.S_drew)); exact Kd.S_mono (Kd.S_far (p:=⟨gb635,1,none⟩) (Kd.S_mono HO_4.out (fun k_ hk => (⟨hk,hk.2.2⟩ : _ /\ k_ ≠ gb635))) (fun _ hk => hk.2) (.int .i64 (wrap64 (t636 + 1)))) (fun _ hk => ⟨hk.1.1,⟨hk.1.2.1,hk.1.2.2⟩⟩)⟩,⟨by (with_reducible repeat (first | apply Kd.R_alloc | apply Kd.R_drewN | apply Kd.R_drew)); exact Kd.R_mono (Kd.R_far (p:=⟨gb635,1,none⟩) (Kd.R_types HO_6.out BK635.out (by decide)) (fun _ hk => hk.2) (.int .i64 (wrap64 (t636 + 1)))) (fun _ hk => hk.1)⟩,⟨by (with_reducible repeat (first | apply Kd.R_alloc | apply Kd.R_drewN | apply Kd.R_drew)); exact Kd.R_mono (Kd.R_far (p:=⟨gb635,1,none⟩) (Kd.R_types HO_636007.out BK635.out (by decide)) (fun _ hk => hk.2) (.int .i64 (wrap64 (t636 + 1)))) (fun _ hk => hk.1)⟩,⟨kk BK569⟩,⟨bp (kk BK635) 1⟩,⟨bw HB⟩⟩⟩ : Nonempty G_)) :); w6_DocTells.bxo (G:=G_) (inferInstanceAs (Nonempty G_)))
                  case rest =>
                   show (let G_ : Prop:=_; G_)
                   intro G_
                   exact (let_tmp i_ : Nonempty G_:=(((⟨by
                   subst G_
                   clear HC106
                   obtain ⟨kq,x636001_105,HA,HJ105,HO_4,HO_6,HO_636007,BK569,BK635,HB⟩:=hcut
                   cases kq with
                   | zero => exact absurd HA.out (by simp [w6_DocTells.j11])
                   | succ kj105 =>
                    have H:=HA.out
                    clear HA
                    simp only [w6_DocTells.j11] at H
                    obtain ⟨⟨t637,t638⟩,A111,H⟩:=bE H
                    try dsimp only at H
                    have HC112:=Zz.k H
                    clear H
                    have hnb113:=NB635_569.out
                    have hnc113:=NB569_635.out
                    obtain ⟨_,_,_,_,_,_,_,_,_,_,_,_,_,_,_,_,_,_,_,_,_,_⟩:=kc11 BK635
                    go_upto_region 41 with (first | ((with_reducible refine Qac (f:=34) rfl ?_); refine gl (some 255) Tryz.func34 #[.slice Ao26 t573.length co26, .agg #[.int .i64 t622, .int .i64 x636001_105, .int .i64 t624, .int .i64 t625, .int .i64 t626, .int .i64 t627, .string t628, .slice Ao104 t629.length co104, .int .i64 t632, .int .i64 t633, .int .i64 t634]] (h := ?_); (with_reducible refine (doc_Idle.calls _ _ t573 t622 x636001_105 t624 t625 t626 t627 t628 _ _ t629 t632 t633 t634 t637 t638 _ ?side1 ?side2 ?side3 ?side4 A111.out).mono ?_); (case side1 => exact cs HO_4); (case side2 => exact (Kd.S_reads' HO_4.out).2.1); (case side3 => exact cr HO_636007); (case side4 => exact (Kd.R_reads' HO_636007.out).2.1); rintro e w115 ⟨rfl,hb⟩; refine ⟨_,rfl, ?_⟩; replace HO_4:=sb HO_4 hb; replace HO_6:=rb HO_6 hb; replace HO_636007:=rb HO_636007 hb; replace BK569:=bl BK569 hb; replace BK635:=bl BK635 hb; replace HB:=bs HB hb; clear hb))
                    (try simp only [Act.put,List.setIfInBounds_toArray,List.set_cons_zero,List.set_cons_succ])
                    go_cut [264] (fun v264 wc => ∃ (kq : Nat) (x264_111 : Bool),v264 = .bool x264_111 /\ Zz (w6_DocTells.j12 kq x3_1 t573 t577 t578 x26_6 t637 t638 1 false x264_111 l0_0 l0_1 l0_2 l0_3 t622 x636001_105 t624 t625 t626 t627 t628 t629 t632 t633 t634 = some r) /\ Zz (kq <= kj105) /\ Zz (Kd.S kOp 64 wc w.heap.size (fun k_ => some k_ ≠ (v580 : Value).ownBlock /\ some k_ ≠ ((.slice Ao104 t629.length co104) : Value).ownBlock /\ k_ ≠ gb635) (.slice Ao26 t573.length co26) t573) /\ Zz (Kd.R Qao 32 wc w.heap.size (fun k_ => some k_ ≠ ((.slice Ao104 t629.length co104) : Value).ownBlock) v580 t578) /\ Zz (Kd.R Qao 32 wc w.heap.size (fun k_ => some k_ ≠ (v580 : Value).ownBlock) (.slice Ao104 t629.length co104) t629) /\ Zz (wc.heap[gb569]? = some (.cells #[(.slice (some ad572) l0_0.length c0_0),(.slice A0_1 l0_1.length c0_1),(.slice (some ad621) l0_2.length c0_2),(.slice A0_3 l0_3.length c0_3)] 27 (0,0))) /\ Zz (wc.heap[gb635]? = some (.cells #[.int .i64 t622, .int .i64 x636001_105, .int .i64 t624, .int .i64 t625, .int .i64 t626, .int .i64 t627, .string t628,(.slice Ao104 t629.length co104), .int .i64 t632, .int .i64 t633, .int .i64 t634] 64 (0,0))) /\ Zz (Below w.heap.size w wc))
                    case first =>
                     have H:=HC112.out
                     clear HC112
                     by_cases c116 : t577 = true; rotate_left
                     ·replace c116:=Zf c116
                      subst c116
                      rw [if_neg nft] at H
                      have H':=Zz.k H
                      clear H
                      go_wp2
                      go_meet
                      case rel => exact ⟨_,(false),rf,H',⟨by have:=HK1.out; have:=HJ9.out; have:=HJ20.out; have:=HJ33.out; have:=HK5.out; have:=HK6.out; have:=HJ89.out; have:=HJ97.out; have:=HJ105.out; first | omega | exact Nat.le_refl _⟩,⟨sk HO_4⟩,⟨rk HO_6⟩,⟨rk HO_636007⟩,⟨kk BK569⟩,⟨kk BK635⟩,⟨bw HB⟩⟩
                     show (let G_ : Prop:=_; G_)
                     intro G_
                     exact (let_tmp i_ : Nonempty G_:=(((⟨by
                     subst G_
                     subst c116
                     rw [if_pos rfl] at H
                     obtain ⟨t639,A117,H⟩:=bE H
                     obtain ⟨t642,A118,H⟩:=bE H
                     have H':=Zz.k H
                     clear H
                     have hnb119:=NB635_569.out
                     have hnc119:=NB569_635.out
                     obtain ⟨_,_,_,_,_,_,_,_,_,_,_,_,_,_,_,_,_,_,_,_,_,_⟩:=kc11 BK635
                     go_wp2_with (first | (go_at_call 35; (with_reducible refine (r4_Behind.calls kj105 _ _ t573 t622 x636001_105 t624 t625 t626 t627 t628 _ _ t629 t632 t633 t634 t639 _ ?side1 ?side2 ?side3 ?side4 A117.out).mono ?_); (case side1 => exact cs HO_4); (case side2 => exact (Kd.S_reads' HO_4.out).2.1); (case side3 => exact cr HO_636007); (case side4 => exact (Kd.R_reads' HO_636007.out).2.1); rintro e w121 ⟨v640,rfl,ho0,hb⟩; have HO641:=Zz.k (Kd.S_lower (Kd.S_newB (Kd.S_new' (Kd.S_new' (Kd.S_new' ho0 (Kd.S_lt (sk HO_4))) (Kd.R_lt (rk HO_6))) (Kd.R_lt (rk HO_636007))) (kk BK635)) (Qaj (bw HB))); replace HO_4:=Zz.k (Kd.S_elder' (sk HO_4) (Kd.S_base ho0) hb); replace HO_6:=rb HO_6 hb; replace HO_636007:=rb HO_636007 hb; replace BK569:=bl BK569 hb; replace BK635:=bl BK635 hb; replace HB:=bs HB hb; clear hb; clear ho0; obtain ⟨Ao122,co122,eo122⟩:=Kd.S_slice HO641.out; subst eo122) | (go_at_call 7; (with_reducible refine (r4_Row.calls kj105 _ _ t639 t642 _ ?side1 ?side2 ?side3 A118.out).mono ?_); (case side1 => exact cs HO641); (case side2 => exact (Kd.S_reads' HO641.out).2.1); (case side3 => exact (hT.below (bw HB))); rintro e w123 ⟨rfl,hb⟩; replace HO_4:=sb HO_4 hb; replace HO_6:=rb HO_6 hb; replace HO_636007:=rb HO_636007 hb; replace HO641:=sb HO641 hb; replace BK569:=bl BK569 hb; replace BK635:=bl BK635 hb; replace HB:=bs HB hb; clear hb))
                     go_meet
                     case rel => exact ⟨_,(t642),rf,H',⟨by have:=HK1.out; have:=HJ9.out; have:=HJ20.out; have:=HJ33.out; have:=HK5.out; have:=HK6.out; have:=HJ89.out; have:=HJ97.out; have:=HJ105.out; first | omega | exact Nat.le_refl _⟩,⟨by (with_reducible repeat (first | apply Kd.S_alloc | apply Kd.S_drewN | apply Kd.S_drew)); exact Kd.S_mono HO_4.out (fun _ hk => ⟨hk.1.1,⟨hk.1.2.1,hk.1.2.2⟩⟩)⟩,⟨rk HO_6⟩,⟨rk HO_636007⟩,⟨kk BK569⟩,⟨kk BK635⟩,⟨bw HB⟩⟩⟩ : Nonempty G_)) :); w6_DocTells.bxo (G:=G_) (inferInstanceAs (Nonempty G_)))
                    case rest =>
                     show (let G_ : Prop:=_; G_)
                     intro G_
                     exact (let_tmp i_ : Nonempty G_:=(((⟨by
                     subst G_
                     clear HC112
                     obtain ⟨kq,x264_111,rfl,HA,HJ111,HO_4,HO_6,HO_636007,BK569,BK635,HB⟩:=hcut
                     cases kq with
                     | zero => exact absurd HA.out (by simp [w6_DocTells.j12])
                     | succ kj111 =>
                      have H:=HA.out
                      clear HA
                      simp only [w6_DocTells.j12] at H
                      have HC124:=Zz.k H
                      clear H
                      go_upto_if 264 with (fail)
                      go_cut [30,31] (fun v30 v31 wc => ∃ (kq : Nat) (x30_123 : Int) (x31_123 : Bool),v30 = .int .i64 x30_123 /\ v31 = .bool x31_123 /\ Zz (w6_DocTells.j13 kq x3_1 t573 t577 t578 x26_6 t637 t638 x30_123 x31_123 l0_0 l0_1 l0_2 l0_3 = some r) /\ Zz (kq <= kj111) /\ Zz (Kd.S kOp 64 wc w.heap.size (fun k_ => some k_ ≠ (v580 : Value).ownBlock /\ some k_ ≠ ((.slice Ao104 t629.length co104) : Value).ownBlock /\ k_ ≠ gb635) (.slice Ao26 t573.length co26) t573) /\ Zz (Kd.R Qao 32 wc w.heap.size (fun k_ => some k_ ≠ ((.slice Ao104 t629.length co104) : Value).ownBlock) v580 t578) /\ Zz (Kd.R Qao 32 wc w.heap.size (fun k_ => some k_ ≠ (v580 : Value).ownBlock) (.slice Ao104 t629.length co104) t629) /\ Zz (wc.heap[gb569]? = some (.cells #[(.slice (some ad572) l0_0.length c0_0),(.slice A0_1 l0_1.length c0_1),(.slice (some ad621) l0_2.length c0_2),(.slice A0_3 l0_3.length c0_3)] 27 (0,0))) /\ Zz (wc.heap[gb635]? = some (.cells #[.int .i64 t622, .int .i64 x636001_105, .int .i64 t624, .int .i64 t625, .int .i64 t626, .int .i64 t627, .string t628,(.slice Ao104 t629.length co104), .int .i64 t632, .int .i64 t633, .int .i64 t634] 64 (0,0))) /\ Zz (Below w.heap.size w wc))
                      case first =>
                       have H:=HC124.out
                       clear HC124
                       by_cases c125 : x264_111 = true; rotate_left
                       ·replace c125:=Zf c125
                        subst c125
                        rw [if_neg nft] at H
                        have H':=Zz.k H
                        clear H
                        go_wp2
                        go_meet
                        case rel => exact ⟨_,(1),(false),rf,rf,H',⟨by have:=HK1.out; have:=HJ9.out; have:=HJ20.out; have:=HJ33.out; have:=HK5.out; have:=HK6.out; have:=HJ89.out; have:=HJ97.out; have:=HJ105.out; have:=HJ111.out; first | omega | exact Nat.le_refl _⟩,⟨sk HO_4⟩,⟨rk HO_6⟩,⟨rk HO_636007⟩,⟨kk BK569⟩,⟨kk BK635⟩,⟨bw HB⟩⟩
                       show (let G_ : Prop:=_; G_)
                       intro G_
                       exact (let_tmp i_ : Nonempty G_:=(((⟨by
                       subst G_
                       subst c125
                       rw [if_pos rfl] at H
                       obtain ⟨t643,A126,H⟩:=bE H
                       have H':=Zz.k H
                       clear H
                       have hnb127:=NB635_569.out
                       have hnc127:=NB569_635.out
                       obtain ⟨_,_,_,_,_,_,_,_,_,_,_,_,_,_,_,_,_,_,_,_,_,_⟩:=kc11 BK635
                       go_wp2_with (first | ((with_reducible refine Qac (f:=36) rfl ?_); refine gl (some 267) Tryz.func36 #[.slice Ao26 t573.length co26, .agg #[.int .i64 t622, .int .i64 x636001_105, .int .i64 t624, .int .i64 t625, .int .i64 t626, .int .i64 t627, .string t628, .slice Ao104 t629.length co104, .int .i64 t632, .int .i64 t633, .int .i64 t634]] (h := ?_); (with_reducible refine (r4_Idle.calls kj111 _ _ t573 t622 x636001_105 t624 t625 t626 t627 t628 _ _ t629 t632 t633 t634 t643 _ ?side1 ?side2 ?side3 ?side4 A126.out).mono ?_); (case side1 => exact cs HO_4); (case side2 => exact (Kd.S_reads' HO_4.out).2.1); (case side3 => exact cr HO_636007); (case side4 => exact (Kd.R_reads' HO_636007.out).2.1); rintro e w129 ⟨rfl,hb⟩; refine ⟨_,rfl, ?_⟩; replace HO_4:=sb HO_4 hb; replace HO_6:=rb HO_6 hb; replace HO_636007:=rb HO_636007 hb; replace BK569:=bl BK569 hb; replace BK635:=bl BK635 hb; replace HB:=bs HB hb; clear hb))
                       go_meet
                       case rel => exact ⟨_,(0),(t643),rf,rf,H',⟨by have:=HK1.out; have:=HJ9.out; have:=HJ20.out; have:=HJ33.out; have:=HK5.out; have:=HK6.out; have:=HJ89.out; have:=HJ97.out; have:=HJ105.out; have:=HJ111.out; first | omega | exact Nat.le_refl _⟩,⟨sk HO_4⟩,⟨rk HO_6⟩,⟨rk HO_636007⟩,⟨kk BK569⟩,⟨kk BK635⟩,⟨bw HB⟩⟩⟩ : Nonempty G_)) :); w6_DocTells.bxo (G:=G_) (inferInstanceAs (Nonempty G_)))
                      case rest =>
                       show (let G_ : Prop:=_; G_)
                       intro G_
                       exact (let_tmp i_ : Nonempty G_:=(((⟨by
                       subst G_
                       clear HC124
                       obtain ⟨kq,x30_123,x31_123,rfl,rfl,HA,HJ123,HO_4,HO_6,HO_636007,BK569,BK635,HB⟩:=hcut
                       cases kq with
                       | zero => exact absurd HA.out (by simp [w6_DocTells.j13])
                       | succ kj123 =>
                        have H:=HA.out
                        clear HA
                        simp only [w6_DocTells.j13] at H
                        obtain ⟨t644,A130,H⟩:=bE H
                        by_cases c131 : t644 = x30_123; rotate_left
                        ·rw [if_neg c131] at H
                         obtain ⟨c131b0,c131b1⟩:=bF c131
                         obtain rfl:=Zo H
                         go_wp2_with (first | ((with_reducible refine Qac (f:=23) rfl ?_); refine gl (some 269) Tryz.func23 #[.int .i64 t638] (h := ?_); (with_reducible refine (w6_num.calls t638 t644 _ A130.out).mono ?_); rintro e w' ⟨rfl,⟨nd,rfl⟩⟩; refine ⟨_,rfl, ?_⟩))
                         go_ret
                         exact ⟨re,bw HB⟩
                        show (let G_ : Prop:=_; G_)
                        intro G_
                        exact (let_tmp i_ : Nonempty G_:=(((⟨by
                        subst G_
                        rw [if_pos c131] at H
                        obtain ⟨c131b0,c131b1⟩:=bT c131
                        clear c131
                        by_cases c132 : (t637 != x31_123) = true
                        ·show (let G_ : Prop:=_; G_)
                         intro G_
                         exact (let_tmp i_ : Nonempty G_:=(((⟨by
                         subst G_
                         rw [if_pos c132] at H
                         have c132b0 : (t637 != x31_123) = true:=c132
                         (try (have c132b1 : decide (t637 = x31_123) = false:=by simpa using c132))
                         (try (have c132b2 : (t637 == x31_123) = false:=by simpa using c132))
                         (try (have c132b3 : ¬ (t637 = x31_123):=by simpa using c132))
                         clear c132
                         obtain rfl:=Zo H
                         go_wp2_with (first | ((with_reducible refine Qac (f:=23) rfl ?_); refine gl (some 269) Tryz.func23 #[.int .i64 t638] (h := ?_); (with_reducible refine (w6_num.calls t638 t644 _ A130.out).mono ?_); rintro e w' ⟨rfl,⟨nd,rfl⟩⟩; refine ⟨_,rfl, ?_⟩))
                         go_ret
                         exact ⟨re,bw HB⟩⟩ : Nonempty G_)) :); w6_DocTells.bxo (G:=G_) (inferInstanceAs (Nonempty G_)))
                        rw [if_neg c132] at H
                        have c132b0 : (t637 != x31_123) = false:=by simpa using c132
                        (try (have c132b1 : decide (t637 = x31_123) = true:=by simpa using c132))
                        (try (have c132b2 : (t637 == x31_123) = true:=by simpa using c132))
                        clear c132
                        have H':=Zz.k H
                        clear H
                        go_wp2_with (first | ((with_reducible refine Qac (f:=23) rfl ?_); refine gl (some 269) Tryz.func23 #[.int .i64 t638] (h := ?_); (with_reducible refine (w6_num.calls t638 t644 _ A130.out).mono ?_); rintro e w' ⟨rfl,⟨nd,rfl⟩⟩; refine ⟨_,rfl, ?_⟩))
                        go_roundg kj123
                        case measure => have:=HK1.out; have:=HJ9.out; have:=HJ20.out; have:=HJ33.out; have:=HK5.out; have:=HK6.out; have:=HJ89.out; have:=HJ97.out; have:=HJ105.out; have:=HJ111.out; have:=HJ123.out; omega
                        case rel => exact ⟨(wrap64 (x26_6 + 1)),rf,H',⟨by have:=HK1.out; have:=HJ9.out; have:=HJ20.out; have:=HJ33.out; have:=HK5.out; have:=HK6.out; have:=HJ89.out; have:=HJ97.out; have:=HJ105.out; have:=HJ111.out; have:=HJ123.out; omega⟩,⟨by (with_reducible repeat (first | apply Kd.S_alloc | apply Kd.S_drewN | apply Kd.S_drew)); exact Kd.S_mono HO_4.out (fun _ hk => hk.1)⟩,⟨by (with_reducible repeat (first | apply Kd.R_alloc | apply Kd.R_drewN | apply Kd.R_drew)); exact Kd.R_mono HO_6.out (fun _ hk => trivial)⟩,⟨kk BK569⟩,⟨bw HB⟩⟩⟩ : Nonempty G_)) :); w6_DocTells.bxo (G:=G_) (inferInstanceAs (Nonempty G_)))⟩ : Nonempty G_)) :); w6_DocTells.bxo (G:=G_) (inferInstanceAs (Nonempty G_)))⟩ : Nonempty G_)) :); w6_DocTells.bxo (G:=G_) (inferInstanceAs (Nonempty G_)))⟩ : Nonempty G_)) :); w6_DocTells.bxo (G:=G_) (inferInstanceAs (Nonempty G_)))⟩ : Nonempty G_)) :); w6_DocTells.bxo (G:=G_) (inferInstanceAs (Nonempty G_)))⟩ : Nonempty G_)) :); w6_DocTells.bxo (G:=G_) (inferInstanceAs (Nonempty G_)))⟩ : Nonempty G_)) :); w6_DocTells.bxo (G:=G_) (inferInstanceAs (Nonempty G_)))⟩ : Nonempty G_)) :); w6_DocTells.bxo (G:=G_) (inferInstanceAs (Nonempty G_)))⟩ : Nonempty G_)) :); w6_DocTells.bxo (G:=G_) (inferInstanceAs (Nonempty G_)))⟩ : Nonempty G_)) :); w6_DocTells.bxo (G:=G_) (inferInstanceAs (Nonempty G_)))
           show (let G_ : Prop:=_; G_)
           intro G_
           exact (let_tmp i_ : Nonempty G_:=(((⟨by
           subst G_
           rw [if_pos c51] at H
           have c51b0:=Zd c51
           clear c51
           by_cases c52 : 0 <= x14_5; rotate_left
           ·rw [if_neg c52] at H
            exact absurd H (by simp)
           show (let G_ : Prop:=_; G_)
           intro G_
           exact (let_tmp i_ : Nonempty G_:=(((⟨by
           subst G_
           rw [if_pos c52] at H
           have c52b0:=Zd c52
           clear c52
           obtain ⟨⟨t596,t597⟩,A53,H⟩:=bE H
           try dsimp only at H
           obtain ⟨⟨t600,t601⟩,A54,H⟩:=bE H
           try dsimp only at H
           obtain ⟨⟨t603,t604⟩,A55,H⟩:=bE H
           try dsimp only at H
           have HC56:=Zz.k H
           clear H
           obtain ⟨Ao57,co57,eo57⟩:=Kd.R_slice HO_13.out
           subst eo57
           try go_wp2
           have n0_:=Zz.k (Kd.S_drew HO_4.out)
           have n1_:=Zz.k (Kd.R_drew HO_6.out)
           have n2_:=Zz.k (Kd.R_drew HO_13.out)
           have n3_:=Zz.k (Qal BK569.out)
           have n4_:=Zz.k (Qae HB.out)
           clear HO_4
           clear HO_6
           clear HO_13
           clear BK569
           clear HB
           have HO_4:=n0_
           have HO_6:=n1_
           have HO_13:=n2_
           have BK569:=n3_
           have HB:=n4_
           clear n0_ n1_ n2_ n3_ n4_
           have p594 : 0 <= (x14_5 : Int):=od
           have q594 : x14_5 < (t591.length : Int):=od
           obtain ⟨ad594,e594,hx594_0,hx594_1,hx594_2⟩:=Qat (Kd.R_reads' HO_13.out).2.2 x14_5 p594 q594
           cases e594
           replace p594:=eq_true p594
           replace q594:=eq_true q594
           have p595 : 0 <= (x14_5 : Int):=od
           have q595 : x14_5 < (t591.length : Int):=od
           obtain ⟨ad595,e595,hx595_0,hx595_1,hx595_2⟩:=Qat (Kd.R_reads' HO_13.out).2.2 x14_5 p595 q595
           obtain rfl : ad594 = ad595:=(by injection e595)
           replace p595:=eq_true p595
           replace q595:=eq_true q595
           refine stP (fun w' => w'.cell? (ad594.add ((x14_5).toNat * 3)) = some (.int .i64 ((Qaa t591 x14_5).f0)) /\ w'.cell? ⟨(ad594.add ((x14_5).toNat * 3)).block,(ad594.add ((x14_5).toNat * 3)).off + 1,none⟩ = some (.int .i64 ((Qaa t591 x14_5).f1)) /\ w'.cell? ⟨(ad594.add ((x14_5).toNat * 3)).block,(ad594.add ((x14_5).toNat * 3)).off + 2,none⟩ = some (.int .i64 ((Qaa t591 x14_5).f2)) /\ w'.cell? (ad594.add ((x14_5).toNat * 3)) = some (.int .i64 ((Qaa t591 x14_5).f0)) /\ w'.cell? ⟨(ad594.add ((x14_5).toNat * 3)).block,(ad594.add ((x14_5).toNat * 3)).off + 1,none⟩ = some (.int .i64 ((Qaa t591 x14_5).f1)) /\ w'.cell? ⟨(ad594.add ((x14_5).toNat * 3)).block,(ad594.add ((x14_5).toNat * 3)).off + 2,none⟩ = some (.int .i64 ((Qaa t591 x14_5).f2))) 17 ⟨hx594_0,hx594_1,hx594_2,hx595_0,hx595_1,hx595_2⟩ (h:=fun hHeld => ?_); refine Qap w6_DocTells.tab20 w6_DocTells.bits20 (fun HT_ HW_ => ?_)
           generalize wr.drew = w58 at HO_4 HO_6 HO_13 BK569 HB hx594_0 hx594_1 hx594_2 hx595_0 hx595_1 hx595_2 hHeld ⊢
           refine pu HT_ 0 103 1 (h := ?_)
           refine pu HT_ 1 104 3 (h := ?_)
           refine pu HT_ 2 105 7 (h := ?_)
           refine pu HT_ 3 106 15 (h := ?_)
           refine pu HT_ 4 107 31 (h := ?_)
           refine pu HT_ 6 109 95 (h := ?_)
           refine pu HT_ 7 110 223 (h := ?_)
           refine pu HT_ 8 111 479 (h := ?_)
           refine pu HT_ 9 112 991 (h := ?_)
           refine tk HT_ HW_ hHeld 5 108 1023 (h := ?_)
           refine tk HT_ HW_ hHeld 10 113 2047 (h := ?_)
           refine on HT_ 11 (some 114) 4095 (h:=fun K hK => ?_)
           refine gS Tryz.func25 #[.slice Ao26 t573.length co26, .int .i64 ((Qaa t591 x14_5).f0), .int .i64 ((Qaa t591 x14_5).f1)] (h := ?_)
           with_reducible refine (doc_Count.calls k5 _ _ t573 ((Qaa t591 x14_5).f0) ((Qaa t591 x14_5).f1) t596 t597 _ ?side1 ?side2 A53.out).mono ?_
           (case side1 => exact cs HO_4)
           (case side2 => exact (Kd.S_reads' HO_4.out).2.1)
           rintro e w59 ⟨rfl,hb⟩
           have HS0_:=(hb.cell (World.block_lt_of_cell? _ _ (hHeld.1))).trans (hHeld.1)
           have HS1_:=(hb.cell (World.block_lt_of_cell? _ _ (hHeld.2.1))).trans (hHeld.2.1)
           have HS2_:=(hb.cell (World.block_lt_of_cell? _ _ (hHeld.2.2.1))).trans (hHeld.2.2.1)
           have HS3_:=(hb.cell (World.block_lt_of_cell? _ _ (hHeld.2.2.2.1))).trans (hHeld.2.2.2.1)
           have HS4_:=(hb.cell (World.block_lt_of_cell? _ _ (hHeld.2.2.2.2.1))).trans (hHeld.2.2.2.2.1)
           have HS5_:=(hb.cell (World.block_lt_of_cell? _ _ (hHeld.2.2.2.2.2))).trans (hHeld.2.2.2.2.2)
           refine ⟨_,rfl, ?_⟩
           have n0_:=sb HO_4 hb
           have n1_:=rb HO_6 hb
           have n2_:=rb HO_13 hb
           have n3_:=bl BK569 hb
           have n4_:=bs HB hb
           clear HO_4
           clear HO_6
           clear HO_13
           clear BK569
           clear HB
           have HO_4:=n0_
           have HO_6:=n1_
           have HO_13:=n2_
           have BK569:=n3_
           have HB:=n4_
           clear n0_ n1_ n2_ n3_ n4_
           (try clear hb)
           (try clear hb2)
           (try clear hk)
           (try clear hi)
           refine hK.out _ _ ⟨HS0_,HS1_,HS2_,HS3_,HS4_,HS5_⟩ (fun hHeld => ?_)
           clear hK K
           refine nn 114 (h := ?_)
           refine pu HT_ 12 102 8191 (h := ?_)
           refine pu HT_ 13 115 16383 (h := ?_)
           refine pu HT_ 14 116 32767 (h := ?_)
           refine pu HT_ 15 15 65535 (h := ?_)
           refine pu HT_ 16 16 131071 (h := ?_)
           refine dn HT_ (h := ?_)
           try go_wp2
           have n0_:=Zz.k (Kd.S_drew HO_4.out)
           have n1_:=Zz.k (Kd.R_drew HO_6.out)
           have n2_:=Zz.k (Kd.R_drew HO_13.out)
           have n3_:=Zz.k (Qal BK569.out)
           have n4_:=Zz.k (Qae HB.out)
           clear HO_4
           clear HO_6
           clear HO_13
           clear BK569
           clear HB
           have HO_4:=n0_
           have HO_6:=n1_
           have HO_13:=n2_
           have BK569:=n3_
           have HB:=n4_
           clear n0_ n1_ n2_ n3_ n4_
           have p598 : 0 <= (x14_5 : Int):=od
           have q598 : x14_5 < (t591.length : Int):=od
           obtain ⟨ad598,e598,hx598_0,hx598_1,hx598_2⟩:=Qat (Kd.R_reads' HO_13.out).2.2 x14_5 p598 q598
           obtain rfl : ad594 = ad598:=(by injection e598)
           replace p598:=eq_true p598
           replace q598:=eq_true q598
           have p599 : 0 <= (x14_5 : Int):=od
           have q599 : x14_5 < (t591.length : Int):=od
           obtain ⟨ad599,e599,hx599_0,hx599_1,hx599_2⟩:=Qat (Kd.R_reads' HO_13.out).2.2 x14_5 p599 q599
           obtain rfl : ad594 = ad599:=(by injection e599)
           replace p599:=eq_true p599
           replace q599:=eq_true q599
           refine stP (fun w' => w'.cell? (ad594.add ((x14_5).toNat * 3)) = some (.int .i64 ((Qaa t591 x14_5).f0)) /\ w'.cell? ⟨(ad594.add ((x14_5).toNat * 3)).block,(ad594.add ((x14_5).toNat * 3)).off + 1,none⟩ = some (.int .i64 ((Qaa t591 x14_5).f1)) /\ w'.cell? ⟨(ad594.add ((x14_5).toNat * 3)).block,(ad594.add ((x14_5).toNat * 3)).off + 2,none⟩ = some (.int .i64 ((Qaa t591 x14_5).f2)) /\ w'.cell? (ad594.add ((x14_5).toNat * 3)) = some (.int .i64 ((Qaa t591 x14_5).f0)) /\ w'.cell? ⟨(ad594.add ((x14_5).toNat * 3)).block,(ad594.add ((x14_5).toNat * 3)).off + 1,none⟩ = some (.int .i64 ((Qaa t591 x14_5).f1)) /\ w'.cell? ⟨(ad594.add ((x14_5).toNat * 3)).block,(ad594.add ((x14_5).toNat * 3)).off + 2,none⟩ = some (.int .i64 ((Qaa t591 x14_5).f2))) 17 ⟨hx598_0,hx598_1,hx598_2,hx599_0,hx599_1,hx599_2⟩ (h:=fun hHeld => ?_); refine Qap w6_DocTells.tab21 w6_DocTells.bits21 (fun HT_ HW_ => ?_)
           generalize w59.drew = w60 at HO_4 HO_6 HO_13 BK569 HB hx598_0 hx598_1 hx598_2 hx599_0 hx599_1 hx599_2 hHeld ⊢
           refine pu HT_ 0 118 1 (h := ?_)
           refine pu HT_ 1 119 3 (h := ?_)
           refine pu HT_ 2 120 7 (h := ?_)
           refine pu HT_ 3 121 15 (h := ?_)
           refine pu HT_ 4 122 31 (h := ?_)
           refine pu HT_ 6 124 95 (h := ?_)
           refine pu HT_ 7 125 223 (h := ?_)
           refine pu HT_ 8 126 479 (h := ?_)
           refine pu HT_ 9 127 991 (h := ?_)
           refine tk HT_ HW_ hHeld 5 123 1023 (h := ?_)
           refine tk HT_ HW_ hHeld 10 128 2047 (h := ?_)
           refine on HT_ 11 (some 129) 4095 (h:=fun K hK => ?_)
           refine gS Tryz.func26 #[.slice Ao26 t573.length co26, .int .i64 ((Qaa t591 x14_5).f0), .int .i64 ((Qaa t591 x14_5).f1)] (h := ?_)
           with_reducible refine (doc_Effective.calls k5 _ _ t573 ((Qaa t591 x14_5).f0) ((Qaa t591 x14_5).f1) t600 t601 _ ?side1 ?side2 A54.out).mono ?_
           (case side1 => exact cs HO_4)
           (case side2 => exact (Kd.S_reads' HO_4.out).2.1)
           rintro e w61 ⟨rfl,hb⟩
           have HS0_:=(hb.cell (World.block_lt_of_cell? _ _ (hHeld.1))).trans (hHeld.1)
           have HS1_:=(hb.cell (World.block_lt_of_cell? _ _ (hHeld.2.1))).trans (hHeld.2.1)
           have HS2_:=(hb.cell (World.block_lt_of_cell? _ _ (hHeld.2.2.1))).trans (hHeld.2.2.1)
           have HS3_:=(hb.cell (World.block_lt_of_cell? _ _ (hHeld.2.2.2.1))).trans (hHeld.2.2.2.1)
           have HS4_:=(hb.cell (World.block_lt_of_cell? _ _ (hHeld.2.2.2.2.1))).trans (hHeld.2.2.2.2.1)
           have HS5_:=(hb.cell (World.block_lt_of_cell? _ _ (hHeld.2.2.2.2.2))).trans (hHeld.2.2.2.2.2)
           refine ⟨_,rfl, ?_⟩
           have n0_:=sb HO_4 hb
           have n1_:=rb HO_6 hb
           have n2_:=rb HO_13 hb
           have n3_:=bl BK569 hb
           have n4_:=bs HB hb
           clear HO_4
           clear HO_6
           clear HO_13
           clear BK569
           clear HB
           have HO_4:=n0_
           have HO_6:=n1_
           have HO_13:=n2_
           have BK569:=n3_
           have HB:=n4_
           clear n0_ n1_ n2_ n3_ n4_
           (try clear hb)
           (try clear hb2)
           (try clear hk)
           (try clear hi)
           refine hK.out _ _ ⟨HS0_,HS1_,HS2_,HS3_,HS4_,HS5_⟩ (fun hHeld => ?_)
           clear hK K
           refine nn 129 (h := ?_)
           refine pu HT_ 12 117 8191 (h := ?_)
           refine pu HT_ 13 130 16383 (h := ?_)
           refine pu HT_ 14 131 32767 (h := ?_)
           refine pu HT_ 15 17 65535 (h := ?_)
           refine pu HT_ 16 18 131071 (h := ?_)
           refine dn HT_ (h := ?_)
           have p602 : 0 <= (x14_5 : Int):=od
           have q602 : x14_5 < (t591.length : Int):=od
           obtain ⟨ad602,e602,hx602_0,hx602_1,hx602_2⟩:=Qat (Kd.R_reads' HO_13.out).2.2 x14_5 p602 q602
           obtain rfl : ad594 = ad602:=(by injection e602)
           replace p602:=eq_true p602
           replace q602:=eq_true q602
           go_upto_if 143 with (first | ((with_reducible refine Qac (f:=27) rfl ?_); refine gl (some 138) Tryz.func27 #[.slice Ao26 t573.length co26, .agg #[.int .i64 ((Qaa t591 x14_5).f0), .int .i64 ((Qaa t591 x14_5).f1), .int .i64 ((Qaa t591 x14_5).f2)]] (h := ?_); (with_reducible refine (doc_Rune.calls _ _ t573 ((Qaa t591 x14_5).f0) ((Qaa t591 x14_5).f1) ((Qaa t591 x14_5).f2) t603 t604 _ ?side1 ?side2 A55.out).mono ?_); (case side1 => exact cs HO_4); (case side2 => exact (Kd.S_reads' HO_4.out).2.1); rintro e w62 ⟨rfl,hb⟩; refine ⟨_,rfl, ?_⟩; replace HO_4:=sb HO_4 hb; replace HO_6:=rb HO_6 hb; replace HO_13:=rb HO_13 hb; replace BK569:=bl BK569 hb; replace HB:=bs HB hb; clear hb))
           (try simp only [Act.put,List.setIfInBounds_toArray,List.set_cons_zero,List.set_cons_succ])
           go_cut [21,22,23,24,25] (fun v21 v22 v23 v24 v25 wc => ∃ (kq : Nat) (x21_55 : Int) (x22_55 : Int) (x23_55 : Int) (x24_55 : Bool) (x25_55 : Int),v21 = .int .i64 x21_55 /\ v22 = .int .i64 x22_55 /\ v23 = .int .i64 x23_55 /\ v24 = .bool x24_55 /\ v25 = .int .i32 x25_55 /\ Zz (w6_DocTells.j6 kq x3_1 t573 t577 t578 x10_20 t591 x14_5 t596 t597 t600 t601 t603 t604 x21_55 x22_55 x23_55 x24_55 x25_55 l0_0 l0_1 l0_2 l0_3 = some r) /\ Zz (kq <= k5) /\ Zz (Kd.S kOp 64 wc w.heap.size (fun k_ => some k_ ≠ (v580 : Value).ownBlock /\ some k_ ≠ ((.slice (some ad594) t591.length co57) : Value).ownBlock) (.slice Ao26 t573.length co26) t573) /\ Zz (Kd.R Qao 32 wc w.heap.size (fun k_ => some k_ ≠ ((.slice (some ad594) t591.length co57) : Value).ownBlock) v580 t578) /\ Zz (Kd.R Qao 32 wc w.heap.size (fun k_ => some k_ ≠ (v580 : Value).ownBlock) (.slice (some ad594) t591.length co57) t591) /\ Zz (wc.heap[gb569]? = some (.cells #[(.slice (some ad572) l0_0.length c0_0),(.slice A0_1 l0_1.length c0_1),(.slice A0_2 l0_2.length c0_2),(.slice A0_3 l0_3.length c0_3)] 27 (0,0))) /\ Zz (Below w.heap.size w wc))
           case first =>
            have H:=HC56.out
            clear HC56
            by_cases c63 : t577 = true; rotate_left
            ·replace c63:=Zf c63
             subst c63
             rw [if_neg nft] at H
             have H':=Zz.k H
             clear H
             go_wp2
             go_meet
             case rel => exact ⟨_,(x10_20),(x10_20),(0),(false),(0),rf,rf,rf,rf,rf,H',⟨by have:=HK1.out; have:=HJ9.out; have:=HJ20.out; have:=HJ33.out; have:=HK5.out; first | omega | exact Nat.le_refl _⟩,⟨sk HO_4⟩,⟨rk HO_6⟩,⟨rk HO_13⟩,⟨kk BK569⟩,⟨bw HB⟩⟩
            show (let G_ : Prop:=_; G_)
            intro G_
            exact (let_tmp i_ : Nonempty G_:=(((⟨by
            subst G_
            subst c63
            rw [if_pos rfl] at H
            obtain ⟨t607,A64,H⟩:=bE H
            have HC65:=Zz.k H
            clear H
            try go_wp2
            have n0_:=Zz.k (Kd.S_drew HO_4.out)
            have n1_:=Zz.k (Kd.R_drew HO_6.out)
            have n2_:=Zz.k (Kd.R_drew HO_13.out)
            have n3_:=Zz.k (Qal BK569.out)
            have n4_:=Zz.k (Qae HB.out)
            clear HO_4
            clear HO_6
            clear HO_13
            clear BK569
            clear HB
            have HO_4:=n0_
            have HO_6:=n1_
            have HO_13:=n2_
            have BK569:=n3_
            have HB:=n4_
            clear n0_ n1_ n2_ n3_ n4_
            have p605 : 0 <= (x14_5 : Int):=od
            have q605 : x14_5 < (t591.length : Int):=od
            obtain ⟨ad605,e605,hx605_0,hx605_1,hx605_2⟩:=Qat (Kd.R_reads' HO_13.out).2.2 x14_5 p605 q605
            obtain rfl : ad594 = ad605:=(by injection e605)
            replace p605:=eq_true p605
            replace q605:=eq_true q605
            have p606 : 0 <= (x14_5 : Int):=od
            have q606 : x14_5 < (t591.length : Int):=od
            obtain ⟨ad606,e606,hx606_0,hx606_1,hx606_2⟩:=Qat (Kd.R_reads' HO_13.out).2.2 x14_5 p606 q606
            obtain rfl : ad594 = ad606:=(by injection e606)
            replace p606:=eq_true p606
            replace q606:=eq_true q606
            refine stP (fun w' => w'.cell? (ad594.add ((x14_5).toNat * 3)) = some (.int .i64 ((Qaa t591 x14_5).f0)) /\ w'.cell? ⟨(ad594.add ((x14_5).toNat * 3)).block,(ad594.add ((x14_5).toNat * 3)).off + 1,none⟩ = some (.int .i64 ((Qaa t591 x14_5).f1)) /\ w'.cell? ⟨(ad594.add ((x14_5).toNat * 3)).block,(ad594.add ((x14_5).toNat * 3)).off + 2,none⟩ = some (.int .i64 ((Qaa t591 x14_5).f2)) /\ w'.cell? (ad594.add ((x14_5).toNat * 3)) = some (.int .i64 ((Qaa t591 x14_5).f0)) /\ w'.cell? ⟨(ad594.add ((x14_5).toNat * 3)).block,(ad594.add ((x14_5).toNat * 3)).off + 1,none⟩ = some (.int .i64 ((Qaa t591 x14_5).f1)) /\ w'.cell? ⟨(ad594.add ((x14_5).toNat * 3)).block,(ad594.add ((x14_5).toNat * 3)).off + 2,none⟩ = some (.int .i64 ((Qaa t591 x14_5).f2))) 12 ⟨hx605_0,hx605_1,hx605_2,hx606_0,hx606_1,hx606_2⟩ (h:=fun hHeld => ?_); refine Qap w6_DocTells.tab27 w6_DocTells.bits27 (fun HT_ HW_ => ?_)
            generalize w62.drew = w66 at HO_4 HO_6 HO_13 BK569 HB hx605_0 hx605_1 hx605_2 hx606_0 hx606_1 hx606_2 hHeld ⊢
            refine pu HT_ 0 144 1 (h := ?_)
            refine pu HT_ 1 145 3 (h := ?_)
            refine pu HT_ 2 146 7 (h := ?_)
            refine pu HT_ 3 147 15 (h := ?_)
            refine pu HT_ 4 148 31 (h := ?_)
            refine pu HT_ 6 150 95 (h := ?_)
            refine pu HT_ 7 151 223 (h := ?_)
            refine pu HT_ 8 152 479 (h := ?_)
            refine pu HT_ 9 153 991 (h := ?_)
            refine tk HT_ HW_ hHeld 5 149 1023 (h := ?_)
            refine tk HT_ HW_ hHeld 10 154 2047 (h := ?_)
            refine on HT_ 11 (some 155) 4095 (h:=fun K hK => ?_)
            refine gS Tryz.func28 #[.slice Ao26 t573.length co26, .int .i64 ((Qaa t591 x14_5).f0), .int .i64 ((Qaa t591 x14_5).f1)] (h := ?_)
            with_reducible refine (r4_Edit.calls k5 _ _ t573 ((Qaa t591 x14_5).f0) ((Qaa t591 x14_5).f1) t607 _ ?side1 ?side2 A64.out).mono ?_
            (case side1 => exact cs HO_4)
            (case side2 => exact (Kd.S_reads' HO_4.out).2.1)
            rintro e w' ⟨rfl,⟨nd,rfl⟩⟩
            refine ⟨_,rfl, ?_⟩
            refine hK.out _ _ ⟨hHeld.1,hHeld.2.1,hHeld.2.2.1,hHeld.2.2.2.1,hHeld.2.2.2.2.1,hHeld.2.2.2.2.2⟩ (fun hHeld => ?_)
            clear hK K
            refine nn 155 (h := ?_)
            refine dn HT_ (h := ?_)
            go_upto_if 155 with (fail)
            go_cut [21,23,24] (fun v21 v23 v24 wc => ∃ (kq : Nat) (x21_64 : Int) (x23_64 : Int) (x24_64 : Bool),v21 = .int .i64 x21_64 /\ v23 = .int .i64 x23_64 /\ v24 = .bool x24_64 /\ Zz (w6_DocTells.j5 kq x3_1 t573 true t578 x10_20 t591 x14_5 t596 t597 t600 t601 t603 t604 x21_64 3 x23_64 x24_64 0 l0_0 l0_1 l0_2 l0_3 = some r) /\ Zz (kq <= k5) /\ Zz (Kd.S kOp 64 wc w.heap.size (fun k_ => some k_ ≠ (v580 : Value).ownBlock /\ some k_ ≠ ((.slice (some ad594) t591.length co57) : Value).ownBlock) (.slice Ao26 t573.length co26) t573) /\ Zz (Kd.R Qao 32 wc w.heap.size (fun k_ => some k_ ≠ ((.slice (some ad594) t591.length co57) : Value).ownBlock) v580 t578) /\ Zz (Kd.R Qao 32 wc w.heap.size (fun k_ => some k_ ≠ (v580 : Value).ownBlock) (.slice (some ad594) t591.length co57) t591) /\ Zz (wc.heap[gb569]? = some (.cells #[(.slice (some ad572) l0_0.length c0_0),(.slice A0_1 l0_1.length c0_1),(.slice A0_2 l0_2.length c0_2),(.slice A0_3 l0_3.length c0_3)] 27 (0,0))) /\ Zz (Below w.heap.size w wc))
            case first =>
             have H:=HC65.out
             clear HC65
             by_cases c67 : t607 = true; rotate_left
             ·replace c67:=Zf c67
              subst c67
              rw [if_neg nft] at H
              have H':=Zz.k H
              clear H
              go_wp2
              go_meet
              case rel => exact ⟨_,(3),(0),(false),rf,rf,rf,H',⟨by have:=HK1.out; have:=HJ9.out; have:=HJ20.out; have:=HJ33.out; have:=HK5.out; first | omega | exact Nat.le_refl _⟩,⟨sk HO_4⟩,⟨rk HO_6⟩,⟨rk HO_13⟩,⟨kk BK569⟩,⟨bw HB⟩⟩
             show (let G_ : Prop:=_; G_)
             intro G_
             exact (let_tmp i_ : Nonempty G_:=(((⟨by
             subst G_
             subst c67
             rw [if_pos rfl] at H
             obtain ⟨t610,A68,H⟩:=bE H
             obtain ⟨t613,A69,H⟩:=bE H
             have H':=Zz.k H
             clear H
             try go_wp2
             have n0_:=Zz.k (Kd.S_drew (Kd.S_drewN HO_4.out nd))
             have n1_:=Zz.k (Kd.R_drew (Kd.R_drewN HO_6.out nd))
             have n2_:=Zz.k (Kd.R_drew (Kd.R_drewN HO_13.out nd))
             have n3_:=Zz.k (Qal (Qbn BK569.out nd))
             have n4_:=Zz.k (Qae (Qbf HB.out nd))
             clear HO_4
             clear HO_6
             clear HO_13
             clear BK569
             clear HB
             have HO_4:=n0_
             have HO_6:=n1_
             have HO_13:=n2_
             have BK569:=n3_
             have HB:=n4_
             clear n0_ n1_ n2_ n3_ n4_
             have p608 : 0 <= (x14_5 : Int):=od
             have q608 : x14_5 < (t591.length : Int):=od
             obtain ⟨ad608,e608,hx608_0,hx608_1,hx608_2⟩:=Qat (Kd.R_reads' HO_13.out).2.2 x14_5 p608 q608
             obtain rfl : ad594 = ad608:=(by injection e608)
             replace p608:=eq_true p608
             replace q608:=eq_true q608
             have p609 : 0 <= (x14_5 : Int):=od
             have q609 : x14_5 < (t591.length : Int):=od
             obtain ⟨ad609,e609,hx609_0,hx609_1,hx609_2⟩:=Qat (Kd.R_reads' HO_13.out).2.2 x14_5 p609 q609
             obtain rfl : ad594 = ad609:=(by injection e609)
             replace p609:=eq_true p609
             replace q609:=eq_true q609
             have p611 : 0 <= (x14_5 : Int):=od
             have q611 : x14_5 < (t591.length : Int):=od
             obtain ⟨ad611,e611,hx611_0,hx611_1,hx611_2⟩:=Qat (Kd.R_reads' HO_13.out).2.2 x14_5 p611 q611
             obtain rfl : ad594 = ad611:=(by injection e611)
             replace p611:=eq_true p611
             replace q611:=eq_true q611
             have p612 : 0 <= (x14_5 : Int):=od
             have q612 : x14_5 < (t591.length : Int):=od
             obtain ⟨ad612,e612,hx612_0,hx612_1,hx612_2⟩:=Qat (Kd.R_reads' HO_13.out).2.2 x14_5 p612 q612
             obtain rfl : ad594 = ad612:=(by injection e612)
             replace p612:=eq_true p612
             replace q612:=eq_true q612
             refine stP (fun w' => w'.cell? (ad594.add ((x14_5).toNat * 3)) = some (.int .i64 ((Qaa t591 x14_5).f0)) /\ w'.cell? ⟨(ad594.add ((x14_5).toNat * 3)).block,(ad594.add ((x14_5).toNat * 3)).off + 1,none⟩ = some (.int .i64 ((Qaa t591 x14_5).f1)) /\ w'.cell? ⟨(ad594.add ((x14_5).toNat * 3)).block,(ad594.add ((x14_5).toNat * 3)).off + 2,none⟩ = some (.int .i64 ((Qaa t591 x14_5).f2)) /\ w'.cell? (ad594.add ((x14_5).toNat * 3)) = some (.int .i64 ((Qaa t591 x14_5).f0)) /\ w'.cell? ⟨(ad594.add ((x14_5).toNat * 3)).block,(ad594.add ((x14_5).toNat * 3)).off + 1,none⟩ = some (.int .i64 ((Qaa t591 x14_5).f1)) /\ w'.cell? ⟨(ad594.add ((x14_5).toNat * 3)).block,(ad594.add ((x14_5).toNat * 3)).off + 2,none⟩ = some (.int .i64 ((Qaa t591 x14_5).f2)) /\ w'.cell? (ad594.add ((x14_5).toNat * 3)) = some (.int .i64 ((Qaa t591 x14_5).f0)) /\ w'.cell? ⟨(ad594.add ((x14_5).toNat * 3)).block,(ad594.add ((x14_5).toNat * 3)).off + 1,none⟩ = some (.int .i64 ((Qaa t591 x14_5).f1)) /\ w'.cell? ⟨(ad594.add ((x14_5).toNat * 3)).block,(ad594.add ((x14_5).toNat * 3)).off + 2,none⟩ = some (.int .i64 ((Qaa t591 x14_5).f2)) /\ w'.cell? (ad594.add ((x14_5).toNat * 3)) = some (.int .i64 ((Qaa t591 x14_5).f0)) /\ w'.cell? ⟨(ad594.add ((x14_5).toNat * 3)).block,(ad594.add ((x14_5).toNat * 3)).off + 1,none⟩ = some (.int .i64 ((Qaa t591 x14_5).f1)) /\ w'.cell? ⟨(ad594.add ((x14_5).toNat * 3)).block,(ad594.add ((x14_5).toNat * 3)).off + 2,none⟩ = some (.int .i64 ((Qaa t591 x14_5).f2))) 27 ⟨hx608_0,hx608_1,hx608_2,hx609_0,hx609_1,hx609_2,hx611_0,hx611_1,hx611_2,hx612_0,hx612_1,hx612_2⟩ (h:=fun hHeld => ?_); refine Qap w6_DocTells.tab28 w6_DocTells.bits28 (fun HT_ HW_ => ?_)
             generalize (World.drewN w66 nd).drew = w70 at HO_4 HO_6 HO_13 BK569 HB hx608_0 hx608_1 hx608_2 hx609_0 hx609_1 hx609_2 hx611_0 hx611_1 hx611_2 hx612_0 hx612_1 hx612_2 hHeld ⊢
             refine pu HT_ 0 156 1 (h := ?_)
             refine pu HT_ 1 157 3 (h := ?_)
             refine pu HT_ 2 158 7 (h := ?_)
             refine pu HT_ 3 159 15 (h := ?_)
             refine pu HT_ 4 160 31 (h := ?_)
             refine pu HT_ 6 162 95 (h := ?_)
             refine pu HT_ 7 163 223 (h := ?_)
             refine pu HT_ 8 164 479 (h := ?_)
             refine pu HT_ 9 165 991 (h := ?_)
             refine pu HT_ 12 168 5087 (h := ?_)
             refine pu HT_ 13 169 13279 (h := ?_)
             refine pu HT_ 14 170 29663 (h := ?_)
             refine pu HT_ 15 171 62431 (h := ?_)
             refine pu HT_ 16 172 127967 (h := ?_)
             refine pu HT_ 18 174 390111 (h := ?_)
             refine pu HT_ 19 175 914399 (h := ?_)
             refine pu HT_ 20 176 1962975 (h := ?_)
             refine pu HT_ 21 177 4060127 (h := ?_)
             refine tk HT_ HW_ hHeld 5 161 4060159 (h := ?_)
             refine tk HT_ HW_ hHeld 10 166 4061183 (h := ?_)
             refine tk HT_ HW_ hHeld 17 173 4192255 (h := ?_)
             refine tk HT_ HW_ hHeld 22 178 8386559 (h := ?_)
             refine on HT_ 11 (some 167) 8388607 (h:=fun K hK => ?_)
             refine gS Tryz.func29 #[.slice Ao26 t573.length co26, .int .i64 ((Qaa t591 x14_5).f0), .int .i64 ((Qaa t591 x14_5).f1)] (h := ?_)
             with_reducible refine (r4_Count.calls k5 _ _ t573 ((Qaa t591 x14_5).f0) ((Qaa t591 x14_5).f1) t610 _ ?side1 ?side2 A68.out).mono ?_
             (case side1 => exact cs HO_4)
             (case side2 => exact (Kd.S_reads' HO_4.out).2.1)
             rintro e w' ⟨rfl,⟨nd,rfl⟩⟩
             refine ⟨_,rfl, ?_⟩
             refine hK.out _ _ ⟨hHeld.1,hHeld.2.1,hHeld.2.2.1,hHeld.2.2.2.1,hHeld.2.2.2.2.1,hHeld.2.2.2.2.2.1,hHeld.2.2.2.2.2.2.1,hHeld.2.2.2.2.2.2.2.1,hHeld.2.2.2.2.2.2.2.2.1,hHeld.2.2.2.2.2.2.2.2.2.1,hHeld.2.2.2.2.2.2.2.2.2.2.1,hHeld.2.2.2.2.2.2.2.2.2.2.2⟩ (fun hHeld => ?_)
             clear hK K
             refine nn 167 (h := ?_)
             refine on HT_ 23 (some 179) 16777215 (h:=fun K hK => ?_)
             refine gS Tryz.func30 #[.slice Ao26 t573.length co26, .int .i64 ((Qaa t591 x14_5).f0), .int .i64 ((Qaa t591 x14_5).f1)] (h := ?_)
             with_reducible refine (r4_Effective.calls k5 _ _ t573 ((Qaa t591 x14_5).f0) ((Qaa t591 x14_5).f1) t613 _ ?side1 ?side2 A69.out).mono ?_
             (case side1 => exact cs HO_4)
             (case side2 => exact (Kd.S_reads' HO_4.out).2.1)
             rintro e w' ⟨rfl,⟨nd,rfl⟩⟩
             refine ⟨_,rfl, ?_⟩
             refine hK.out _ _ ⟨hHeld.1,hHeld.2.1,hHeld.2.2.1,hHeld.2.2.2.1,hHeld.2.2.2.2.1,hHeld.2.2.2.2.2.1,hHeld.2.2.2.2.2.2.1,hHeld.2.2.2.2.2.2.2.1,hHeld.2.2.2.2.2.2.2.2.1,hHeld.2.2.2.2.2.2.2.2.2.1,hHeld.2.2.2.2.2.2.2.2.2.2.1,hHeld.2.2.2.2.2.2.2.2.2.2.2⟩ (fun hHeld => ?_)
             clear hK K
             refine nn 179 (h := ?_)
             refine pu HT_ 24 21 33554431 (h := ?_)
             refine pu HT_ 25 23 67108863 (h := ?_)
             refine pu HT_ 26 24 134217727 (h := ?_)
             refine dn HT_ (h := ?_)
             try go_wp2
             go_meet
             case rel => exact ⟨_,(0),(t610),(t613),rf,rf,rf,H',⟨by have:=HK1.out; have:=HJ9.out; have:=HJ20.out; have:=HJ33.out; have:=HK5.out; first | omega | exact Nat.le_refl _⟩,⟨sk HO_4⟩,⟨rk HO_6⟩,⟨rk HO_13⟩,⟨kk BK569⟩,⟨bw HB⟩⟩⟩ : Nonempty G_)) :); w6_DocTells.bxo (G:=G_) (inferInstanceAs (Nonempty G_)))
            case rest =>
             show (let G_ : Prop:=_; G_)
             intro G_
             exact (let_tmp i_ : Nonempty G_:=(((⟨by
             subst G_
             clear HC65
             try clear c63; try clear hx602_0; try clear hx602_1; try clear hx602_2; try clear hx605_0; try clear hx605_1; try clear hx605_2; try clear hx606_0; try clear hx606_1; try clear hx606_2; try clear p602; try clear p605; try clear p606; try clear q602; try clear q605; try clear q606
             obtain ⟨kq,x21_64,x23_64,x24_64,rfl,rfl,rfl,HA,HJ64,HO_4,HO_6,HO_13,BK569,HB⟩:=hcut
             cases kq with
             | zero => exact absurd HA.out (by simp [w6_DocTells.j5])
             | succ kj64 =>
              have H:=HA.out
              clear HA
              simp only [w6_DocTells.j5] at H
              by_cases c71 : 0 <= x14_5; rotate_left
              ·rw [if_neg c71] at H
               exact absurd H (by simp)
              show (let G_ : Prop:=_; G_)
              intro G_
              exact (let_tmp i_ : Nonempty G_:=(((⟨by
              subst G_
              rw [if_pos c71] at H
              have c71b0:=Zd c71
              clear c71
              by_cases c72 : x14_5 < (t591.length : Int); rotate_left
              ·rw [if_neg c72] at H
               exact absurd H (by simp)
              show (let G_ : Prop:=_; G_)
              intro G_
              exact (let_tmp i_ : Nonempty G_:=(((⟨by
              subst G_
              rw [if_pos c72] at H
              have c72b0:=Zd c72
              clear c72
              obtain ⟨t615,A73,H⟩:=bE H
              by_cases c74 : t615 = true
              ·show (let G_ : Prop:=_; G_)
               intro G_
               exact (let_tmp i_ : Nonempty G_:=(((⟨by
               subst G_
               subst c74
               rw [if_pos rfl] at H
               obtain ⟨t617,A75,H⟩:=bE H
               have H':=Zz.k H
               clear H
               have p614 : 0 <= (x14_5 : Int):=od
               have q614 : x14_5 < (t591.length : Int):=od
               obtain ⟨ad614,e614,hx614_0,hx614_1,hx614_2⟩:=Qat (Kd.R_reads' HO_13.out).2.2 x14_5 p614 q614
               obtain rfl : ad594 = ad614:=(by injection e614)
               replace p614:=eq_true p614
               replace q614:=eq_true q614
               go_wp2_with (first | ((with_reducible refine Qac (f:=14) rfl ?_); refine gl (some 185) Tryz.func14 #[.slice Ao26 t573.length co26, .agg #[.int .i64 ((Qaa t591 x14_5).f0), .int .i64 ((Qaa t591 x14_5).f1), .int .i64 ((Qaa t591 x14_5).f2)]] (h := ?_); (with_reducible refine (r4_Written.calls kj64 _ _ t573 ((Qaa t591 x14_5).f0) ((Qaa t591 x14_5).f1) ((Qaa t591 x14_5).f2) true _ ?side1 ?side2 ?side3 A73.out).mono ?_); (case side1 => exact cs HO_4); (case side2 => exact (Kd.S_reads' HO_4.out).2.1); (case side3 => exact (hT.below (bw HB))); rintro e w76 ⟨rfl,hb⟩; refine ⟨_,rfl, ?_⟩; replace HO_4:=sb HO_4 hb; replace HO_6:=rb HO_6 hb; replace HO_13:=rb HO_13 hb; replace BK569:=bl BK569 hb; replace HB:=bs HB hb; clear hb; have p616 : 0 <= (x14_5 : Int):=od; have q616 : x14_5 < (t591.length : Int):=od; obtain ⟨ad616,e616,hx616_0,hx616_1,hx616_2⟩:=Qat (Kd.R_reads' HO_13.out).2.2 x14_5 p616 q616; obtain rfl : ad594 = ad616:=(by injection e616); replace p616:=eq_true p616; replace q616:=eq_true q616) | ((with_reducible refine Qac (f:=31) rfl ?_); refine gl (some 191) Tryz.func31 #[.slice Ao26 t573.length co26, .agg #[.int .i64 ((Qaa t591 x14_5).f0), .int .i64 ((Qaa t591 x14_5).f1), .int .i64 ((Qaa t591 x14_5).f2)]] (h := ?_); (with_reducible refine (r4_Rune.calls kj64 _ _ t573 ((Qaa t591 x14_5).f0) ((Qaa t591 x14_5).f1) ((Qaa t591 x14_5).f2) t617 _ ?side1 ?side2 ?side3 A75.out).mono ?_); (case side1 => exact cs HO_4); (case side2 => exact (Kd.S_reads' HO_4.out).2.1); (case side3 => exact (hT.below (bw HB))); rintro e w77 ⟨rfl,hb⟩; refine ⟨_,rfl, ?_⟩; replace HO_4:=sb HO_4 hb; replace HO_6:=rb HO_6 hb; replace HO_13:=rb HO_13 hb; replace BK569:=bl BK569 hb; replace HB:=bs HB hb; clear hb))
               go_meet
               case rel => exact ⟨_,(x21_64),(0),(x23_64),(x24_64),(t617),rf,rf,rf,rf,rf,H',⟨by have:=HK1.out; have:=HJ9.out; have:=HJ20.out; have:=HJ33.out; have:=HK5.out; have:=HJ64.out; first | omega | exact Nat.le_refl _⟩,⟨sk HO_4⟩,⟨rk HO_6⟩,⟨rk HO_13⟩,⟨kk BK569⟩,⟨bw HB⟩⟩⟩ : Nonempty G_)) :); w6_DocTells.bxo (G:=G_) (inferInstanceAs (Nonempty G_)))
              replace c74:=Zf c74
              subst c74
              rw [if_neg nft] at H
              have H':=Zz.k H
              clear H
              have p614 : 0 <= (x14_5 : Int):=od
              have q614 : x14_5 < (t591.length : Int):=od
              obtain ⟨ad614,e614,hx614_0,hx614_1,hx614_2⟩:=Qat (Kd.R_reads' HO_13.out).2.2 x14_5 p614 q614
              obtain rfl : ad594 = ad614:=(by injection e614)
              replace p614:=eq_true p614
              replace q614:=eq_true q614
              go_wp2_with (first | ((with_reducible refine Qac (f:=14) rfl ?_); refine gl (some 185) Tryz.func14 #[.slice Ao26 t573.length co26, .agg #[.int .i64 ((Qaa t591 x14_5).f0), .int .i64 ((Qaa t591 x14_5).f1), .int .i64 ((Qaa t591 x14_5).f2)]] (h := ?_); (with_reducible refine (r4_Written.calls kj64 _ _ t573 ((Qaa t591 x14_5).f0) ((Qaa t591 x14_5).f1) ((Qaa t591 x14_5).f2) false _ ?side1 ?side2 ?side3 A73.out).mono ?_); (case side1 => exact cs HO_4); (case side2 => exact (Kd.S_reads' HO_4.out).2.1); (case side3 => exact (hT.below (bw HB))); rintro e w78 ⟨rfl,hb⟩; refine ⟨_,rfl, ?_⟩; replace HO_4:=sb HO_4 hb; replace HO_6:=rb HO_6 hb; replace HO_13:=rb HO_13 hb; replace BK569:=bl BK569 hb; replace HB:=bs HB hb; clear hb))
              go_meet
              case rel => exact ⟨_,(x21_64),(3),(x23_64),(x24_64),(0),rf,rf,rf,rf,rf,H',⟨by have:=HK1.out; have:=HJ9.out; have:=HJ20.out; have:=HJ33.out; have:=HK5.out; have:=HJ64.out; first | omega | exact Nat.le_refl _⟩,⟨sk HO_4⟩,⟨rk HO_6⟩,⟨rk HO_13⟩,⟨kk BK569⟩,⟨bw HB⟩⟩⟩ : Nonempty G_)) :); w6_DocTells.bxo (G:=G_) (inferInstanceAs (Nonempty G_)))⟩ : Nonempty G_)) :); w6_DocTells.bxo (G:=G_) (inferInstanceAs (Nonempty G_)))⟩ : Nonempty G_)) :); w6_DocTells.bxo (G:=G_) (inferInstanceAs (Nonempty G_)))⟩ : Nonempty G_)) :); w6_DocTells.bxo (G:=G_) (inferInstanceAs (Nonempty G_)))
           case rest =>
            show (let G_ : Prop:=_; G_)
            intro G_
            exact (let_tmp i_ : Nonempty G_:=(((⟨by
            subst G_
            clear HC56
            try clear hx602_0; try clear hx602_1; try clear hx602_2; try clear p602; try clear q602
            obtain ⟨kq,x21_55,x22_55,x23_55,x24_55,x25_55,rfl,rfl,rfl,rfl,rfl,HA,HJ55,HO_4,HO_6,HO_13,BK569,HB⟩:=hcut
            cases kq with
            | zero => exact absurd HA.out (by simp [w6_DocTells.j6])
            | succ kj55 =>
             have H:=HA.out
             clear HA
             simp only [w6_DocTells.j6] at H
             have HC79:=Zz.k H
             clear H
             go_upto_region 31 with (fail)
             go_cut [222] (fun v222 wc => ∃ (kq : Nat) (x222_78 : Bool),v222 = .bool x222_78 /\ Zz (w6_DocTells.j7 kq x3_1 t573 t577 t578 x10_20 t591 x14_5 x222_78 l0_0 l0_1 l0_2 l0_3 = some r) /\ Zz (kq <= kj55) /\ Zz (Kd.S kOp 64 wc w.heap.size (fun k_ => some k_ ≠ (v580 : Value).ownBlock /\ some k_ ≠ ((.slice (some ad594) t591.length co57) : Value).ownBlock) (.slice Ao26 t573.length co26) t573) /\ Zz (Kd.R Qao 32 wc w.heap.size (fun k_ => some k_ ≠ ((.slice (some ad594) t591.length co57) : Value).ownBlock) v580 t578) /\ Zz (Kd.R Qao 32 wc w.heap.size (fun k_ => some k_ ≠ (v580 : Value).ownBlock) (.slice (some ad594) t591.length co57) t591) /\ Zz (wc.heap[gb569]? = some (.cells #[(.slice (some ad572) l0_0.length c0_0),(.slice A0_1 l0_1.length c0_1),(.slice A0_2 l0_2.length c0_2),(.slice A0_3 l0_3.length c0_3)] 27 (0,0))) /\ Zz (Below w.heap.size w wc))
             case first =>
              have H:=HC79.out
              clear HC79
              obtain ⟨t618,A80,H⟩:=bE H
              by_cases c81 : t618 = x21_55; rotate_left
              ·rw [if_neg c81] at H
               obtain ⟨c81b0,c81b1⟩:=bF c81
               (first | rw [c81b0] | (simp only [Qbc,Qbg]; rw [c81b0]) | skip)
               have H':=Zz.k H
               clear H
               go_wp2_with (first | ((with_reducible refine Qac (f:=23) rfl ?_); refine gl (some 193) Tryz.func23 #[.int .i64 t597] (h := ?_); (with_reducible refine (w6_num.calls t597 t618 _ A80.out).mono ?_); rintro e w' ⟨rfl,⟨nd,rfl⟩⟩; refine ⟨_,rfl, ?_⟩))
               go_meet
               case rel => exact ⟨_,(true),rf,H',⟨by have:=HK1.out; have:=HJ9.out; have:=HJ20.out; have:=HJ33.out; have:=HK5.out; have:=HJ55.out; first | omega | exact Nat.le_refl _⟩,⟨sk HO_4⟩,⟨rk HO_6⟩,⟨rk HO_13⟩,⟨kk BK569⟩,⟨bw HB⟩⟩
              show (let G_ : Prop:=_; G_)
              intro G_
              exact (let_tmp i_ : Nonempty G_:=(((⟨by
              subst G_
              rw [if_pos c81] at H
              obtain ⟨c81b0,c81b1⟩:=bT c81
              clear c81
              (first | rw [c81b0] | (simp only [Qbc,Qbg]; rw [c81b0]) | skip)
              by_cases c82 : t596 = x23_55; rotate_left
              ·rw [if_neg c82] at H
               obtain ⟨c82b0,c82b1⟩:=bF c82
               have H':=Zz.k H
               clear H
               go_wp2_with (first | ((with_reducible refine Qac (f:=23) rfl ?_); refine gl (some 193) Tryz.func23 #[.int .i64 t597] (h := ?_); (with_reducible refine (w6_num.calls t597 t618 _ A80.out).mono ?_); rintro e w' ⟨rfl,⟨nd,rfl⟩⟩; refine ⟨_,rfl, ?_⟩))
               go_meet
               case rel => exact ⟨_,(true),rf,H',⟨by have:=HK1.out; have:=HJ9.out; have:=HJ20.out; have:=HJ33.out; have:=HK5.out; have:=HJ55.out; first | omega | exact Nat.le_refl _⟩,⟨sk HO_4⟩,⟨rk HO_6⟩,⟨rk HO_13⟩,⟨kk BK569⟩,⟨bw HB⟩⟩
              show (let G_ : Prop:=_; G_)
              intro G_
              exact (let_tmp i_ : Nonempty G_:=(((⟨by
              subst G_
              rw [if_pos c82] at H
              obtain ⟨c82b0,c82b1⟩:=bT c82
              clear c82
              obtain ⟨t619,A83,H⟩:=bE H
              by_cases c84 : t619 = x21_55; rotate_left
              ·rw [if_neg c84] at H
               obtain ⟨c84b0,c84b1⟩:=bF c84
               have H':=Zz.k H
               clear H
               go_wp2_with (first | ((with_reducible refine Qac (f:=23) rfl ?_); refine gl (some 193) Tryz.func23 #[.int .i64 t597] (h := ?_); (with_reducible refine (w6_num.calls t597 t618 _ A80.out).mono ?_); rintro e w' ⟨rfl,⟨nd,rfl⟩⟩; refine ⟨_,rfl, ?_⟩) | (go_at_call 23; (with_reducible refine (w6_num.calls t601 t619 _ A83.out).mono ?_); rintro e w' ⟨rfl,⟨nd,rfl⟩⟩))
               go_meet
               case rel => exact ⟨_,(true),rf,H',⟨by have:=HK1.out; have:=HJ9.out; have:=HJ20.out; have:=HJ33.out; have:=HK5.out; have:=HJ55.out; first | omega | exact Nat.le_refl _⟩,⟨sk HO_4⟩,⟨rk HO_6⟩,⟨rk HO_13⟩,⟨kk BK569⟩,⟨bw HB⟩⟩
              show (let G_ : Prop:=_; G_)
              intro G_
              exact (let_tmp i_ : Nonempty G_:=(((⟨by
              subst G_
              rw [if_pos c84] at H
              obtain ⟨c84b0,c84b1⟩:=bT c84
              clear c84
              by_cases c85 : (t600 != x24_55) = true
              ·show (let G_ : Prop:=_; G_)
               intro G_
               exact (let_tmp i_ : Nonempty G_:=(((⟨by
               subst G_
               rw [if_pos c85] at H
               have c85b0 : (t600 != x24_55) = true:=c85
               (try (have c85b1 : decide (t600 = x24_55) = false:=by simpa using c85))
               (try (have c85b2 : (t600 == x24_55) = false:=by simpa using c85))
               (try (have c85b3 : ¬ (t600 = x24_55):=by simpa using c85))
               clear c85
               have H':=Zz.k H
               clear H
               go_wp2_with (first | ((with_reducible refine Qac (f:=23) rfl ?_); refine gl (some 193) Tryz.func23 #[.int .i64 t597] (h := ?_); (with_reducible refine (w6_num.calls t597 t618 _ A80.out).mono ?_); rintro e w' ⟨rfl,⟨nd,rfl⟩⟩; refine ⟨_,rfl, ?_⟩) | (go_at_call 23; (with_reducible refine (w6_num.calls t601 t619 _ A83.out).mono ?_); rintro e w' ⟨rfl,⟨nd,rfl⟩⟩))
               go_meet
               case rel => exact ⟨_,(true),rf,H',⟨by have:=HK1.out; have:=HJ9.out; have:=HJ20.out; have:=HJ33.out; have:=HK5.out; have:=HJ55.out; first | omega | exact Nat.le_refl _⟩,⟨sk HO_4⟩,⟨rk HO_6⟩,⟨rk HO_13⟩,⟨kk BK569⟩,⟨bw HB⟩⟩⟩ : Nonempty G_)) :); w6_DocTells.bxo (G:=G_) (inferInstanceAs (Nonempty G_)))
              rw [if_neg c85] at H
              have c85b0 : (t600 != x24_55) = false:=by simpa using c85
              (try (have c85b1 : decide (t600 = x24_55) = true:=by simpa using c85))
              (try (have c85b2 : (t600 == x24_55) = true:=by simpa using c85))
              clear c85
              obtain ⟨t620,A86,H⟩:=bE H
              by_cases c87 : t620 = x22_55; rotate_left
              ·rw [if_neg c87] at H
               obtain ⟨c87b0,c87b1⟩:=bF c87
               have H':=Zz.k H
               clear H
               go_wp2_with (first | ((with_reducible refine Qac (f:=23) rfl ?_); refine gl (some 193) Tryz.func23 #[.int .i64 t597] (h := ?_); (with_reducible refine (w6_num.calls t597 t618 _ A80.out).mono ?_); rintro e w' ⟨rfl,⟨nd,rfl⟩⟩; refine ⟨_,rfl, ?_⟩) | (go_at_call 23; (with_reducible refine (w6_num.calls t601 t619 _ A83.out).mono ?_); rintro e w' ⟨rfl,⟨nd,rfl⟩⟩) | (go_at_call 23; (with_reducible refine (w6_num.calls t604 t620 _ A86.out).mono ?_); rintro e w' ⟨rfl,⟨nd,rfl⟩⟩))
               go_meet
               case rel => exact ⟨_,(true),rf,H',⟨by have:=HK1.out; have:=HJ9.out; have:=HJ20.out; have:=HJ33.out; have:=HK5.out; have:=HJ55.out; first | omega | exact Nat.le_refl _⟩,⟨sk HO_4⟩,⟨rk HO_6⟩,⟨rk HO_13⟩,⟨kk BK569⟩,⟨bw HB⟩⟩
              show (let G_ : Prop:=_; G_)
              intro G_
              exact (let_tmp i_ : Nonempty G_:=(((⟨by
              subst G_
              rw [if_pos c87] at H
              obtain ⟨c87b0,c87b1⟩:=bT c87
              clear c87
              have H':=Zz.k H
              clear H
              go_wp2_with (first | ((with_reducible refine Qac (f:=23) rfl ?_); refine gl (some 193) Tryz.func23 #[.int .i64 t597] (h := ?_); (with_reducible refine (w6_num.calls t597 t618 _ A80.out).mono ?_); rintro e w' ⟨rfl,⟨nd,rfl⟩⟩; refine ⟨_,rfl, ?_⟩) | (go_at_call 23; (with_reducible refine (w6_num.calls t601 t619 _ A83.out).mono ?_); rintro e w' ⟨rfl,⟨nd,rfl⟩⟩) | (go_at_call 23; (with_reducible refine (w6_num.calls t604 t620 _ A86.out).mono ?_); rintro e w' ⟨rfl,⟨nd,rfl⟩⟩))
              go_meet
              case rel => exact ⟨_,((t603 != x25_55)),rf,H',⟨by have:=HK1.out; have:=HJ9.out; have:=HJ20.out; have:=HJ33.out; have:=HK5.out; have:=HJ55.out; first | omega | exact Nat.le_refl _⟩,⟨sk HO_4⟩,⟨rk HO_6⟩,⟨rk HO_13⟩,⟨kk BK569⟩,⟨bw HB⟩⟩⟩ : Nonempty G_)) :); w6_DocTells.bxo (G:=G_) (inferInstanceAs (Nonempty G_)))⟩ : Nonempty G_)) :); w6_DocTells.bxo (G:=G_) (inferInstanceAs (Nonempty G_)))⟩ : Nonempty G_)) :); w6_DocTells.bxo (G:=G_) (inferInstanceAs (Nonempty G_)))⟩ : Nonempty G_)) :); w6_DocTells.bxo (G:=G_) (inferInstanceAs (Nonempty G_)))
             case rest =>
              show (let G_ : Prop:=_; G_)
              intro G_
              exact (let_tmp i_ : Nonempty G_:=(((⟨by
              subst G_
              clear HC79
              obtain ⟨kq,x222_78,rfl,HA,HJ78,HO_4,HO_6,HO_13,BK569,HB⟩:=hcut
              cases kq with
              | zero => exact absurd HA.out (by simp [w6_DocTells.j7])
              | succ kj78 =>
               have H:=HA.out
               clear HA
               simp only [w6_DocTells.j7] at H
               by_cases c88 : x222_78 = true
               ·show (let G_ : Prop:=_; G_)
                intro G_
                exact (let_tmp i_ : Nonempty G_:=(((⟨by
                subst G_
                subst c88
                rw [if_pos rfl] at H
                obtain rfl:=Zo H
                go_wp2
                go_ret
                exact ⟨re,bw HB⟩⟩ : Nonempty G_)) :); w6_DocTells.bxo (G:=G_) (inferInstanceAs (Nonempty G_)))
               replace c88:=Zf c88
               subst c88
               rw [if_neg nft] at H
               have H':=Zz.k H
               clear H
               go_wp2
               go_roundg kj78
               case measure => have:=HK1.out; have:=HJ9.out; have:=HJ20.out; have:=HJ33.out; have:=HK5.out; have:=HJ55.out; have:=HJ78.out; omega
               case rel => exact ⟨(wrap64 (x14_5 + 1)),rf,H',⟨by have:=HK1.out; have:=HJ9.out; have:=HJ20.out; have:=HJ33.out; have:=HK5.out; have:=HJ55.out; have:=HJ78.out; omega⟩,⟨sk HO_4⟩,⟨rk HO_6⟩,⟨rk HO_13⟩,⟨kk BK569⟩,⟨bw HB⟩⟩⟩ : Nonempty G_)) :); w6_DocTells.bxo (G:=G_) (inferInstanceAs (Nonempty G_)))⟩ : Nonempty G_)) :); w6_DocTells.bxo (G:=G_) (inferInstanceAs (Nonempty G_)))⟩ : Nonempty G_)) :); w6_DocTells.bxo (G:=G_) (inferInstanceAs (Nonempty G_)))⟩ : Nonempty G_)) :); w6_DocTells.bxo (G:=G_) (inferInstanceAs (Nonempty G_)))⟩ : Nonempty G_)) :); w6_DocTells.bxo (G:=G_) (inferInstanceAs (Nonempty G_)))⟩ : Nonempty G_)) :); w6_DocTells.bxo (G:=G_) (inferInstanceAs (Nonempty G_)))⟩ : Nonempty G_)) :); w6_DocTells.bxo (G:=G_) (inferInstanceAs (Nonempty G_)))⟩ : Nonempty G_)) :); w6_DocTells.bxo (G:=G_) (inferInstanceAs (Nonempty G_)))⟩ : Nonempty G_)) :); w6_DocTells.bxo (G:=G_) (inferInstanceAs (Nonempty G_)))⟩ : Nonempty G_)) :); w6_DocTells.bxo (G:=G_) (inferInstanceAs (Nonempty G_)))⟩ : Nonempty G_)) :); w6_DocTells.bxo (G:=G_) (inferInstanceAs (Nonempty G_)))⟩ : Nonempty G_)) :); w6_DocTells.bxo (G:=G_) (inferInstanceAs (Nonempty G_)))
end
end Go.Proofs.YtonoaflfobajcaaGreatDoor.L
end
