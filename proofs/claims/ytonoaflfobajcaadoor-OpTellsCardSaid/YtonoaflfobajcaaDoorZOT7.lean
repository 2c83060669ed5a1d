/- Part 7 of the proof that for every argument the law OpTells answers true: whether any op may be, its elements, what it needs, any own element, and whether any element may be, are the page's, or the error is. -/
import Derived.Test.YtonoaflfobajcaaDoorZOT6
section
namespace Go.Proofs.YtonoaflfobajcaaDoor.L
open Go.RowKit Go.Proofs.YtonoaflfobajcaaDoorW.PrintWords Go.Proofs.YtonoaflfobajcaaDoorW.PrintLast Go.Proofs.YtonoaflfobajcaaDoorW.PrintMore
set_option linter.unusedVariables false
set_option linter.unusedSimpArgs false
set_option maxHeartbeats 40000000
set_option maxRecDepth 1000000
section
attribute [local go_sem] Qbo Qbm Qbz Qby Qbd Qbc Qbn Qbl
attribute [local go_sem high] eqAElem
theorem w4_OpTells.bxo {G : Prop} (h : Nonempty G) : G:=h.elim id
mutual
def w4_OpTells.l0 : Nat -> List Int -> Int -> List (SOp) -> List (SElem) -> List Int -> Option (Bool)
 | 0,_,_,_,_,_ => none
 | k + 1,x3,x4,x327000,x327001,x327002 => if x4 < (x327000.length : Int) then (w4_OpTells.j1 k x3 x4 (decide (x4 < 10)) x327000 x327001 x327002) else (w4_OpTells.j1 k x3 x4 false x327000 x327001 x327002)
def w4_OpTells.j1 : Nat -> List Int -> Int -> Bool -> List (SOp) -> List (SElem) -> List Int -> Option (Bool)
 | 0,_,_,_,_,_,_ => none
 | k + 1,x3,x4,x34,x327000,x327001,x327002 => if x34 = true then (if 0 <= x4 then (if x4 < (x327000.length : Int) then ((r0_CopyOp.f k ((Qaf x327000 x4).f0) ((Qaf x327000 x4).f1) ((Qaf x327000 x4).f2) ((Qaf x327000 x4).f3.f0) ((Qaf x327000 x4).f3.f1) ((Qaf x327000 x4).f3.f2) ((Qaf x327000 x4).f4) ((Qaf x327000 x4).f5) ((Qaf x327000 x4).f6) ((Qaf x327000 x4).f7) ((Qaf x327000 x4).f8)).bind fun bt335 => ((op_Elems.f k bt335.1 bt335.2.1 bt335.2.2.1 bt335.2.2.2.1 bt335.2.2.2.2.1 bt335.2.2.2.2.2.1 bt335.2.2.2.2.2.2.1 bt335.2.2.2.2.2.2.2.1 bt335.2.2.2.2.2.2.2.2.1 bt335.2.2.2.2.2.2.2.2.2.1 bt335.2.2.2.2.2.2.2.2.2.2).bind fun bt349 => ((op_Needs.f bt335.1 bt335.2.1 bt335.2.2.1 bt335.2.2.2.1 bt335.2.2.2.2.1 bt335.2.2.2.2.2.1 bt335.2.2.2.2.2.2.1 bt335.2.2.2.2.2.2.2.1 bt335.2.2.2.2.2.2.2.2.1 bt335.2.2.2.2.2.2.2.2.2.1 bt335.2.2.2.2.2.2.2.2.2.2).bind fun bt353 => ((r4_Op.f k ((Qaf x327000 x4).f0) ((Qaf x327000 x4).f1) ((Qaf x327000 x4).f2) ((Qaf x327000 x4).f3.f0) ((Qaf x327000 x4).f3.f1) ((Qaf x327000 x4).f3.f2) ((Qaf x327000 x4).f4) ((Qaf x327000 x4).f5) ((Qaf x327000 x4).f6) ((Qaf x327000 x4).f7) ((Qaf x327000 x4).f8)).bind fun t358 => (if t358 = true then ((r4_Elems.f k bt335.1 bt335.2.1 bt335.2.2.1 bt335.2.2.2.1 bt335.2.2.2.2.1 bt335.2.2.2.2.2.1 bt335.2.2.2.2.2.2.1 bt335.2.2.2.2.2.2.2.1 bt335.2.2.2.2.2.2.2.2.1 bt335.2.2.2.2.2.2.2.2.2.1 bt335.2.2.2.2.2.2.2.2.2.2).bind fun t359 => ((r4_Needs.f bt335.1 bt335.2.1 bt335.2.2.1 bt335.2.2.2.1 bt335.2.2.2.2.1 bt335.2.2.2.2.2.1 bt335.2.2.2.2.2.2.1 bt335.2.2.2.2.2.2.2.1 bt335.2.2.2.2.2.2.2.2.1 bt335.2.2.2.2.2.2.2.2.2.1 bt335.2.2.2.2.2.2.2.2.2.2).bind fun t362 => (w4_OpTells.j2 k x3 x4 bt349.1 bt349.2 bt353.1 bt353.2 0 t359 t362 x327000 x327001 x327002 bt335.1 bt335.2.1 bt335.2.2.1 bt335.2.2.2.1 bt335.2.2.2.2.1 bt335.2.2.2.2.2.1 bt335.2.2.2.2.2.2.1 bt335.2.2.2.2.2.2.2.1 bt335.2.2.2.2.2.2.2.2.1 bt335.2.2.2.2.2.2.2.2.2.1 bt335.2.2.2.2.2.2.2.2.2.2))) else (w4_OpTells.j2 k x3 x4 bt349.1 bt349.2 bt353.1 bt353.2 1 ([] : List (SElem)) ([] : List (SElem)) x327000 x327001 x327002 bt335.1 bt335.2.1 bt335.2.2.1 bt335.2.2.2.1 bt335.2.2.2.2.1 bt335.2.2.2.2.2.1 bt335.2.2.2.2.2.2.1 bt335.2.2.2.2.2.2.2.1 bt335.2.2.2.2.2.2.2.2.1 bt335.2.2.2.2.2.2.2.2.2.1 bt335.2.2.2.2.2.2.2.2.2.2)))))) else (none)) else (none)) else (w4_OpTells.l2 k 0 x327000 x327001 x327002)
def w4_OpTells.j2 : Nat -> List Int -> Int -> List (SElem) -> Int -> List (SElem) -> Int -> Int -> List (SElem) -> List (SElem) -> List (SOp) -> List (SElem) -> List Int -> Int -> Int -> Int -> Int -> Int -> Int -> ByteArray -> List (SElem) -> Int -> Int -> Int -> Option (Bool)
 | 0,_,_,_,_,_,_,_,_,_,_,_,_,_,_,_,_,_,_,_,_,_,_,_ => none
 | k + 1,x3,x4,x6,x7,x8,x9,x10,x11,x12,x327000,x327001,x327002,x349000,x349001,x349002,x349003,x349004,x349005,x349006,x349007,x349008,x349009,x349010 => (op_Check.f k x349000 x349001 x349002 x349003 x349004 x349005 x349006 x349007 x349008 x349009 x349010).bind fun t365 => ((w4_num.f t365).bind fun t366 => (if t366 = x10 then ((w4_num.f x7).bind fun t367 => (if t367 = x10 then ((r0_EqElems.f k x6 x11).bind fun t368 => (if t368 = true then ((w4_num.f x9).bind fun t369 => (if t369 = x10 then ((r0_EqElems.f k x8 x12).bind fun t370 => (w4_OpTells.j3 k x3 x4 x8 x10 x11 (!t370) x327000 x327001 x327002 x349000 x349001 x349002 x349003 x349004 x349005 x349006 x349007 x349008 x349009 x349010)) else (w4_OpTells.j3 k x3 x4 x8 x10 x11 true x327000 x327001 x327002 x349000 x349001 x349002 x349003 x349004 x349005 x349006 x349007 x349008 x349009 x349010))) else (w4_OpTells.j3 k x3 x4 x8 x10 x11 true x327000 x327001 x327002 x349000 x349001 x349002 x349003 x349004 x349005 x349006 x349007 x349008 x349009 x349010))) else (w4_OpTells.j3 k x3 x4 x8 x10 x11 true x327000 x327001 x327002 x349000 x349001 x349002 x349003 x349004 x349005 x349006 x349007 x349008 x349009 x349010))) else (w4_OpTells.j3 k x3 x4 x8 x10 x11 true x327000 x327001 x327002 x349000 x349001 x349002 x349003 x349004 x349005 x349006 x349007 x349008 x349009 x349010)))
def w4_OpTells.j3 : Nat -> List Int -> Int -> List (SElem) -> Int -> List (SElem) -> Bool -> List (SOp) -> List (SElem) -> List Int -> Int -> Int -> Int -> Int -> Int -> Int -> ByteArray -> List (SElem) -> Int -> Int -> Int -> Option (Bool)
 | 0,_,_,_,_,_,_,_,_,_,_,_,_,_,_,_,_,_,_,_,_ => none
 | k + 1,x3,x4,x8,x10,x11,x91,x327000,x327001,x327002,x349000,x349001,x349002,x349003,x349004,x349005,x349006,x349007,x349008,x349009,x349010 => if x91 = true then (some false) else (w4_OpTells.l1 k x3 x4 x8 x10 x11 0 x327000 x327001 x327002 x349000 x349001 x349002 x349003 x349004 x349005 x349006 x349007 x349008 x349009 x349010)
def w4_OpTells.l1 : Nat -> List Int -> Int -> List (SElem) -> Int -> List (SElem) -> Int -> List (SOp) -> List (SElem) -> List Int -> Int -> Int -> Int -> Int -> Int -> Int -> ByteArray -> List (SElem) -> Int -> Int -> Int -> Option (Bool)
 | 0,_,_,_,_,_,_,_,_,_,_,_,_,_,_,_,_,_,_,_,_ => none
 | k + 1,x3,x4,x8,x10,x11,x13,x327000,x327001,x327002,x349000,x349001,x349002,x349003,x349004,x349005,x349006,x349007,x349008,x349009,x349010 => if x13 < (x3.length : Int) then (w4_OpTells.j5 k x3 x4 x8 x10 x11 x13 (decide (x13 < 10)) x327000 x327001 x327002 x349000 x349001 x349002 x349003 x349004 x349005 x349006 x349007 x349008 x349009 x349010) else (w4_OpTells.j5 k x3 x4 x8 x10 x11 x13 false x327000 x327001 x327002 x349000 x349001 x349002 x349003 x349004 x349005 x349006 x349007 x349008 x349009 x349010)
def w4_OpTells.j5 : Nat -> List Int -> Int -> List (SElem) -> Int -> List (SElem) -> Int -> Bool -> List (SOp) -> List (SElem) -> List Int -> Int -> Int -> Int -> Int -> Int -> Int -> ByteArray -> List (SElem) -> Int -> Int -> Int -> Option (Bool)
 | 0,_,_,_,_,_,_,_,_,_,_,_,_,_,_,_,_,_,_,_,_,_ => none
 | k + 1,x3,x4,x8,x10,x11,x13,x99,x327000,x327001,x327002,x349000,x349001,x349002,x349003,x349004,x349005,x349006,x349007,x349008,x349009,x349010 => if x99 = true then (if 0 <= x13 then (if x13 < (x3.length : Int) then ((op_Own.f k x349000 x349001 x349002 x349003 x349004 x349005 x349006 x349007 x349008 x349009 x349010 (rd x3 x13)).bind fun bt372 => (if x10 = 0 then ((r0_Num.f (rd x3 x13) (wrap64 ((x11.length : Int) - 1))).bind fun t379 => (if t379 = true then (if 0 <= (rd x3 x13) then (if (rd x3 x13) < (x11.length : Int) then (w4_OpTells.j6 k x3 x4 x8 x10 x11 x13 bt372.2.2.2 0 x327000 x327001 x327002 x349000 x349001 x349002 x349003 x349004 x349005 x349006 x349007 x349008 x349009 x349010 bt372.1 bt372.2.1 bt372.2.2.1 ((Qaa x11 (rd x3 x13)).f0) ((Qaa x11 (rd x3 x13)).f1) ((Qaa x11 (rd x3 x13)).f2)) else (none)) else (none)) else (w4_OpTells.j6 k x3 x4 x8 x10 x11 x13 bt372.2.2.2 2 x327000 x327001 x327002 x349000 x349001 x349002 x349003 x349004 x349005 x349006 x349007 x349008 x349009 x349010 bt372.1 bt372.2.1 bt372.2.2.1 0 0 0))) else (w4_OpTells.j6 k x3 x4 x8 x10 x11 x13 bt372.2.2.2 x10 x327000 x327001 x327002 x349000 x349001 x349002 x349003 x349004 x349005 x349006 x349007 x349008 x349009 x349010 bt372.1 bt372.2.1 bt372.2.2.1 0 0 0))) else (none)) else (none)) else ((w0_Elems.f k x8).bind fun t383 => (if 0 <= x4 then (if x4 < (x327000.length : Int) then ((r0_EqOp.f k x349000 x349001 x349002 x349003 x349004 x349005 x349006 x349007 x349008 x349009 x349010 ((Qaf x327000 x4).f0) ((Qaf x327000 x4).f1) ((Qaf x327000 x4).f2) ((Qaf x327000 x4).f3.f0) ((Qaf x327000 x4).f3.f1) ((Qaf x327000 x4).f3.f2) ((Qaf x327000 x4).f4) ((Qaf x327000 x4).f5) ((Qaf x327000 x4).f6) ((Qaf x327000 x4).f7) ((Qaf x327000 x4).f8)).bind fun t385 => (if t385 = true then (w4_OpTells.l0 k x3 (wrap64 (x4 + 1)) x327000 x327001 x327002) else (some false))) else (none)) else (none)))
def w4_OpTells.j6 : Nat -> List Int -> Int -> List (SElem) -> Int -> List (SElem) -> Int -> Int -> Int -> List (SOp) -> List (SElem) -> List Int -> Int -> Int -> Int -> Int -> Int -> Int -> ByteArray -> List (SElem) -> Int -> Int -> Int -> Int -> Int -> Int -> Int -> Int -> Int -> Option (Bool)
 | 0,_,_,_,_,_,_,_,_,_,_,_,_,_,_,_,_,_,_,_,_,_,_,_,_,_,_,_,_ => none
 | k + 1,x3,x4,x8,x10,x11,x13,x15,x16,x327000,x327001,x327002,x349000,x349001,x349002,x349003,x349004,x349005,x349006,x349007,x349008,x349009,x349010,x377000,x377001,x377002,x378000,x378001,x378002 => (w4_num.f x15).bind fun t382 => (if t382 = x16 then (if (!(x377000 == x378000) || (!(x377001 == x378001) || (!(x377002 == x378002)))) = true then (some false) else (w4_OpTells.l1 k x3 x4 x8 x10 x11 (wrap64 (x13 + 1)) x327000 x327001 x327002 x349000 x349001 x349002 x349003 x349004 x349005 x349006 x349007 x349008 x349009 x349010)) else (some false))
def w4_OpTells.l2 : Nat -> Int -> List (SOp) -> List (SElem) -> List Int -> Option (Bool)
 | 0,_,_,_,_ => none
 | k + 1,x18,x327000,x327001,x327002 => if x18 < (x327001.length : Int) then (w4_OpTells.j8 k x18 (decide (x18 < 20)) x327000 x327001 x327002) else (w4_OpTells.j8 k x18 false x327000 x327001 x327002)
def w4_OpTells.j8 : Nat -> Int -> Bool -> List (SOp) -> List (SElem) -> List Int -> Option (Bool)
 | 0,_,_,_,_,_ => none
 | k + 1,x18,x157,x327000,x327001,x327002 => if x157 = true then (if 0 <= x18 then (if x18 < (x327001.length : Int) then ((op_Elem.f ((Qaa x327001 x18).f0) ((Qaa x327001 x18).f1) ((Qaa x327001 x18).f2)).bind fun t388 => ((w4_num.f t388).bind fun t389 => ((r4_Elem.f ((Qaa x327001 x18).f0) ((Qaa x327001 x18).f1) ((Qaa x327001 x18).f2)).bind fun t391 => (if ((t389 == 0) != t391) = true then (some false) else (w4_OpTells.l3 k x18 0 x327000 x327001 x327002))))) else (none)) else (none)) else ((w4_wakes.f k).bind fun t386 => (some t386))
def w4_OpTells.l3 : Nat -> Int -> Int -> List (SOp) -> List (SElem) -> List Int -> Option (Bool)
 | 0,_,_,_,_,_ => none
 | k + 1,x18,x19,x327000,x327001,x327002 => if x19 < (x327001.length : Int) then (w4_OpTells.j10 k x18 x19 (decide (x19 < 20)) x327000 x327001 x327002) else (w4_OpTells.j10 k x18 x19 false x327000 x327001 x327002)
def w4_OpTells.j10 : Nat -> Int -> Int -> Bool -> List (SOp) -> List (SElem) -> List Int -> Option (Bool)
 | 0,_,_,_,_,_,_ => none
 | k + 1,x18,x19,x183,x327000,x327001,x327002 => if x183 = true then (if 0 <= x18 then (if x18 < (x327001.length : Int) then (if 0 <= x19 then (if x19 < (x327001.length : Int) then ((op_Less.f k ((Qaa x327001 x18).f0) ((Qaa x327001 x18).f1) ((Qaa x327001 x18).f2) ((Qaa x327001 x19).f0) ((Qaa x327001 x19).f1) ((Qaa x327001 x19).f2)).bind fun t394 => ((r4_Less.f ((Qaa x327001 x18).f0) ((Qaa x327001 x18).f1) ((Qaa x327001 x18).f2) ((Qaa x327001 x19).f0) ((Qaa x327001 x19).f1) ((Qaa x327001 x19).f2)).bind fun t397 => (if (t394 != t397) = true then (some false) else (w4_OpTells.l3 k x18 (wrap64 (x19 + 1)) x327000 x327001 x327002)))) else (none)) else (none)) else (none)) else (none)) else (w4_OpTells.l2 k (wrap64 (x18 + 1)) x327000 x327001 x327002)
end
def w4_OpTells.f (k : Nat) (l0_0 : List (SOp)) (l0_1 : List (SElem)) (l0_2 : List Int) : Option (Bool):=(w4_Heavy.f k l0_0 l0_1 l0_2).bind fun t327 => (if t327 = true then (some true) else ((some (([0,1,(-1),11,12] : List Int) : List Int)).bind fun y328 => (if y328.length + l0_2.length < 17592186044416 then (w4_OpTells.l0 k (y328 ++ l0_2) 0 l0_0 l0_1 l0_2) else (none))))
def w4_OpTells.T19 : Bool × List (List Nat × List Nat):=(true,[([],[]),([],[]),([],[]),([1,2],[1,2]),([3],[3]),([0,4],[0,4]),([5],[5]),([6],[6]),([6],[6]),([],[]),([9,7,5,0,1,2,3,4,5,6,7,9],[7,9]),([8,10,0,1,2,3,4,5,6,7,8,9,10],[8])])
def w4_OpTells.B19 : List Nat:=[0,0,0,6,14,31,63,127,127,0,767,2047]
theorem w4_OpTells.tab19 : rtab .any (opsOf Tryd.f11 19) = w4_OpTells.T19:=by kernel_rfl
theorem w4_OpTells.bits19 : Qay w4_OpTells.T19.2 w4_OpTells.B19 = true:=by kernel_rfl
def w4_OpTells.T24 : Bool × List (List Nat × List Nat):=(true,[([],[]),([],[]),([],[]),([1,2],[1,2]),([3],[3]),([0,4],[0,4]),([5],[5]),([],[]),([6,7,0,1,2,3,4,5,6,7],[6])])
def w4_OpTells.B24 : List Nat:=[0,0,0,6,14,31,63,0,255]
theorem w4_OpTells.tab24 : rtab .any (opsOf Tryd.f11 24) = w4_OpTells.T24:=by kernel_rfl
theorem w4_OpTells.bits24 : Qay w4_OpTells.T24.2 w4_OpTells.B24 = true:=by kernel_rfl
def w4_OpTells.T28 : Bool × List (List Nat × List Nat):=(true,[([],[]),([],[]),([1],[1]),([],[]),([2,3],[2,3]),([4],[4]),([0,5],[0,5]),([6],[6])])
def w4_OpTells.B28 : List Nat:=[0,0,2,0,14,30,63,127]
theorem w4_OpTells.tab28 : rtab .any (opsOf Tryd.f11 28) = w4_OpTells.T28:=by kernel_rfl
theorem w4_OpTells.bits28 : Qay w4_OpTells.T28.2 w4_OpTells.B28 = true:=by kernel_rfl
def w4_OpTells.T33 : Bool × List (List Nat × List Nat):=(true,[([],[]),([0],[0]),([],[]),([1,2],[1,2]),([3],[3]),([4],[4]),([5,5],[5]),([6],[6]),([],[]),([8],[8]),([],[]),([9,10],[9,10]),([11],[11]),([12,6],[12]),([7,13],[7,13])])
def w4_OpTells.B33 : List Nat:=[0,1,0,7,15,31,63,127,0,256,0,1792,3840,8063,16383]
theorem w4_OpTells.tab33 : rtab .any (opsOf Tryd.f11 33) = w4_OpTells.T33:=by kernel_rfl
theorem w4_OpTells.bits33 : Qay w4_OpTells.T33.2 w4_OpTells.B33 = true:=by kernel_rfl
def w4_OpTells.T38 : Bool × List (List Nat × List Nat):=(true,[([],[]),([0],[0]),([],[]),([1,2],[1,2]),([3],[3]),([],[]),([5],[5]),([],[]),([6,7],[6,7]),([8],[8]),([4,9],[4,9]),([],[]),([11],[11]),([],[]),([12,13],[12,13]),([14],[14]),([],[]),([16],[16]),([],[]),([17,18],[17,18]),([19],[19]),([15,20,10],[15,20]),([10,21],[10,21])])
def w4_OpTells.B38 : List Nat:=[0,1,0,7,15,0,32,0,224,480,1023,0,2048,0,14336,30720,0,65536,0,458752,983040,2097151,4194303]
theorem w4_OpTells.tab38 : rtab .any (opsOf Tryd.f11 38) = w4_OpTells.T38:=by kernel_rfl
theorem w4_OpTells.bits38 : Qay w4_OpTells.T38.2 w4_OpTells.B38 = true:=by kernel_rfl
theorem w4_OpTells.calls (k : Nat) (A0_0 : Option Addr) (c0_0 : Nat) (l0_0 : List (SOp)) (A0_1 : Option Addr) (c0_1 : Nat) (l0_1 : List (SElem)) (A0_2 : Option Addr) (c0_2 : Nat) (l0_2 : List Int) (r : Bool) (w : World) (hr0_0 : Kd.C kOp w A0_0 l0_0.length l0_0) (hc0_0 : l0_0.length <= c0_0) (hr0_1 : Kd.C Qak w A0_1 l0_1.length l0_1) (hc0_1 : l0_1.length <= c0_1) (hr0_2 : Kd.C (Kd.int .i64) w A0_2 l0_2.length l0_2) (hc0_2 : l0_2.length <= c0_2) (hT : GT w) (h : w4_OpTells.f k l0_0 l0_1 l0_2 = some r) :
  Calls Tryd.prog 11 #[.agg #[.slice A0_0 l0_0.length c0_0, .slice A0_1 l0_1.length c0_1, .slice A0_2 l0_2.length c0_2]] w fun e w' => e = .returned (.bool r) /\ Below w.heap.size w w':=by
 have hu61:=Tryd.underlying61
 have hu55:=Tryd.underlying55
 have hu43:=Tryd.underlying43
 have HR0_0:=Zz.k hr0_0
 have HC0_0:=Zz.k hc0_0
 clear hr0_0 hc0_0
 have HR0_1:=Zz.k hr0_1
 have HC0_1:=Zz.k hc0_1
 clear hr0_1 hc0_1
 have HR0_2:=Zz.k hr0_2
 have HC0_2:=Zz.k hc0_2
 clear hr0_2 hc0_2
 have HB:=Zz.k (Below.refl w.heap.size w)
 unfold w4_OpTells.f at h; have H:=h
 clear h
 obtain ⟨t327,A2,H⟩:=bE H
 by_cases c3 : t327 = true
 ·show (let G_ : Prop:=_; G_)
  intro G_
  exact (let_tmp i_ : Nonempty G_:=(((⟨by
  subst G_
  subst c3
  rw [if_pos rfl] at H
  obtain rfl:=Zo H
  go_enter Tryd.func11,Tryd.ntmps11
  go_wp2_with (first | ((with_reducible refine Qac (N:=1) rfl ?_); refine bx 1 #[.slice A0_0 l0_0.length c0_0, .slice A0_1 l0_1.length c0_1, .slice A0_2 l0_2.length c0_2] 61 (h := ?_); intro gb326 hg w4 hbox hb; have BK326:=Zz.k (hbox); have GW326:=bz HB hg; have GE326:=bz HB hg; replace HB:=bs HB hb; clear hb hbox hg; obtain ⟨_,_,_,_,_,_⟩:=kc3 BK326) | ((with_reducible refine Qab (f:=46) rfl ?_); refine gl (some 21) Tryd.func46 #[.agg #[.slice A0_0 l0_0.length c0_0, .slice A0_1 l0_1.length c0_1, .slice A0_2 l0_2.length c0_2]] (h := ?_); (with_reducible refine (w4_Heavy.calls k _ _ l0_0 _ _ l0_1 _ _ l0_2 true _ ?side1 ?side2 ?side3 ?side4 ?side5 ?side6 A2.out).mono ?_); (case side1 => exact cb HR0_0 HB); (case side2 => exact HC0_0.out); (case side3 => exact cb HR0_1 HB); (case side4 => exact HC0_1.out); (case side5 => exact cb HR0_2 HB); (case side6 => exact HC0_2.out); rintro e w6 ⟨rfl,hb⟩; refine ⟨_,rfl, ?_⟩; replace BK326:=bl BK326 hb; replace HB:=bs HB hb; clear hb))
  go_ret
  exact ⟨re,bw HB⟩⟩ : Nonempty G_)) :); w4_OpTells.bxo (G:=G_) (inferInstanceAs (Nonempty G_)))
 replace c3:=Zf c3
 subst c3
 rw [if_neg nft] at H
 obtain ⟨y328,hy328⟩ : ∃ y_ : List Int,y_ = (([0,1,(-1),11,12] : List Int)):=⟨_,rfl⟩
 first | rw [Option.bind_some,<- hy328] at H | rw [<- hy328] at H
 have Ny328:=Zz.k hy328
 clear hy328
 by_cases c7 : y328.length + l0_2.length < 17592186044416; rotate_left
 ·rw [if_neg c7] at H
  exact absurd H (by simp)
 show (let G_ : Prop:=_; G_)
 intro G_
 exact (let_tmp i_ : Nonempty G_:=(((⟨by
 subst G_
 rw [if_pos c7] at H
 have LMc7:=Zz.k c7
 clear c7
 obtain ⟨y331,hy331⟩ : ∃ y_ : List Int,y_ = (y328 ++ l0_2):=⟨_,rfl⟩
 first | rw [Option.bind_some,<- hy331] at H | rw [<- hy331] at H
 have Ny331:=Zz.k hy331
 clear hy331
 have H':=Zz.k H
 clear H
 go_enter Tryd.func11,Tryd.ntmps11
 go_wp2_with (first | ((with_reducible refine Qac (N:=1) rfl ?_); refine bx 1 #[.slice A0_0 l0_0.length c0_0, .slice A0_1 l0_1.length c0_1, .slice A0_2 l0_2.length c0_2] 61 (h := ?_); intro gb326 hg w8 hbox hb; have BK326:=Zz.k (hbox); have GW326:=bz HB hg; have GE326:=bz HB hg; replace HB:=bs HB hb; clear hb hbox hg; obtain ⟨_,_,_,_,_,_⟩:=kc3 BK326) | ((with_reducible refine Qab (f:=46) rfl ?_); refine gl (some 21) Tryd.func46 #[.agg #[.slice A0_0 l0_0.length c0_0, .slice A0_1 l0_1.length c0_1, .slice A0_2 l0_2.length c0_2]] (h := ?_); (with_reducible refine (w4_Heavy.calls k _ _ l0_0 _ _ l0_1 _ _ l0_2 false _ ?side1 ?side2 ?side3 ?side4 ?side5 ?side6 A2.out).mono ?_); (case side1 => exact cb HR0_0 HB); (case side2 => exact HC0_0.out); (case side3 => exact cb HR0_1 HB); (case side4 => exact HC0_1.out); (case side5 => exact cb HR0_2 HB); (case side6 => exact HC0_2.out); rintro e w10 ⟨rfl,hb⟩; refine ⟨_,rfl, ?_⟩; replace BK326:=bl BK326 hb; replace HB:=bs HB hb; clear hb) | ((with_reducible refine Qac (N:=22) rfl ?_); refine Kd.R_lit (Kd.int .i64) _ 3 ?hg (N:=22) ?hd (xs:=([0,1,(-1),11,12] : List Int)) (inner:=[.int .i64 0, .int .i64 1, .int .i64 (-1), .int .i64 11, .int .i64 12]) (ok:=fun _ => True) (okp:=fun _ => True) ?hr ?hp (fun _ hk => hk) trivial (Below.refl _ _) (Nat.le_refl _) (by simp) ?_; (case hd => rfl); (case hg => rfl); (case hr => first | (go_simp; done) | (go_simp; rfl)); (case hp => exact (Reps.one (show Kd.M (Kd.int .i64) _ _ _ 0 [.int .i64 0] from rfl) (Reps.one (show Kd.M (Kd.int .i64) _ _ _ 1 [.int .i64 1] from rfl) (Reps.one (show Kd.M (Kd.int .i64) _ _ _ (-1) [.int .i64 (-1)] from rfl) (Reps.one (show Kd.M (Kd.int .i64) _ _ _ 11 [.int .i64 11] from rfl) (Reps.one (show Kd.M (Kd.int .i64) _ _ _ 12 [.int .i64 12] from rfl) (Reps.none _ _))))))); intro v329 w11 ho12 hb hg_ hnew_; clear hg_ hnew_; (first | rw [<- Ny328.out] at ho12 | (simp only [Int.reduceToNat] at ho12; rw [<- Ny328.out] at ho12)); have HO330:=Zz.k (Kd.R_lower ho12 (Qar (bw HB))); replace BK326:=bl BK326 hb; replace HB:=bs HB hb; clear hb ho12; obtain ⟨_,_,_,_,_,_⟩:=kc3 BK326) | ((with_reducible refine gate_builtin (b:=.append) (xs:=#[.tmp 22, .tmp 24]) rfl ?_); at_builtin; refine Kd.R_append_rows (Kd.int .i64) (w0:=w) w.heap.size rfl (.tmp 22) (.tmp 24) 25 3 (.int .i64 0) 8 rfl Tryd.underlying25 info3 rfl (by decide) (by omega) v329 y328 l0_2 _ _ _ (fun _ => True) (fun _ => False) rfl rfl ?aO ?aR (fun _ _ h => h) (fun _ h => h.elim) ?aF ?aB ?aS ?aL ?_; (case aR => exact cb HR0_2 HB); (case aB => exact (bw HB)); (case aF => exact (fun _ _ => trivial)); (case aO => exact (rk HO330)); (case aS => exact (Qar (bw HB))); (case aL => have:=LMc7.out; omega); intro v332 w14 ho hb hg hat; rw [<- Ny331.out] at ho; have n0_:=Zz.k (blk_grown (kk BK326) hg (Kd.R_ne HO330.out BK326.out (by decide))); have n1_:=Zz.k (hb); have n2_:=Zz.k (ho); clear BK326; clear HB; clear HO330; have BK326:=n0_; have HB:=n1_; have HO333:=n2_; clear n0_ n1_ n2_; clear ho hb hg hat))
 go_loopg [4] k (fun kq v4 w' => ∃ (x4_1 : Int),v4 = .int .i64 x4_1 /\ Zz (w4_OpTells.l0 kq y331 x4_1 l0_0 l0_1 l0_2 = some r) /\ Zz (kq <= k) /\ Zz (Kd.R (Kd.int .i64) 3 w' w.heap.size (fun _ => True) v332 y331) /\ Zz (w'.heap[gb326]? = some (.cells #[(.slice A0_0 l0_0.length c0_0),(.slice A0_1 l0_1.length c0_1),(.slice A0_2 l0_2.length c0_2)] 61 (0,0))) /\ Zz (Below w.heap.size w w'))
 case atStart => exact ⟨(0),rf,H',⟨Nat.le_refl _⟩,⟨rk HO333⟩,⟨kk BK326⟩,⟨bw HB⟩⟩
 case round =>
  show (let G_ : Prop:=_; G_)
  intro G_
  exact (let_tmp i_ : Nonempty G_:=(((⟨by
  subst G_
  clear H'
  try clear c3
  obtain ⟨x4_1,rfl,HA,HK1,HO_3,BK326,HB⟩:=hrel
  cases gk with
  | zero => exact absurd HA.out (by simp [w4_OpTells.l0])
  | succ k1 =>
   have H:=HA.out
   clear HA
   simp only [w4_OpTells.l0] at H
   have HC15:=Zz.k H
   clear H
   go_upto_region 5 with (fail)
   go_cut [34] (fun v34 wc => ∃ (kq : Nat) (x34_14 : Bool),v34 = .bool x34_14 /\ Zz (w4_OpTells.j1 kq y331 x4_1 x34_14 l0_0 l0_1 l0_2 = some r) /\ Zz (kq <= k1) /\ Zz (Kd.R (Kd.int .i64) 3 wc w.heap.size (fun _ => True) v332 y331) /\ Zz (wc.heap[gb326]? = some (.cells #[(.slice A0_0 l0_0.length c0_0),(.slice A0_1 l0_1.length c0_1),(.slice A0_2 l0_2.length c0_2)] 61 (0,0))) /\ Zz (Below w.heap.size w wc))
   case first =>
    have H:=HC15.out
    clear HC15
    by_cases c16 : x4_1 < (l0_0.length : Int)
    ·show (let G_ : Prop:=_; G_)
     intro G_
     exact (let_tmp i_ : Nonempty G_:=(((⟨by
     subst G_
     rw [if_pos c16] at H
     have c16b0:=Zd c16
     clear c16
     (first | rw [c16b0] | (simp only [i64_w,i32_w]; rw [c16b0]) | skip)
     have H':=Zz.k H
     clear H
     obtain ⟨_,_,_,_,_,_⟩:=kc3 BK326
     go_wp2
     go_meet
     case rel => exact ⟨_,(decide (x4_1 < 10)),rf,H',⟨by have:=HK1.out; first | omega | exact Nat.le_refl _⟩,⟨rk HO_3⟩,⟨kk BK326⟩,⟨bw HB⟩⟩⟩ : Nonempty G_)) :); w4_OpTells.bxo (G:=G_) (inferInstanceAs (Nonempty G_)))
    rw [if_neg c16] at H
    have c16b0:=Ze c16
    clear c16
    (first | rw [c16b0] | (simp only [i64_w,i32_w]; rw [c16b0]) | skip)
    have H':=Zz.k H
    clear H
    obtain ⟨_,_,_,_,_,_⟩:=kc3 BK326
    go_wp2
    go_meet
    case rel => exact ⟨_,(false),rf,H',⟨by have:=HK1.out; first | omega | exact Nat.le_refl _⟩,⟨rk HO_3⟩,⟨kk BK326⟩,⟨bw HB⟩⟩
   case rest =>
    show (let G_ : Prop:=_; G_)
    intro G_
    exact (let_tmp i_ : Nonempty G_:=(((⟨by
    subst G_
    clear HC15
    obtain ⟨kq,x34_14,rfl,HA,HJ14,HO_3,BK326,HB⟩:=hcut
    cases kq with
    | zero => exact absurd HA.out (by simp [w4_OpTells.j1])
    | succ kj14 =>
     have H:=HA.out
     clear HA
     simp only [w4_OpTells.j1] at H
     by_cases c19 : x34_14 = true; rotate_left
     ·replace c19:=Zf c19
      subst c19
      rw [if_neg nft] at H
      have H':=Zz.k H
      clear H
      go_wp2
      go_loopg [18] kj14 (fun kq v18 w' => ∃ (x18_3 : Int),v18 = .int .i64 x18_3 /\ Zz (w4_OpTells.l2 kq x18_3 l0_0 l0_1 l0_2 = some r) /\ Zz (kq <= kj14) /\ Zz (w'.heap[gb326]? = some (.cells #[(.slice A0_0 l0_0.length c0_0),(.slice A0_1 l0_1.length c0_1),(.slice A0_2 l0_2.length c0_2)] 61 (0,0))) /\ Zz (Below w.heap.size w w'))
      case atStart => exact ⟨(0),rf,H',⟨Nat.le_refl _⟩,⟨kk BK326⟩,⟨bw HB⟩⟩
      case round =>
       show (let G_ : Prop:=_; G_)
       intro G_
       exact (let_tmp i_ : Nonempty G_:=(((⟨by
       subst G_
       clear H'
       try clear c19
       obtain ⟨x18_3,rfl,HA,HK3,BK326,HB⟩:=hrel
       cases gk with
       | zero => exact absurd HA.out (by simp [w4_OpTells.l2])
       | succ k3 =>
        have H:=HA.out
        clear HA
        simp only [w4_OpTells.l2] at H
        have HC143:=Zz.k H
        clear H
        go_upto_region 31 with (fail)
        go_cut [157] (fun v157 wc => ∃ (kq : Nat) (x157_142 : Bool),v157 = .bool x157_142 /\ Zz (w4_OpTells.j8 kq x18_3 x157_142 l0_0 l0_1 l0_2 = some r) /\ Zz (kq <= k3) /\ Zz (wc.heap[gb326]? = some (.cells #[(.slice A0_0 l0_0.length c0_0),(.slice A0_1 l0_1.length c0_1),(.slice A0_2 l0_2.length c0_2)] 61 (0,0))) /\ Zz (Below w.heap.size w wc))
        case first =>
         have H:=HC143.out
         clear HC143
         by_cases c144 : x18_3 < (l0_1.length : Int)
         ·show (let G_ : Prop:=_; G_)
          intro G_
          exact (let_tmp i_ : Nonempty G_:=(((⟨by
          subst G_
          rw [if_pos c144] at H
          have c144b0:=Zd c144
          clear c144
          (first | rw [c144b0] | (simp only [i64_w,i32_w]; rw [c144b0]) | skip)
          have H':=Zz.k H
          clear H
          obtain ⟨_,_,_,_,_,_⟩:=kc3 BK326
          go_wp2
          go_meet
          case rel => exact ⟨_,(decide (x18_3 < 20)),rf,H',⟨by have:=HK1.out; have:=HJ14.out; have:=HK3.out; first | omega | exact Nat.le_refl _⟩,⟨kk BK326⟩,⟨bw HB⟩⟩⟩ : Nonempty G_)) :); w4_OpTells.bxo (G:=G_) (inferInstanceAs (Nonempty G_)))
         rw [if_neg c144] at H
         have c144b0:=Ze c144
         clear c144
         (first | rw [c144b0] | (simp only [i64_w,i32_w]; rw [c144b0]) | skip)
         have H':=Zz.k H
         clear H
         obtain ⟨_,_,_,_,_,_⟩:=kc3 BK326
         go_wp2
         go_meet
         case rel => exact ⟨_,(false),rf,H',⟨by have:=HK1.out; have:=HJ14.out; have:=HK3.out; first | omega | exact Nat.le_refl _⟩,⟨kk BK326⟩,⟨bw HB⟩⟩
        case rest =>
         show (let G_ : Prop:=_; G_)
         intro G_
         exact (let_tmp i_ : Nonempty G_:=(((⟨by
         subst G_
         clear HC143
         obtain ⟨kq,x157_142,rfl,HA,HJ142,BK326,HB⟩:=hcut
         cases kq with
         | zero => exact absurd HA.out (by simp [w4_OpTells.j8])
         | succ kj142 =>
          have H:=HA.out
          clear HA
          simp only [w4_OpTells.j8] at H
          by_cases c147 : x157_142 = true; rotate_left
          ·replace c147:=Zf c147
           subst c147
           rw [if_neg nft] at H
           obtain ⟨t386,A178,H⟩:=bE H
           obtain rfl:=Zo H
           go_wp2_with (first | ((with_reducible refine Qab (f:=45) rfl ?_); refine gl (some 209) Tryd.func45 #[] (h := ?_); (with_reducible refine (w4_wakes.calls kj142  t386 _ A178.out).mono ?_); rintro e w179 ⟨rfl,hb⟩; refine ⟨_,rfl, ?_⟩; replace BK326:=bl BK326 hb; replace HB:=bs HB hb; clear hb))
           go_ret
           exact ⟨re,bw HB⟩
          show (let G_ : Prop:=_; G_)
          intro G_
          exact (let_tmp i_ : Nonempty G_:=(((⟨by
          subst G_
          subst c147
          rw [if_pos rfl] at H
          by_cases c148 : 0 <= x18_3; rotate_left
          ·rw [if_neg c148] at H
           exact absurd H (by simp)
          show (let G_ : Prop:=_; G_)
          intro G_
          exact (let_tmp i_ : Nonempty G_:=(((⟨by
          subst G_
          rw [if_pos c148] at H
          have c148b0:=Zd c148
          clear c148
          by_cases c149 : x18_3 < (l0_1.length : Int); rotate_left
          ·rw [if_neg c149] at H
           exact absurd H (by simp)
          show (let G_ : Prop:=_; G_)
          intro G_
          exact (let_tmp i_ : Nonempty G_:=(((⟨by
          subst G_
          rw [if_pos c149] at H
          have c149b0:=Zd c149
          clear c149
          obtain ⟨t388,A150,H⟩:=bE H
          obtain ⟨t389,A151,H⟩:=bE H
          obtain ⟨t391,A152,H⟩:=bE H
          by_cases c153 : ((t389 == 0) != t391) = true
          ·show (let G_ : Prop:=_; G_)
           intro G_
           exact (let_tmp i_ : Nonempty G_:=(((⟨by
           subst G_
           rw [if_pos c153] at H
           have c153b0 : ((t389 == 0) != t391) = true:=c153
           (try (have c153b1 : decide ((t389 == 0) = t391) = false:=by simpa using c153))
           (try (have c153b2 : ((t389 == 0) == t391) = false:=by simpa using c153))
           (try (have c153b3 : ¬ ((t389 == 0) = t391):=by simpa using c153))
           clear c153
           obtain rfl:=Zo H
           try go_wp2
           have n0_:=Zz.k (Qai BK326.out)
           have n1_:=Zz.k (Qag HB.out)
           clear BK326
           clear HB
           have BK326:=n0_
           have HB:=n1_
           clear n0_ n1_
           have p387 : 0 <= (x18_3 : Int):=od
           have q387 : x18_3 < (l0_1.length : Int):=od
           obtain ⟨ad387,e387,hx387_0,hx387_1,hx387_2⟩:=Qas HR0_1.out x18_3 p387 q387
           have hw387_2:=hx387_2
           have hw387_1:=hx387_1
           have hw387_0:=hx387_0
           cases e387
           replace hx387_0:=cl HB hx387_0
           replace hx387_1:=cl HB hx387_1
           replace hx387_2:=cl HB hx387_2
           replace p387:=eq_true p387
           replace q387:=eq_true q387
           have p390 : 0 <= (x18_3 : Int):=od
           have q390 : x18_3 < (l0_1.length : Int):=od
           obtain ⟨ad390,e390,hx390_0,hx390_1,hx390_2⟩:=Qas HR0_1.out x18_3 p390 q390
           have hw390_2:=hx390_2
           have hw390_1:=hx390_1
           have hw390_0:=hx390_0
           obtain rfl : ad387 = ad390:=(by injection e390)
           replace hx390_0:=cl HB hx390_0
           replace hx390_1:=cl HB hx390_1
           replace hx390_2:=cl HB hx390_2
           replace p390:=eq_true p390
           replace q390:=eq_true q390
           refine stP (fun w' => B3 w' gb326 (.slice A0_0 l0_0.length c0_0) (.slice (some ad387) l0_1.length c0_1) (.slice A0_2 l0_2.length c0_2) (w'.cell? (ad387.add ((x18_3).toNat * 3)) = some (.int .i64 ((Qaa l0_1 x18_3).f0)) /\ w'.cell? ⟨(ad387.add ((x18_3).toNat * 3)).block,(ad387.add ((x18_3).toNat * 3)).off + 1,none⟩ = some (.int .i64 ((Qaa l0_1 x18_3).f1)) /\ w'.cell? ⟨(ad387.add ((x18_3).toNat * 3)).block,(ad387.add ((x18_3).toNat * 3)).off + 2,none⟩ = some (.int .i64 ((Qaa l0_1 x18_3).f2)) /\ w'.cell? (ad387.add ((x18_3).toNat * 3)) = some (.int .i64 ((Qaa l0_1 x18_3).f0)) /\ w'.cell? ⟨(ad387.add ((x18_3).toNat * 3)).block,(ad387.add ((x18_3).toNat * 3)).off + 1,none⟩ = some (.int .i64 ((Qaa l0_1 x18_3).f1)) /\ w'.cell? ⟨(ad387.add ((x18_3).toNat * 3)).block,(ad387.add ((x18_3).toNat * 3)).off + 2,none⟩ = some (.int .i64 ((Qaa l0_1 x18_3).f2)))) 15 (b3 BK326 ⟨(cW HB hw387_0),(cW HB hw387_1),(cW HB hw387_2),(cW HB hw390_0),(cW HB hw390_1),(cW HB hw390_2)⟩) (h:=fun hHeld => ?_); refine Qav w4_OpTells.tab33 w4_OpTells.bits33 (fun HT_ HW_ => ?_)
           generalize wc.drew = w154 at BK326 HB hx387_0 hx387_1 hx387_2 hx390_0 hx390_1 hx390_2 hHeld ⊢
           refine pu HT_ 0 160 1 (h := ?_)
           refine pu HT_ 2 162 5 (h := ?_)
           refine pu HT_ 8 168 261 (h := ?_)
           refine pu HT_ 10 170 1285 (h := ?_)
           refine tk HT_ HW_ hHeld 1 161 1287 (h := ?_)
           refine pu HT_ 3 163 1295 (h := ?_)
           refine tk HT_ HW_ hHeld 4 164 1311 (h := ?_)
           refine tk HT_ HW_ hHeld 9 169 1823 (h := ?_)
           refine pu HT_ 11 171 3871 (h := ?_)
           refine tk HT_ HW_ hHeld 12 172 7967 (h := ?_)
           refine on HT_ 5 (some 165) 7999 (h:=fun K hK => ?_)
           refine gS Tryd.func52 #[.agg #[.int .i64 ((Qaa l0_1 x18_3).f0), .int .i64 ((Qaa l0_1 x18_3).f1), .int .i64 ((Qaa l0_1 x18_3).f2)]] (h := ?_)
           with_reducible refine (op_Elem.calls ((Qaa l0_1 x18_3).f0) ((Qaa l0_1 x18_3).f1) ((Qaa l0_1 x18_3).f2) t388 _ A150.out).mono ?_
           rintro e w155 ⟨rfl,hb⟩
           refine ⟨_,rfl, ?_⟩
           have n0_:=bl BK326 hb
           have n1_:=bs HB hb
           clear BK326
           clear HB
           have BK326:=n0_
           have HB:=n1_
           clear n0_ n1_
           (try clear hb)
           (try clear hb2)
           (try clear hk)
           (try clear hi)
           refine hK.out _ _ (b3 BK326 ⟨(cW HB hw387_0),(cW HB hw387_1),(cW HB hw387_2),(cW HB hw390_0),(cW HB hw390_1),(cW HB hw390_2)⟩) (fun hHeld => ?_)
           clear hK K
           refine nn 165 (h := ?_)
           refine on HT_ 6 (some 166) 8063 (h:=fun K hK => ?_)
           refine gS Tryd.func42 #[.int .i64 t388] (h := ?_)
           with_reducible refine (w4_num.calls t388 t389 _ A151.out).mono ?_
           rintro e w' ⟨rfl,⟨nd,rfl⟩⟩
           refine ⟨_,rfl, ?_⟩
           refine hK.out _ _ (b3 BK326 ⟨(cW HB hw387_0),(cW HB hw387_1),(cW HB hw387_2),(cW HB hw390_0),(cW HB hw390_1),(cW HB hw390_2)⟩) (fun hHeld => ?_)
           clear hK K
           refine nn 166 (h := ?_)
           refine pu HT_ 7 167 8191 (h := ?_)
           refine on HT_ 13 (some 173) 16383 (h:=fun K hK => ?_)
           refine gS Tryd.func53 #[.agg #[.int .i64 ((Qaa l0_1 x18_3).f0), .int .i64 ((Qaa l0_1 x18_3).f1), .int .i64 ((Qaa l0_1 x18_3).f2)]] (h := ?_)
           with_reducible refine (r4_Elem.calls ((Qaa l0_1 x18_3).f0) ((Qaa l0_1 x18_3).f1) ((Qaa l0_1 x18_3).f2) t391 _ A152.out).mono ?_
           rintro e w156 ⟨rfl,hb⟩
           refine ⟨_,rfl, ?_⟩
           have n0_:=bl BK326 hb
           have n1_:=bs HB hb
           clear BK326
           clear HB
           have BK326:=n0_
           have HB:=n1_
           clear n0_ n1_
           (try clear hb)
           (try clear hb2)
           (try clear hk)
           (try clear hi)
           refine hK.out _ _ (b3 BK326 ⟨(cW HB hw387_0),(cW HB hw387_1),(cW HB hw387_2),(cW HB hw390_0),(cW HB hw390_1),(cW HB hw390_2)⟩) (fun hHeld => ?_)
           clear hK K
           refine nn 173 (h := ?_)
           refine pu HT_ 14 174 32767 (h := ?_)
           refine dn HT_ (h := ?_)
           try go_wp2
           go_ret
           exact ⟨re,bw HB⟩⟩ : Nonempty G_)) :); w4_OpTells.bxo (G:=G_) (inferInstanceAs (Nonempty G_)))
          rw [if_neg c153] at H
          have c153b0 : ((t389 == 0) != t391) = false:=by simpa using c153
          (try (have c153b1 : decide ((t389 == 0) = t391) = true:=by simpa using c153))
          (try (have c153b2 : ((t389 == 0) == t391) = true:=by simpa using c153))
          clear c153
          have H':=Zz.k H
          clear H
          try go_wp2
          have n0_:=Zz.k (Qai BK326.out)
          have n1_:=Zz.k (Qag HB.out)
          clear BK326
          clear HB
          have BK326:=n0_
          have HB:=n1_
          clear n0_ n1_
          have p387 : 0 <= (x18_3 : Int):=od
          have q387 : x18_3 < (l0_1.length : Int):=od
          obtain ⟨ad387,e387,hx387_0,hx387_1,hx387_2⟩:=Qas HR0_1.out x18_3 p387 q387
          have hw387_2:=hx387_2
          have hw387_1:=hx387_1
          have hw387_0:=hx387_0
          cases e387
          replace hx387_0:=cl HB hx387_0
          replace hx387_1:=cl HB hx387_1
          replace hx387_2:=cl HB hx387_2
          replace p387:=eq_true p387
          replace q387:=eq_true q387
          have p390 : 0 <= (x18_3 : Int):=od
          have q390 : x18_3 < (l0_1.length : Int):=od
          obtain ⟨ad390,e390,hx390_0,hx390_1,hx390_2⟩:=Qas HR0_1.out x18_3 p390 q390
          have hw390_2:=hx390_2
          have hw390_1:=hx390_1
          have hw390_0:=hx390_0
          obtain rfl : ad387 = ad390:=(by injection e390)
          replace hx390_0:=cl HB hx390_0
          replace hx390_1:=cl HB hx390_1
          replace hx390_2:=cl HB hx390_2
          replace p390:=eq_true p390
          replace q390:=eq_true q390
          refine stP (fun w' => B3 w' gb326 (.slice A0_0 l0_0.length c0_0) (.slice (some ad387) l0_1.length c0_1) (.slice A0_2 l0_2.length c0_2) (w'.cell? (ad387.add ((x18_3).toNat * 3)) = some (.int .i64 ((Qaa l0_1 x18_3).f0)) /\ w'.cell? ⟨(ad387.add ((x18_3).toNat * 3)).block,(ad387.add ((x18_3).toNat * 3)).off + 1,none⟩ = some (.int .i64 ((Qaa l0_1 x18_3).f1)) /\ w'.cell? ⟨(ad387.add ((x18_3).toNat * 3)).block,(ad387.add ((x18_3).toNat * 3)).off + 2,none⟩ = some (.int .i64 ((Qaa l0_1 x18_3).f2)) /\ w'.cell? (ad387.add ((x18_3).toNat * 3)) = some (.int .i64 ((Qaa l0_1 x18_3).f0)) /\ w'.cell? ⟨(ad387.add ((x18_3).toNat * 3)).block,(ad387.add ((x18_3).toNat * 3)).off + 1,none⟩ = some (.int .i64 ((Qaa l0_1 x18_3).f1)) /\ w'.cell? ⟨(ad387.add ((x18_3).toNat * 3)).block,(ad387.add ((x18_3).toNat * 3)).off + 2,none⟩ = some (.int .i64 ((Qaa l0_1 x18_3).f2)))) 15 (b3 BK326 ⟨(cW HB hw387_0),(cW HB hw387_1),(cW HB hw387_2),(cW HB hw390_0),(cW HB hw390_1),(cW HB hw390_2)⟩) (h:=fun hHeld => ?_); refine Qav w4_OpTells.tab33 w4_OpTells.bits33 (fun HT_ HW_ => ?_)
          generalize wc.drew = w157 at BK326 HB hx387_0 hx387_1 hx387_2 hx390_0 hx390_1 hx390_2 hHeld ⊢
          refine pu HT_ 0 160 1 (h := ?_)
          refine pu HT_ 2 162 5 (h := ?_)
          refine pu HT_ 8 168 261 (h := ?_)
          refine pu HT_ 10 170 1285 (h := ?_)
          refine tk HT_ HW_ hHeld 1 161 1287 (h := ?_)
          refine pu HT_ 3 163 1295 (h := ?_)
          refine tk HT_ HW_ hHeld 4 164 1311 (h := ?_)
          refine tk HT_ HW_ hHeld 9 169 1823 (h := ?_)
          refine pu HT_ 11 171 3871 (h := ?_)
          refine tk HT_ HW_ hHeld 12 172 7967 (h := ?_)
          refine on HT_ 5 (some 165) 7999 (h:=fun K hK => ?_)
          refine gS Tryd.func52 #[.agg #[.int .i64 ((Qaa l0_1 x18_3).f0), .int .i64 ((Qaa l0_1 x18_3).f1), .int .i64 ((Qaa l0_1 x18_3).f2)]] (h := ?_)
          with_reducible refine (op_Elem.calls ((Qaa l0_1 x18_3).f0) ((Qaa l0_1 x18_3).f1) ((Qaa l0_1 x18_3).f2) t388 _ A150.out).mono ?_
          rintro e w158 ⟨rfl,hb⟩
          refine ⟨_,rfl, ?_⟩
          have n0_:=bl BK326 hb
          have n1_:=bs HB hb
          clear BK326
          clear HB
          have BK326:=n0_
          have HB:=n1_
          clear n0_ n1_
          (try clear hb)
          (try clear hb2)
          (try clear hk)
          (try clear hi)
          refine hK.out _ _ (b3 BK326 ⟨(cW HB hw387_0),(cW HB hw387_1),(cW HB hw387_2),(cW HB hw390_0),(cW HB hw390_1),(cW HB hw390_2)⟩) (fun hHeld => ?_)
          clear hK K
          refine nn 165 (h := ?_)
          refine on HT_ 6 (some 166) 8063 (h:=fun K hK => ?_)
          refine gS Tryd.func42 #[.int .i64 t388] (h := ?_)
          with_reducible refine (w4_num.calls t388 t389 _ A151.out).mono ?_
          rintro e w' ⟨rfl,⟨nd,rfl⟩⟩
          refine ⟨_,rfl, ?_⟩
          refine hK.out _ _ (b3 BK326 ⟨(cW HB hw387_0),(cW HB hw387_1),(cW HB hw387_2),(cW HB hw390_0),(cW HB hw390_1),(cW HB hw390_2)⟩) (fun hHeld => ?_)
          clear hK K
          refine nn 166 (h := ?_)
          refine pu HT_ 7 167 8191 (h := ?_)
          refine on HT_ 13 (some 173) 16383 (h:=fun K hK => ?_)
          refine gS Tryd.func53 #[.agg #[.int .i64 ((Qaa l0_1 x18_3).f0), .int .i64 ((Qaa l0_1 x18_3).f1), .int .i64 ((Qaa l0_1 x18_3).f2)]] (h := ?_)
          with_reducible refine (r4_Elem.calls ((Qaa l0_1 x18_3).f0) ((Qaa l0_1 x18_3).f1) ((Qaa l0_1 x18_3).f2) t391 _ A152.out).mono ?_
          rintro e w159 ⟨rfl,hb⟩
          refine ⟨_,rfl, ?_⟩
          have n0_:=bl BK326 hb
          have n1_:=bs HB hb
          clear BK326
          clear HB
          have BK326:=n0_
          have HB:=n1_
          clear n0_ n1_
          (try clear hb)
          (try clear hb2)
          (try clear hk)
          (try clear hi)
          refine hK.out _ _ (b3 BK326 ⟨(cW HB hw387_0),(cW HB hw387_1),(cW HB hw387_2),(cW HB hw390_0),(cW HB hw390_1),(cW HB hw390_2)⟩) (fun hHeld => ?_)
          clear hK K
          refine nn 173 (h := ?_)
          refine pu HT_ 14 174 32767 (h := ?_)
          refine dn HT_ (h := ?_)
          try go_wp2
          go_loopg [19] kj142 (fun kq v19 w' => ∃ (x19_5 : Int),v19 = .int .i64 x19_5 /\ Zz (w4_OpTells.l3 kq x18_3 x19_5 l0_0 l0_1 l0_2 = some r) /\ Zz (kq <= kj142) /\ Zz (w'.heap[gb326]? = some (.cells #[(.slice A0_0 l0_0.length c0_0),(.slice (some ad387) l0_1.length c0_1),(.slice A0_2 l0_2.length c0_2)] 61 (0,0))) /\ Zz (Below w.heap.size w w'))
          case atStart => exact ⟨(0),rf,H',⟨Nat.le_refl _⟩,⟨kk BK326⟩,⟨bw HB⟩⟩
          case round =>
           show (let G_ : Prop:=_; G_)
           intro G_
           exact (let_tmp i_ : Nonempty G_:=(((⟨by
           subst G_
           clear H'
           try clear c147; try clear c148b0; try clear c149b0; try clear c153b0; try clear c153b1; try clear c153b2; try clear hx387_0; try clear hx387_1; try clear hx387_2; try clear hx390_0; try clear hx390_1; try clear hx390_2; try clear p387; try clear p390; try clear q387; try clear q390
           obtain ⟨x19_5,rfl,HA,HK5,BK326,HB⟩:=hrel
           cases gk with
           | zero => exact absurd HA.out (by simp [w4_OpTells.l3])
           | succ k5 =>
            have H:=HA.out
            clear HA
            simp only [w4_OpTells.l3] at H
            have HC160:=Zz.k H
            clear H
            go_upto_region 36 with (fail)
            go_cut [183] (fun v183 wc => ∃ (kq : Nat) (x183_159 : Bool),v183 = .bool x183_159 /\ Zz (w4_OpTells.j10 kq x18_3 x19_5 x183_159 l0_0 l0_1 l0_2 = some r) /\ Zz (kq <= k5) /\ Zz (wc.heap[gb326]? = some (.cells #[(.slice A0_0 l0_0.length c0_0),(.slice (some ad387) l0_1.length c0_1),(.slice A0_2 l0_2.length c0_2)] 61 (0,0))) /\ Zz (Below w.heap.size w wc))
            case first =>
             have H:=HC160.out
             clear HC160
             by_cases c161 : x19_5 < (l0_1.length : Int)
             ·show (let G_ : Prop:=_; G_)
              intro G_
              exact (let_tmp i_ : Nonempty G_:=(((⟨by
              subst G_
              rw [if_pos c161] at H
              have c161b0:=Zd c161
              clear c161
              (first | rw [c161b0] | (simp only [i64_w,i32_w]; rw [c161b0]) | skip)
              have H':=Zz.k H
              clear H
              obtain ⟨_,_,_,_,_,_⟩:=kc3 BK326
              go_wp2
              go_meet
              case rel => exact ⟨_,(decide (x19_5 < 20)),rf,H',⟨by have:=HK1.out; have:=HJ14.out; have:=HK3.out; have:=HJ142.out; have:=HK5.out; first | omega | exact Nat.le_refl _⟩,⟨kk BK326⟩,⟨bw HB⟩⟩⟩ : Nonempty G_)) :); w4_OpTells.bxo (G:=G_) (inferInstanceAs (Nonempty G_)))
             rw [if_neg c161] at H
             have c161b0:=Ze c161
             clear c161
             (first | rw [c161b0] | (simp only [i64_w,i32_w]; rw [c161b0]) | skip)
             have H':=Zz.k H
             clear H
             obtain ⟨_,_,_,_,_,_⟩:=kc3 BK326
             go_wp2
             go_meet
             case rel => exact ⟨_,(false),rf,H',⟨by have:=HK1.out; have:=HJ14.out; have:=HK3.out; have:=HJ142.out; have:=HK5.out; first | omega | exact Nat.le_refl _⟩,⟨kk BK326⟩,⟨bw HB⟩⟩
            case rest =>
             show (let G_ : Prop:=_; G_)
             intro G_
             exact (let_tmp i_ : Nonempty G_:=(((⟨by
             subst G_
             clear HC160
             obtain ⟨kq,x183_159,rfl,HA,HJ159,BK326,HB⟩:=hcut
             cases kq with
             | zero => exact absurd HA.out (by simp [w4_OpTells.j10])
             | succ kj159 =>
              have H:=HA.out
              clear HA
              simp only [w4_OpTells.j10] at H
              by_cases c164 : x183_159 = true; rotate_left
              ·replace c164:=Zf c164
               subst c164
               rw [if_neg nft] at H
               have H':=Zz.k H
               clear H
               go_wp2
               go_roundg kj159
               case measure => have:=HK1.out; have:=HJ14.out; have:=HK3.out; have:=HJ142.out; have:=HK5.out; have:=HJ159.out; omega
               case rel => exact ⟨(wrap64 (x18_3 + 1)),rf,H',⟨by have:=HK1.out; have:=HJ14.out; have:=HK3.out; have:=HJ142.out; have:=HK5.out; have:=HJ159.out; omega⟩,⟨kk BK326⟩,⟨bw HB⟩⟩
              show (let G_ : Prop:=_; G_)
              intro G_
              exact (let_tmp i_ : Nonempty G_:=(((⟨by
              subst G_
              subst c164
              rw [if_pos rfl] at H
              by_cases c165 : 0 <= x18_3; rotate_left
              ·rw [if_neg c165] at H
               exact absurd H (by simp)
              show (let G_ : Prop:=_; G_)
              intro G_
              exact (let_tmp i_ : Nonempty G_:=(((⟨by
              subst G_
              rw [if_pos c165] at H
              have c165b0:=Zd c165
              clear c165
              by_cases c166 : x18_3 < (l0_1.length : Int); rotate_left
              ·rw [if_neg c166] at H
               exact absurd H (by simp)
              show (let G_ : Prop:=_; G_)
              intro G_
              exact (let_tmp i_ : Nonempty G_:=(((⟨by
              subst G_
              rw [if_pos c166] at H
              have c166b0:=Zd c166
              clear c166
              by_cases c167 : 0 <= x19_5; rotate_left
              ·rw [if_neg c167] at H
               exact absurd H (by simp)
              show (let G_ : Prop:=_; G_)
              intro G_
              exact (let_tmp i_ : Nonempty G_:=(((⟨by
              subst G_
              rw [if_pos c167] at H
              have c167b0:=Zd c167
              clear c167
              by_cases c168 : x19_5 < (l0_1.length : Int); rotate_left
              ·rw [if_neg c168] at H
               exact absurd H (by simp)
              show (let G_ : Prop:=_; G_)
              intro G_
              exact (let_tmp i_ : Nonempty G_:=(((⟨by
              subst G_
              rw [if_pos c168] at H
              have c168b0:=Zd c168
              clear c168
              obtain ⟨t394,A169,H⟩:=bE H
              obtain ⟨t397,A170,H⟩:=bE H
              by_cases c171 : (t394 != t397) = true
              ·show (let G_ : Prop:=_; G_)
               intro G_
               exact (let_tmp i_ : Nonempty G_:=(((⟨by
               subst G_
               rw [if_pos c171] at H
               have c171b0 : (t394 != t397) = true:=c171
               (try (have c171b1 : decide (t394 = t397) = false:=by simpa using c171))
               (try (have c171b2 : (t394 == t397) = false:=by simpa using c171))
               (try (have c171b3 : ¬ (t394 = t397):=by simpa using c171))
               clear c171
               obtain rfl:=Zo H
               try go_wp2
               have n0_:=Zz.k (Qai BK326.out)
               have n1_:=Zz.k (Qag HB.out)
               clear BK326
               clear HB
               have BK326:=n0_
               have HB:=n1_
               clear n0_ n1_
               have p392 : 0 <= (x18_3 : Int):=od
               have q392 : x18_3 < (l0_1.length : Int):=od
               obtain ⟨ad392,e392,hx392_0,hx392_1,hx392_2⟩:=Qas HR0_1.out x18_3 p392 q392
               have hw392_2:=hx392_2
               have hw392_1:=hx392_1
               have hw392_0:=hx392_0
               obtain rfl : ad387 = ad392:=(by injection e392)
               replace hx392_0:=cl HB hx392_0
               replace hx392_1:=cl HB hx392_1
               replace hx392_2:=cl HB hx392_2
               replace p392:=eq_true p392
               replace q392:=eq_true q392
               have p393 : 0 <= (x19_5 : Int):=od
               have q393 : x19_5 < (l0_1.length : Int):=od
               obtain ⟨ad393,e393,hx393_0,hx393_1,hx393_2⟩:=Qas HR0_1.out x19_5 p393 q393
               have hw393_2:=hx393_2
               have hw393_1:=hx393_1
               have hw393_0:=hx393_0
               obtain rfl : ad387 = ad393:=(by injection e393)
               replace hx393_0:=cl HB hx393_0
               replace hx393_1:=cl HB hx393_1
               replace hx393_2:=cl HB hx393_2
               replace p393:=eq_true p393
               replace q393:=eq_true q393
               have p395 : 0 <= (x18_3 : Int):=od
               have q395 : x18_3 < (l0_1.length : Int):=od
               obtain ⟨ad395,e395,hx395_0,hx395_1,hx395_2⟩:=Qas HR0_1.out x18_3 p395 q395
               have hw395_2:=hx395_2
               have hw395_1:=hx395_1
               have hw395_0:=hx395_0
               obtain rfl : ad387 = ad395:=(by injection e395)
               replace hx395_0:=cl HB hx395_0
               replace hx395_1:=cl HB hx395_1
               replace hx395_2:=cl HB hx395_2
               replace p395:=eq_true p395
               replace q395:=eq_true q395
               have p396 : 0 <= (x19_5 : Int):=od
               have q396 : x19_5 < (l0_1.length : Int):=od
               obtain ⟨ad396,e396,hx396_0,hx396_1,hx396_2⟩:=Qas HR0_1.out x19_5 p396 q396
               have hw396_2:=hx396_2
               have hw396_1:=hx396_1
               have hw396_0:=hx396_0
               obtain rfl : ad387 = ad396:=(by injection e396)
               replace hx396_0:=cl HB hx396_0
               replace hx396_1:=cl HB hx396_1
               replace hx396_2:=cl HB hx396_2
               replace p396:=eq_true p396
               replace q396:=eq_true q396
               refine stP (fun w' => B3 w' gb326 (.slice A0_0 l0_0.length c0_0) (.slice (some ad387) l0_1.length c0_1) (.slice A0_2 l0_2.length c0_2) (w'.cell? (ad387.add ((x18_3).toNat * 3)) = some (.int .i64 ((Qaa l0_1 x18_3).f0)) /\ w'.cell? ⟨(ad387.add ((x18_3).toNat * 3)).block,(ad387.add ((x18_3).toNat * 3)).off + 1,none⟩ = some (.int .i64 ((Qaa l0_1 x18_3).f1)) /\ w'.cell? ⟨(ad387.add ((x18_3).toNat * 3)).block,(ad387.add ((x18_3).toNat * 3)).off + 2,none⟩ = some (.int .i64 ((Qaa l0_1 x18_3).f2)) /\ w'.cell? (ad387.add ((x19_5).toNat * 3)) = some (.int .i64 ((Qaa l0_1 x19_5).f0)) /\ w'.cell? ⟨(ad387.add ((x19_5).toNat * 3)).block,(ad387.add ((x19_5).toNat * 3)).off + 1,none⟩ = some (.int .i64 ((Qaa l0_1 x19_5).f1)) /\ w'.cell? ⟨(ad387.add ((x19_5).toNat * 3)).block,(ad387.add ((x19_5).toNat * 3)).off + 2,none⟩ = some (.int .i64 ((Qaa l0_1 x19_5).f2)) /\ w'.cell? (ad387.add ((x18_3).toNat * 3)) = some (.int .i64 ((Qaa l0_1 x18_3).f0)) /\ w'.cell? ⟨(ad387.add ((x18_3).toNat * 3)).block,(ad387.add ((x18_3).toNat * 3)).off + 1,none⟩ = some (.int .i64 ((Qaa l0_1 x18_3).f1)) /\ w'.cell? ⟨(ad387.add ((x18_3).toNat * 3)).block,(ad387.add ((x18_3).toNat * 3)).off + 2,none⟩ = some (.int .i64 ((Qaa l0_1 x18_3).f2)) /\ w'.cell? (ad387.add ((x19_5).toNat * 3)) = some (.int .i64 ((Qaa l0_1 x19_5).f0)) /\ w'.cell? ⟨(ad387.add ((x19_5).toNat * 3)).block,(ad387.add ((x19_5).toNat * 3)).off + 1,none⟩ = some (.int .i64 ((Qaa l0_1 x19_5).f1)) /\ w'.cell? ⟨(ad387.add ((x19_5).toNat * 3)).block,(ad387.add ((x19_5).toNat * 3)).off + 2,none⟩ = some (.int .i64 ((Qaa l0_1 x19_5).f2)))) 23 (b3 BK326 ⟨(cW HB hw392_0),(cW HB hw392_1),(cW HB hw392_2),(cW HB hw393_0),(cW HB hw393_1),(cW HB hw393_2),(cW HB hw395_0),(cW HB hw395_1),(cW HB hw395_2),(cW HB hw396_0),(cW HB hw396_1),(cW HB hw396_2)⟩) (h:=fun hHeld => ?_); refine Qav w4_OpTells.tab38 w4_OpTells.bits38 (fun HT_ HW_ => ?_)
               generalize wc.drew = w172 at BK326 HB hx392_0 hx392_1 hx392_2 hx393_0 hx393_1 hx393_2 hx395_0 hx395_1 hx395_2 hx396_0 hx396_1 hx396_2 hHeld ⊢
               refine pu HT_ 0 186 1 (h := ?_)
               refine pu HT_ 2 188 5 (h := ?_)
               refine pu HT_ 5 191 37 (h := ?_)
               refine pu HT_ 7 193 165 (h := ?_)
               refine pu HT_ 11 197 2213 (h := ?_)
               refine pu HT_ 13 199 10405 (h := ?_)
               refine pu HT_ 16 202 75941 (h := ?_)
               refine pu HT_ 18 204 338085 (h := ?_)
               refine tk HT_ HW_ hHeld 1 187 338087 (h := ?_)
               refine pu HT_ 3 189 338095 (h := ?_)
               refine tk HT_ HW_ hHeld 4 190 338111 (h := ?_)
               refine tk HT_ HW_ hHeld 6 192 338175 (h := ?_)
               refine pu HT_ 8 194 338431 (h := ?_)
               refine tk HT_ HW_ hHeld 9 195 338943 (h := ?_)
               refine tk HT_ HW_ hHeld 12 198 343039 (h := ?_)
               refine pu HT_ 14 200 359423 (h := ?_)
               refine tk HT_ HW_ hHeld 15 201 392191 (h := ?_)
               refine tk HT_ HW_ hHeld 17 203 523263 (h := ?_)
               refine pu HT_ 19 205 1047551 (h := ?_)
               refine tk HT_ HW_ hHeld 20 206 2096127 (h := ?_)
               refine on HT_ 10 (some 196) 2097151 (h:=fun K hK => ?_)
               refine gS Tryd.func54 #[.agg #[.int .i64 ((Qaa l0_1 x18_3).f0), .int .i64 ((Qaa l0_1 x18_3).f1), .int .i64 ((Qaa l0_1 x18_3).f2)], .agg #[.int .i64 ((Qaa l0_1 x19_5).f0), .int .i64 ((Qaa l0_1 x19_5).f1), .int .i64 ((Qaa l0_1 x19_5).f2)]] (h := ?_)
               with_reducible refine (op_Less.calls kj159 ((Qaa l0_1 x18_3).f0) ((Qaa l0_1 x18_3).f1) ((Qaa l0_1 x18_3).f2) ((Qaa l0_1 x19_5).f0) ((Qaa l0_1 x19_5).f1) ((Qaa l0_1 x19_5).f2) t394 _ A169.out).mono ?_
               rintro e w173 ⟨rfl,hb⟩
               refine ⟨_,rfl, ?_⟩
               have n0_:=bl BK326 hb
               have n1_:=bs HB hb
               clear BK326
               clear HB
               have BK326:=n0_
               have HB:=n1_
               clear n0_ n1_
               (try clear hb)
               (try clear hb2)
               (try clear hk)
               (try clear hi)
               refine hK.out _ _ (b3 BK326 ⟨(cW HB hw392_0),(cW HB hw392_1),(cW HB hw392_2),(cW HB hw393_0),(cW HB hw393_1),(cW HB hw393_2),(cW HB hw395_0),(cW HB hw395_1),(cW HB hw395_2),(cW HB hw396_0),(cW HB hw396_1),(cW HB hw396_2)⟩) (fun hHeld => ?_)
               clear hK K
               refine nn 196 (h := ?_)
               refine on HT_ 21 (some 207) 4194303 (h:=fun K hK => ?_)
               refine gS Tryd.func55 #[.agg #[.int .i64 ((Qaa l0_1 x18_3).f0), .int .i64 ((Qaa l0_1 x18_3).f1), .int .i64 ((Qaa l0_1 x18_3).f2)], .agg #[.int .i64 ((Qaa l0_1 x19_5).f0), .int .i64 ((Qaa l0_1 x19_5).f1), .int .i64 ((Qaa l0_1 x19_5).f2)]] (h := ?_)
               with_reducible refine (r4_Less.calls ((Qaa l0_1 x18_3).f0) ((Qaa l0_1 x18_3).f1) ((Qaa l0_1 x18_3).f2) ((Qaa l0_1 x19_5).f0) ((Qaa l0_1 x19_5).f1) ((Qaa l0_1 x19_5).f2) t397 _ A170.out).mono ?_
               rintro e w174 ⟨rfl,hb⟩
               refine ⟨_,rfl, ?_⟩
               have n0_:=bl BK326 hb
               have n1_:=bs HB hb
               clear BK326
               clear HB
               have BK326:=n0_
               have HB:=n1_
               clear n0_ n1_
               (try clear hb)
               (try clear hb2)
               (try clear hk)
               (try clear hi)
               refine hK.out _ _ (b3 BK326 ⟨(cW HB hw392_0),(cW HB hw392_1),(cW HB hw392_2),(cW HB hw393_0),(cW HB hw393_1),(cW HB hw393_2),(cW HB hw395_0),(cW HB hw395_1),(cW HB hw395_2),(cW HB hw396_0),(cW HB hw396_1),(cW HB hw396_2)⟩) (fun hHeld => ?_)
               clear hK K
               refine nn 207 (h := ?_)
               refine pu HT_ 22 208 8388607 (h := ?_)
               refine dn HT_ (h := ?_)
               try go_wp2
               go_ret
               exact ⟨re,bw HB⟩⟩ : Nonempty G_)) :); w4_OpTells.bxo (G:=G_) (inferInstanceAs (Nonempty G_)))
              rw [if_neg c171] at H
              have c171b0 : (t394 != t397) = false:=by simpa using c171
              (try (have c171b1 : decide (t394 = t397) = true:=by simpa using c171))
              (try (have c171b2 : (t394 == t397) = true:=by simpa using c171))
              clear c171
              have H':=Zz.k H
              clear H
              try go_wp2
              have n0_:=Zz.k (Qai BK326.out)
              have n1_:=Zz.k (Qag HB.out)
              clear BK326
              clear HB
              have BK326:=n0_
              have HB:=n1_
              clear n0_ n1_
              have p392 : 0 <= (x18_3 : Int):=od
              have q392 : x18_3 < (l0_1.length : Int):=od
              obtain ⟨ad392,e392,hx392_0,hx392_1,hx392_2⟩:=Qas HR0_1.out x18_3 p392 q392
              have hw392_2:=hx392_2
              have hw392_1:=hx392_1
              have hw392_0:=hx392_0
              obtain rfl : ad387 = ad392:=(by injection e392)
              replace hx392_0:=cl HB hx392_0
              replace hx392_1:=cl HB hx392_1
              replace hx392_2:=cl HB hx392_2
              replace p392:=eq_true p392
              replace q392:=eq_true q392
              have p393 : 0 <= (x19_5 : Int):=od
              have q393 : x19_5 < (l0_1.length : Int):=od
              obtain ⟨ad393,e393,hx393_0,hx393_1,hx393_2⟩:=Qas HR0_1.out x19_5 p393 q393
              have hw393_2:=hx393_2
              have hw393_1:=hx393_1
              have hw393_0:=hx393_0
              obtain rfl : ad387 = ad393:=(by injection e393)
              replace hx393_0:=cl HB hx393_0
              replace hx393_1:=cl HB hx393_1
              replace hx393_2:=cl HB hx393_2
              replace p393:=eq_true p393
              replace q393:=eq_true q393
              have p395 : 0 <= (x18_3 : Int):=od
              have q395 : x18_3 < (l0_1.length : Int):=od
              obtain ⟨ad395,e395,hx395_0,hx395_1,hx395_2⟩:=Qas HR0_1.out x18_3 p395 q395
              have hw395_2:=hx395_2
              have hw395_1:=hx395_1
              have hw395_0:=hx395_0
              obtain rfl : ad387 = ad395:=(by injection e395)
              replace hx395_0:=cl HB hx395_0
              replace hx395_1:=cl HB hx395_1
              replace hx395_2:=cl HB hx395_2
              replace p395:=eq_true p395
              replace q395:=eq_true q395
              have p396 : 0 <= (x19_5 : Int):=od
              have q396 : x19_5 < (l0_1.length : Int):=od
              obtain ⟨ad396,e396,hx396_0,hx396_1,hx396_2⟩:=Qas HR0_1.out x19_5 p396 q396
              have hw396_2:=hx396_2
              have hw396_1:=hx396_1
              have hw396_0:=hx396_0
              obtain rfl : ad387 = ad396:=(by injection e396)
              replace hx396_0:=cl HB hx396_0
              replace hx396_1:=cl HB hx396_1
              replace hx396_2:=cl HB hx396_2
              replace p396:=eq_true p396
              replace q396:=eq_true q396
              refine stP (fun w' => B3 w' gb326 (.slice A0_0 l0_0.length c0_0) (.slice (some ad387) l0_1.length c0_1) (.slice A0_2 l0_2.length c0_2) (w'.cell? (ad387.add ((x18_3).toNat * 3)) = some (.int .i64 ((Qaa l0_1 x18_3).f0)) /\ w'.cell? ⟨(ad387.add ((x18_3).toNat * 3)).block,(ad387.add ((x18_3).toNat * 3)).off + 1,none⟩ = some (.int .i64 ((Qaa l0_1 x18_3).f1)) /\ w'.cell? ⟨(ad387.add ((x18_3).toNat * 3)).block,(ad387.add ((x18_3).toNat * 3)).off + 2,none⟩ = some (.int .i64 ((Qaa l0_1 x18_3).f2)) /\ w'.cell? (ad387.add ((x19_5).toNat * 3)) = some (.int .i64 ((Qaa l0_1 x19_5).f0)) /\ w'.cell? ⟨(ad387.add ((x19_5).toNat * 3)).block,(ad387.add ((x19_5).toNat * 3)).off + 1,none⟩ = some (.int .i64 ((Qaa l0_1 x19_5).f1)) /\ w'.cell? ⟨(ad387.add ((x19_5).toNat * 3)).block,(ad387.add ((x19_5).toNat * 3)).off + 2,none⟩ = some (.int .i64 ((Qaa l0_1 x19_5).f2)) /\ w'.cell? (ad387.add ((x18_3).toNat * 3)) = some (.int .i64 ((Qaa l0_1 x18_3).f0)) /\ w'.cell? ⟨(ad387.add ((x18_3).toNat * 3)).block,(ad387.add ((x18_3).toNat * 3)).off + 1,none⟩ = some (.int .i64 ((Qaa l0_1 x18_3).f1)) /\ w'.cell? ⟨(ad387.add ((x18_3).toNat * 3)).block,(ad387.add ((x18_3).toNat * 3)).off + 2,none⟩ = some (.int .i64 ((Qaa l0_1 x18_3).f2)) /\ w'.cell? (ad387.add ((x19_5).toNat * 3)) = some (.int .i64 ((Qaa l0_1 x19_5).f0)) /\ w'.cell? ⟨(ad387.add ((x19_5).toNat * 3)).block,(ad387.add ((x19_5).toNat * 3)).off + 1,none⟩ = some (.int .i64 ((Qaa l0_1 x19_5).f1)) /\ w'.cell? ⟨(ad387.add ((x19_5).toNat * 3)).block,(ad387.add ((x19_5).toNat * 3)).off + 2,none⟩ = some (.int .i64 ((Qaa l0_1 x19_5).f2)))) 23 (b3 BK326 ⟨(cW HB hw392_0),(cW HB hw392_1),(cW HB hw392_2),(cW HB hw393_0),(cW HB hw393_1),(cW HB hw393_2),(cW HB hw395_0),(cW HB hw395_1),(cW HB hw395_2),(cW HB hw396_0),(cW HB hw396_1),(cW HB hw396_2)⟩) (h:=fun hHeld => ?_); refine Qav w4_OpTells.tab38 w4_OpTells.bits38 (fun HT_ HW_ => ?_)
              generalize wc.drew = w175 at BK326 HB hx392_0 hx392_1 hx392_2 hx393_0 hx393_1 hx393_2 hx395_0 hx395_1 hx395_2 hx396_0 hx396_1 hx396_2 hHeld ⊢
              refine pu HT_ 0 186 1 (h := ?_)
              refine pu HT_ 2 188 5 (h := ?_)
              refine pu HT_ 5 191 37 (h := ?_)
              refine pu HT_ 7 193 165 (h := ?_)
              refine pu HT_ 11 197 2213 (h := ?_)
              refine pu HT_ 13 199 10405 (h := ?_)
              refine pu HT_ 16 202 75941 (h := ?_)
              refine pu HT_ 18 204 338085 (h := ?_)
              refine tk HT_ HW_ hHeld 1 187 338087 (h := ?_)
              refine pu HT_ 3 189 338095 (h := ?_)
              refine tk HT_ HW_ hHeld 4 190 338111 (h := ?_)
              refine tk HT_ HW_ hHeld 6 192 338175 (h := ?_)
              refine pu HT_ 8 194 338431 (h := ?_)
              refine tk HT_ HW_ hHeld 9 195 338943 (h := ?_)
              refine tk HT_ HW_ hHeld 12 198 343039 (h := ?_)
              refine pu HT_ 14 200 359423 (h := ?_)
              refine tk HT_ HW_ hHeld 15 201 392191 (h := ?_)
              refine tk HT_ HW_ hHeld 17 203 523263 (h := ?_)
              refine pu HT_ 19 205 1047551 (h := ?_)
              refine tk HT_ HW_ hHeld 20 206 2096127 (h := ?_)
              refine on HT_ 10 (some 196) 2097151 (h:=fun K hK => ?_)
              refine gS Tryd.func54 #[.agg #[.int .i64 ((Qaa l0_1 x18_3).f0), .int .i64 ((Qaa l0_1 x18_3).f1), .int .i64 ((Qaa l0_1 x18_3).f2)], .agg #[.int .i64 ((Qaa l0_1 x19_5).f0), .int .i64 ((Qaa l0_1 x19_5).f1), .int .i64 ((Qaa l0_1 x19_5).f2)]] (h := ?_)
              with_reducible refine (op_Less.calls kj159 ((Qaa l0_1 x18_3).f0) ((Qaa l0_1 x18_3).f1) ((Qaa l0_1 x18_3).f2) ((Qaa l0_1 x19_5).f0) ((Qaa l0_1 x19_5).f1) ((Qaa l0_1 x19_5).f2) t394 _ A169.out).mono ?_
              rintro e w176 ⟨rfl,hb⟩
              refine ⟨_,rfl, ?_⟩
              have n0_:=bl BK326 hb
              have n1_:=bs HB hb
              clear BK326
              clear HB
              have BK326:=n0_
              have HB:=n1_
              clear n0_ n1_
              (try clear hb)
              (try clear hb2)
              (try clear hk)
              (try clear hi)
              refine hK.out _ _ (b3 BK326 ⟨(cW HB hw392_0),(cW HB hw392_1),(cW HB hw392_2),(cW HB hw393_0),(cW HB hw393_1),(cW HB hw393_2),(cW HB hw395_0),(cW HB hw395_1),(cW HB hw395_2),(cW HB hw396_0),(cW HB hw396_1),(cW HB hw396_2)⟩) (fun hHeld => ?_)
              clear hK K
              refine nn 196 (h := ?_)
              refine on HT_ 21 (some 207) 4194303 (h:=fun K hK => ?_)
              refine gS Tryd.func55 #[.agg #[.int .i64 ((Qaa l0_1 x18_3).f0), .int .i64 ((Qaa l0_1 x18_3).f1), .int .i64 ((Qaa l0_1 x18_3).f2)], .agg #[.int .i64 ((Qaa l0_1 x19_5).f0), .int .i64 ((Qaa l0_1 x19_5).f1), .int .i64 ((Qaa l0_1 x19_5).f2)]] (h := ?_)
              with_reducible refine (r4_Less.calls ((Qaa l0_1 x18_3).f0) ((Qaa l0_1 x18_3).f1) ((Qaa l0_1 x18_3).f2) ((Qaa l0_1 x19_5).f0) ((Qaa l0_1 x19_5).f1) ((Qaa l0_1 x19_5).f2) t397 _ A170.out).mono ?_
              rintro e w177 ⟨rfl,hb⟩
              refine ⟨_,rfl, ?_⟩
              have n0_:=bl BK326 hb
              have n1_:=bs HB hb
              clear BK326
              clear HB
              have BK326:=n0_
              have HB:=n1_
              clear n0_ n1_
              (try clear hb)
              (try clear hb2)
              (try clear hk)
              (try clear hi)
              refine hK.out _ _ (b3 BK326 ⟨(cW HB hw392_0),(cW HB hw392_1),(cW HB hw392_2),(cW HB hw393_0),(cW HB hw393_1),(cW HB hw393_2),(cW HB hw395_0),(cW HB hw395_1),(cW HB hw395_2),(cW HB hw396_0),(cW HB hw396_1),(cW HB hw396_2)⟩) (fun hHeld => ?_)
              clear hK K
              refine nn 207 (h := ?_)
              refine pu HT_ 22 208 8388607 (h := ?_)
              refine dn HT_ (h := ?_)
              try go_wp2
              go_roundg kj159
              case measure => have:=HK1.out; have:=HJ14.out; have:=HK3.out; have:=HJ142.out; have:=HK5.out; have:=HJ159.out; omega
              case rel => exact ⟨(wrap64 (x19_5 + 1)),rf,H',⟨by have:=HK1.out; have:=HJ14.out; have:=HK3.out; have:=HJ142.out; have:=HK5.out; have:=HJ159.out; omega⟩,⟨kk BK326⟩,⟨bw HB⟩⟩⟩ : Nonempty G_)) :); w4_OpTells.bxo (G:=G_) (inferInstanceAs (Nonempty G_)))⟩ : Nonempty G_)) :); w4_OpTells.bxo (G:=G_) (inferInstanceAs (Nonempty G_)))⟩ : Nonempty G_)) :); w4_OpTells.bxo (G:=G_) (inferInstanceAs (Nonempty G_)))⟩ : Nonempty G_)) :); w4_OpTells.bxo (G:=G_) (inferInstanceAs (Nonempty G_)))⟩ : Nonempty G_)) :); w4_OpTells.bxo (G:=G_) (inferInstanceAs (Nonempty G_)))⟩ : Nonempty G_)) :); w4_OpTells.bxo (G:=G_) (inferInstanceAs (Nonempty G_)))⟩ : Nonempty G_)) :); w4_OpTells.bxo (G:=G_) (inferInstanceAs (Nonempty G_)))⟩ : Nonempty G_)) :); w4_OpTells.bxo (G:=G_) (inferInstanceAs (Nonempty G_)))⟩ : Nonempty G_)) :); w4_OpTells.bxo (G:=G_) (inferInstanceAs (Nonempty G_)))⟩ : Nonempty G_)) :); w4_OpTells.bxo (G:=G_) (inferInstanceAs (Nonempty G_)))⟩ : Nonempty G_)) :); w4_OpTells.bxo (G:=G_) (inferInstanceAs (Nonempty G_)))⟩ : Nonempty G_)) :); w4_OpTells.bxo (G:=G_) (inferInstanceAs (Nonempty G_)))
     show (let G_ : Prop:=_; G_)
     intro G_
     exact (let_tmp i_ : Nonempty G_:=(((⟨by
     subst G_
     subst c19
     rw [if_pos rfl] at H
     by_cases c20 : 0 <= x4_1; rotate_left
     ·rw [if_neg c20] at H
      exact absurd H (by simp)
     show (let G_ : Prop:=_; G_)
     intro G_
     exact (let_tmp i_ : Nonempty G_:=(((⟨by
     subst G_
     rw [if_pos c20] at H
     have c20b0:=Zd c20
     clear c20
     by_cases c21 : x4_1 < (l0_0.length : Int); rotate_left
     ·rw [if_neg c21] at H
      exact absurd H (by simp)
     show (let G_ : Prop:=_; G_)
     intro G_
     exact (let_tmp i_ : Nonempty G_:=(((⟨by
     subst G_
     rw [if_pos c21] at H
     have c21b0:=Zd c21
     clear c21
     obtain ⟨⟨t335,t336,t337,t338,t339,t340,t341,t342,t345,t346,t347⟩,A22,H⟩:=bE H
     try dsimp only at H
     obtain ⟨⟨t349,t352⟩,A23,H⟩:=bE H
     try dsimp only at H
     obtain ⟨⟨t353,t356⟩,A24,H⟩:=bE H
     try dsimp only at H
     obtain ⟨t358,A25,H⟩:=bE H
     have HC26:=Zz.k H
     clear H
     obtain ⟨_,_,_,_,_,_⟩:=kc3 BK326
     have p334 : 0 <= (x4_1 : Int):=od
     have q334 : x4_1 < (l0_0.length : Int):=od
     obtain ⟨ad334,A334_7,c334_7,e334,hx334_0,hx334_1,hx334_2,hx334_3,hx334_4,hx334_5,hx334_6,hx334_7,hx334_8,hx334_9,hx334_10,hl334_7,hi334_7⟩:=at_Op HR0_0.out x4_1 p334 q334
     cases e334
     replace hx334_0:=cl HB hx334_0
     replace hx334_1:=cl HB hx334_1
     replace hx334_2:=cl HB hx334_2
     replace hx334_3:=cl HB hx334_3
     replace hx334_4:=cl HB hx334_4
     replace hx334_5:=cl HB hx334_5
     replace hx334_6:=cl HB hx334_6
     replace hx334_7:=cl HB hx334_7
     replace hx334_8:=cl HB hx334_8
     replace hx334_9:=cl HB hx334_9
     replace hx334_10:=cl HB hx334_10
     have HR334_7:=Zz.k hi334_7
     have HC334_7:=Zz.k hl334_7
     clear hi334_7 hl334_7
     replace p334:=eq_true p334
     replace q334:=eq_true q334
     go_upto_if 58 with (first | ((with_reducible refine Qab (f:=39) rfl ?_); refine gl (some 42) Tryd.func39 #[.agg #[.int .i64 ((Qaf l0_0 x4_1).f0), .int .i64 ((Qaf l0_0 x4_1).f1), .int .i64 ((Qaf l0_0 x4_1).f2), .int .i64 ((Qaf l0_0 x4_1).f3.f0), .int .i64 ((Qaf l0_0 x4_1).f3.f1), .int .i64 ((Qaf l0_0 x4_1).f3.f2), .string ((Qaf l0_0 x4_1).f4), .slice A334_7 ((Qaf l0_0 x4_1).f5).length c334_7, .int .i64 ((Qaf l0_0 x4_1).f6), .int .i64 ((Qaf l0_0 x4_1).f7), .int .i64 ((Qaf l0_0 x4_1).f8)]] (h := ?_); (with_reducible refine (r0_CopyOp.calls kj14 ((Qaf l0_0 x4_1).f0) ((Qaf l0_0 x4_1).f1) ((Qaf l0_0 x4_1).f2) ((Qaf l0_0 x4_1).f3.f0) ((Qaf l0_0 x4_1).f3.f1) ((Qaf l0_0 x4_1).f3.f2) ((Qaf l0_0 x4_1).f4) _ _ ((Qaf l0_0 x4_1).f5) ((Qaf l0_0 x4_1).f6) ((Qaf l0_0 x4_1).f7) ((Qaf l0_0 x4_1).f8) t335 t336 t337 t338 t339 t340 t341 t342 t345 t346 t347 _ ?side1 ?side2 A22.out).mono ?_); (case side1 => exact cb HR334_7 HB); (case side2 => exact HC334_7.out); rintro e w28 ⟨v343,rfl,ho0,hb⟩; refine ⟨_,rfl, ?_⟩; have HO344:=Zz.k (Kd.R_lower ho0 (Qar (bw HB))); replace HO_3:=rb HO_3 hb; replace BK326:=bl BK326 hb; replace HB:=bs HB hb; clear hb; clear ho0) | ((with_reducible refine Qac (N:=5) rfl ?_); refine bx 5 #[.int .i64 0, .int .i64 0, .int .i64 0, .int .i64 0, .int .i64 0, .int .i64 0, .string (⟨#[]⟩ : ByteArray), .slice none 0 0, .int .i64 0, .int .i64 0, .int .i64 0] 55 (h := ?_); intro gb348 hg w29 hbox hb; have BK348:=Zz.k (hbox); have GW348:=bz HB hg; have GE348:=bz HB hg; have NB326_348:=bn BK326 hg; have NB348_326:=bm BK326 hg; replace HO_3:=rb HO_3 hb; replace HO344:=rb HO344 hb; replace BK326:=bl BK326 hb; replace HB:=bs HB hb; clear hb hbox hg; have hnb30:=NB348_326.out; have hnc30:=NB326_348.out; obtain ⟨_,_,_,_,_,_,_,_,_,_,_,_,_,_,_,_,_,_,_,_,_,_⟩:=kc11 BK348; obtain ⟨Ao32,co32,eo32⟩:=Kd.R_slice HO344.out; subst eo32) | ((with_reducible refine Qab (f:=47) rfl ?_); refine gl (some 45) Tryd.func47 #[.agg #[.int .i64 t335, .int .i64 t336, .int .i64 t337, .int .i64 t338, .int .i64 t339, .int .i64 t340, .string t341, .slice Ao32 t342.length co32, .int .i64 t345, .int .i64 t346, .int .i64 t347]] (h := ?_); (with_reducible refine (op_Elems.calls kj14 t335 t336 t337 t338 t339 t340 t341 _ _ t342 t345 t346 t347 t349 t352 _ ?side1 ?side2 A23.out).mono ?_); (case side1 => refine (Kd.R_reads' (e:=43) (base:=w.heap.size) (ok:=fun k_ => True) (n:=t342.length) (c:=co32) ?_).2.2; exact (by (with_reducible repeat (first | apply Kd.R_alloc | apply Kd.R_drewN | apply Kd.R_drew)); exact (Kd.R_mono (rf11 (Kd.R_types HO344.out BK348.out (by decide))) (fun _ h_ => h_.1)))); (case side2 => exact (Kd.R_reads' HO344.out).2.1); rintro e w33 ⟨v350,rfl,ho0,hb⟩; refine ⟨_,rfl, ?_⟩; have HO351:=Zz.k (Kd.R_lower (Kd.R_new' ho0 (Kd.R_lt (by (with_reducible repeat (first | apply Kd.R_alloc | apply Kd.R_drewN | apply Kd.R_drew)); exact (Kd.R_mono (rf11 (Kd.R_types HO344.out BK348.out (by decide))) (fun _ h_ => h_.1))))) (Qar (bw HB))); replace HO_3:=Zz.k (Kd.R_below (by (with_reducible repeat (first | apply Kd.R_alloc | apply Kd.R_drewN | apply Kd.R_drew)); exact (Kd.R_mono (rf11 (Kd.R_types HO_3.out BK348.out (by decide))) (fun _ h_ => h_.1))) hb); replace HO344:=Zz.k (Kd.R_elder' (by (with_reducible repeat (first | apply Kd.R_alloc | apply Kd.R_drewN | apply Kd.R_drew)); exact (Kd.R_mono (rf11 (Kd.R_types HO344.out BK348.out (by decide))) (fun _ h_ => h_.1))) (Kd.R_base ho0) hb); replace BK326:=bl BK326 hb; replace BK348:=Zz.k (Qbf (bp11 (kk BK348)) hb); replace HB:=bs HB hb; clear hb; clear ho0; obtain ⟨_,_,_,_,_,_,_,_,_,_,_,_,_,_,_,_,_,_,_,_,_,_⟩:=kc11 BK348) | ((with_reducible refine Qab (f:=40) rfl ?_); refine gl (some 50) Tryd.func40 #[.agg #[.int .i64 t335, .int .i64 t336, .int .i64 t337, .int .i64 t338, .int .i64 t339, .int .i64 t340, .string t341, .slice Ao32 t342.length co32, .int .i64 t345, .int .i64 t346, .int .i64 t347]] (h := ?_); (with_reducible refine (op_Needs.calls t335 t336 t337 t338 t339 t340 t341 _ _ t342 t345 t346 t347 t353 t356 _ ?side1 ?side2 A24.out).mono ?_); (case side1 => exact cr HO344); (case side2 => exact (Kd.R_reads' HO344.out).2.1); rintro e w35 ⟨v354,rfl,ho0,hb⟩; refine ⟨_,rfl, ?_⟩; have HO355:=Zz.k (Kd.R_lower (Kd.R_new' (Kd.R_new' ho0 (Kd.R_lt (rk HO344))) (Kd.R_lt (rk HO351))) (Qar (bw HB))); replace HO_3:=rb HO_3 hb; replace HO344:=Zz.k (Kd.R_elder' (rk HO344) (Kd.R_base ho0) hb); replace HO351:=Zz.k (Kd.R_elder' (rk HO351) (Kd.R_base ho0) hb); replace BK326:=bl BK326 hb; replace BK348:=bl BK348 hb; replace HB:=bs HB hb; clear hb; clear ho0; obtain ⟨_,_,_,_,_,_⟩:=kc3 BK326; have p357 : 0 <= (x4_1 : Int):=od; have q357 : x4_1 < (l0_0.length : Int):=od; obtain ⟨ad357,A357_7,c357_7,e357,hx357_0,hx357_1,hx357_2,hx357_3,hx357_4,hx357_5,hx357_6,hx357_7,hx357_8,hx357_9,hx357_10,hl357_7,hi357_7⟩:=at_Op HR0_0.out x4_1 p357 q357; obtain rfl : ad334 = ad357:=(by injection e357); replace hx357_0:=cl HB hx357_0; replace hx357_1:=cl HB hx357_1; replace hx357_2:=cl HB hx357_2; replace hx357_3:=cl HB hx357_3; replace hx357_4:=cl HB hx357_4; replace hx357_5:=cl HB hx357_5; replace hx357_6:=cl HB hx357_6; replace hx357_7:=cl HB hx357_7; replace hx357_8:=cl HB hx357_8; replace hx357_9:=cl HB hx357_9; replace hx357_10:=cl HB hx357_10; have HR357_7:=Zz.k hi357_7; have HC357_7:=Zz.k hl357_7; clear hi357_7 hl357_7; replace p357:=eq_true p357; replace q357:=eq_true q357) | ((with_reducible refine Qab (f:=41) rfl ?_); refine gl (some 58) Tryd.func41 #[.agg #[.int .i64 ((Qaf l0_0 x4_1).f0), .int .i64 ((Qaf l0_0 x4_1).f1), .int .i64 ((Qaf l0_0 x4_1).f2), .int .i64 ((Qaf l0_0 x4_1).f3.f0), .int .i64 ((Qaf l0_0 x4_1).f3.f1), .int .i64 ((Qaf l0_0 x4_1).f3.f2), .string ((Qaf l0_0 x4_1).f4), .slice A357_7 ((Qaf l0_0 x4_1).f5).length c357_7, .int .i64 ((Qaf l0_0 x4_1).f6), .int .i64 ((Qaf l0_0 x4_1).f7), .int .i64 ((Qaf l0_0 x4_1).f8)]] (h := ?_); (with_reducible refine (r4_Op.calls kj14 ((Qaf l0_0 x4_1).f0) ((Qaf l0_0 x4_1).f1) ((Qaf l0_0 x4_1).f2) ((Qaf l0_0 x4_1).f3.f0) ((Qaf l0_0 x4_1).f3.f1) ((Qaf l0_0 x4_1).f3.f2) ((Qaf l0_0 x4_1).f4) _ _ ((Qaf l0_0 x4_1).f5) ((Qaf l0_0 x4_1).f6) ((Qaf l0_0 x4_1).f7) ((Qaf l0_0 x4_1).f8) t358 _ ?side1 ?side2 ?side3 A25.out).mono ?_); (case side1 => exact cb HR357_7 HB); (case side2 => exact HC357_7.out); (case side3 => exact (hT.below (bw HB))); rintro e w37 ⟨rfl,hb⟩; refine ⟨_,rfl, ?_⟩; replace HO_3:=rb HO_3 hb; replace HO344:=rb HO344 hb; replace HO351:=rb HO351 hb; replace HO355:=rb HO355 hb; replace BK326:=bl BK326 hb; replace BK348:=bl BK348 hb; replace HB:=bs HB hb; clear hb))
     (try simp only [Act.put,List.setIfInBounds_toArray,List.set_cons_zero,List.set_cons_succ])
     go_cut [10,11,12] (fun v10 v11 v12 wc => ∃ (kq : Nat) (x10_25 : Int) (x11_25 : List (SElem)) (x12_25 : List (SElem)),v10 = .int .i64 x10_25 /\ Zz (w4_OpTells.j2 kq y331 x4_1 t349 t352 t353 t356 x10_25 x11_25 x12_25 l0_0 l0_1 l0_2 t335 t336 t337 t338 t339 t340 t341 t342 t345 t346 t347 = some r) /\ Zz (kq <= kj14) /\ Zz (Kd.R (Kd.int .i64) 3 wc w.heap.size (fun _ => True) v332 y331) /\ Zz (Kd.R Qak 43 wc w.heap.size (fun k_ => some k_ ≠ (v354 : Value).ownBlock /\ some k_ ≠ (v11 : Value).ownBlock /\ some k_ ≠ (v12 : Value).ownBlock /\ some k_ ≠ ((.slice Ao32 t342.length co32) : Value).ownBlock) v350 t349) /\ Zz (Kd.R Qak 43 wc w.heap.size (fun k_ => some k_ ≠ (v350 : Value).ownBlock /\ some k_ ≠ (v11 : Value).ownBlock /\ some k_ ≠ (v12 : Value).ownBlock /\ some k_ ≠ ((.slice Ao32 t342.length co32) : Value).ownBlock) v354 t353) /\ Zz (Kd.R Qak 43 wc w.heap.size (fun k_ => some k_ ≠ (v350 : Value).ownBlock /\ some k_ ≠ (v354 : Value).ownBlock /\ some k_ ≠ (v12 : Value).ownBlock /\ some k_ ≠ ((.slice Ao32 t342.length co32) : Value).ownBlock) v11 x11_25) /\ Zz (Kd.R Qak 43 wc w.heap.size (fun k_ => some k_ ≠ (v350 : Value).ownBlock /\ some k_ ≠ (v354 : Value).ownBlock /\ some k_ ≠ (v11 : Value).ownBlock /\ some k_ ≠ ((.slice Ao32 t342.length co32) : Value).ownBlock) v12 x12_25) /\ Zz (Kd.R Qak 43 wc w.heap.size (fun k_ => some k_ ≠ (v350 : Value).ownBlock /\ some k_ ≠ (v354 : Value).ownBlock /\ some k_ ≠ (v11 : Value).ownBlock /\ some k_ ≠ (v12 : Value).ownBlock) (.slice Ao32 t342.length co32) t342) /\ Zz (wc.heap[gb326]? = some (.cells #[(.slice (some ad334) l0_0.length c0_0),(.slice A0_1 l0_1.length c0_1),(.slice A0_2 l0_2.length c0_2)] 61 (0,0))) /\ Zz (wc.heap[gb348]? = some (.cells #[.int .i64 t335, .int .i64 t336, .int .i64 t337, .int .i64 t338, .int .i64 t339, .int .i64 t340, .string t341,(.slice Ao32 t342.length co32), .int .i64 t345, .int .i64 t346, .int .i64 t347] 55 (0,0))) /\ Zz (Below w.heap.size w wc))
     case first =>
      have H:=HC26.out
      clear HC26
      by_cases c38 : t358 = true; rotate_left
      ·replace c38:=Zf c38
       subst c38
       rw [if_neg nft] at H
       have H':=Zz.k H
       clear H
       go_wp2
       go_meet
       case rel => exact ⟨_,(1),(([] : List (SElem))),(([] : List (SElem))),rf,H',⟨by have:=HK1.out; have:=HJ14.out; first | omega | exact Nat.le_refl _⟩,⟨rk HO_3⟩,⟨by (with_reducible repeat (first | apply Kd.R_alloc | apply Kd.R_drewN | apply Kd.R_drew)); exact Kd.R_mono HO351.out (fun _ hk => ⟨hk.2,⟨(by simp [Value.ownBlock]),⟨(by simp [Value.ownBlock]),hk.1.2⟩⟩⟩)⟩,⟨by (with_reducible repeat (first | apply Kd.R_alloc | apply Kd.R_drewN | apply Kd.R_drew)); exact Kd.R_mono HO355.out (fun _ hk => ⟨hk.2,⟨(by simp [Value.ownBlock]),⟨(by simp [Value.ownBlock]),hk.1.2⟩⟩⟩)⟩,⟨by first | exact Kd.R_nil _ _ _ _ _ | exact Kd.N_nil _ _ _ _ _ | exact Kd.V_nil _ _ _ _ _ | exact Kd.Q_nil _ _ _ _ _ | exact Kd.S_nil _ _ _ _ _⟩,⟨by first | exact Kd.R_nil _ _ _ _ _ | exact Kd.N_nil _ _ _ _ _ | exact Kd.V_nil _ _ _ _ _ | exact Kd.Q_nil _ _ _ _ _ | exact Kd.S_nil _ _ _ _ _⟩,⟨by (with_reducible repeat (first | apply Kd.R_alloc | apply Kd.R_drewN | apply Kd.R_drew)); exact Kd.R_mono HO344.out (fun _ hk => ⟨hk.1.2,⟨hk.2,⟨(by simp [Value.ownBlock]),(by simp [Value.ownBlock])⟩⟩⟩)⟩,⟨kk BK326⟩,⟨kk BK348⟩,⟨bw HB⟩⟩
      show (let G_ : Prop:=_; G_)
      intro G_
      exact (let_tmp i_ : Nonempty G_:=(((⟨by
      subst G_
      subst c38
      rw [if_pos rfl] at H
      obtain ⟨t359,A39,H⟩:=bE H
      obtain ⟨t362,A40,H⟩:=bE H
      have H':=Zz.k H
      clear H
      try go_wp2
      have n0_:=Zz.k (Kd.R_drew HO_3.out)
      have n1_:=Zz.k (Kd.R_drew HO344.out)
      have n2_:=Zz.k (Kd.R_drew HO351.out)
      have n3_:=Zz.k (Kd.R_drew HO355.out)
      have n4_:=Zz.k (Qai BK326.out)
      have n5_:=Zz.k (Qai BK348.out)
      have n6_:=Zz.k (Qag HB.out)
      clear HO_3
      clear HO344
      clear HO351
      clear HO355
      clear BK326
      clear BK348
      clear HB
      have HO_3:=n0_
      have HO344:=n1_
      have HO351:=n2_
      have HO355:=n3_
      have BK326:=n4_
      have BK348:=n5_
      have HB:=n6_
      clear n0_ n1_ n2_ n3_ n4_ n5_ n6_
      refine stP (fun w' => E11 w' gb348 (.int .i64 t335) (.int .i64 t336) (.int .i64 t337) (.int .i64 t338) (.int .i64 t339) (.int .i64 t340) (.string t341) (.slice Ao32 t342.length co32) (.int .i64 t345) (.int .i64 t346) (.int .i64 t347)) 7 (e11 BK348) (h:=fun hHeld => ?_)
      generalize w37.drew = w41 at HO_3 HO344 HO351 HO355 BK326 BK348 HB hHeld ⊢
      refine tk0 hHeld 0 59 1 (h := ?_)
      refine tk0 hHeld 2 61 5 (h := ?_)
      refine on0 1 (some 60) 7 (h:=fun K hK => ?_)
      refine gS Tryd.func48 #[.agg #[.int .i64 t335, .int .i64 t336, .int .i64 t337, .int .i64 t338, .int .i64 t339, .int .i64 t340, .string t341, .slice Ao32 t342.length co32, .int .i64 t345, .int .i64 t346, .int .i64 t347]] (h := ?_)
      with_reducible refine (r4_Elems.calls kj14 t335 t336 t337 t338 t339 t340 t341 _ _ t342 t345 t346 t347 t359 _ ?side1 ?side2 ?side3 A39.out).mono ?_
      (case side1 => exact cr HO344)
      (case side2 => exact (Kd.R_reads' HO344.out).2.1)
      (case side3 => exact (hT.below (bw HB)))
      rintro e w42 ⟨v360,rfl,ho0,hb⟩
      refine ⟨_,rfl, ?_⟩
      have n0_:=rb HO_3 hb
      have n1_:=Zz.k (Kd.R_elder' (rk HO344) (Kd.R_base ho0) hb)
      have n2_:=Zz.k (Kd.R_elder' (rk HO351) (Kd.R_base ho0) hb)
      have n3_:=Zz.k (Kd.R_elder' (rk HO355) (Kd.R_base ho0) hb)
      have n4_:=Zz.k (Kd.R_lower (Kd.R_new' (Kd.R_new' (Kd.R_new' ho0 (Kd.R_lt (rk HO344))) (Kd.R_lt (rk HO351))) (Kd.R_lt (rk HO355))) (Qar (bw HB)))
      have n5_:=bl BK326 hb
      have n6_:=bl BK348 hb
      have n7_:=bs HB hb
      clear HO_3
      clear HO344
      clear HO351
      clear HO355
      clear BK326
      clear BK348
      clear HB
      have HO_3:=n0_
      have HO344:=n1_
      have HO351:=n2_
      have HO355:=n3_
      have HO361:=n4_
      have BK326:=n5_
      have BK348:=n6_
      have HB:=n7_
      clear n0_ n1_ n2_ n3_ n4_ n5_ n6_ n7_
      (try clear hb)
      (try clear hb2)
      (try clear hk)
      (try clear hi)
      (try clear ho0)
      refine hK.out _ _ (e11 BK348) (fun hHeld => ?_)
      clear hK K
      refine nn 60 (h := ?_)
      refine on0 3 (some 62) 15 (h:=fun K hK => ?_)
      refine gS Tryd.func44 #[.agg #[.int .i64 t335, .int .i64 t336, .int .i64 t337, .int .i64 t338, .int .i64 t339, .int .i64 t340, .string t341, .slice Ao32 t342.length co32, .int .i64 t345, .int .i64 t346, .int .i64 t347]] (h := ?_)
      with_reducible refine (r4_Needs.calls t335 t336 t337 t338 t339 t340 t341 _ _ t342 t345 t346 t347 t362 _ ?side1 ?side2 A40.out).mono ?_
      (case side1 => exact cr HO344)
      (case side2 => exact (Kd.R_reads' HO344.out).2.1)
      rintro e w43 ⟨v363,rfl,ho0,hb⟩
      refine ⟨_,rfl, ?_⟩
      have n0_:=rb HO_3 hb
      have n1_:=Zz.k (Kd.R_elder' (rk HO344) (Kd.R_base ho0) hb)
      have n2_:=Zz.k (Kd.R_elder' (rk HO351) (Kd.R_base ho0) hb)
      have n3_:=Zz.k (Kd.R_elder' (rk HO355) (Kd.R_base ho0) hb)
      have n4_:=Zz.k (Kd.R_elder' (rk HO361) (Kd.R_base ho0) hb)
      have n5_:=Zz.k (Kd.R_lower (Kd.R_new' (Kd.R_new' (Kd.R_new' (Kd.R_new' ho0 (Kd.R_lt (rk HO344))) (Kd.R_lt (rk HO351))) (Kd.R_lt (rk HO355))) (Kd.R_lt (rk HO361))) (Qar (bw HB)))
      have n6_:=bl BK326 hb
      have n7_:=bl BK348 hb
      have n8_:=bs HB hb
      clear HO_3
      clear HO344
      clear HO351
      clear HO355
      clear HO361
      clear BK326
      clear BK348
      clear HB
      have HO_3:=n0_
      have HO344:=n1_
      have HO351:=n2_
      have HO355:=n3_
      have HO361:=n4_
      have HO364:=n5_
      have BK326:=n6_
      have BK348:=n7_
      have HB:=n8_
      clear n0_ n1_ n2_ n3_ n4_ n5_ n6_ n7_ n8_
      (try clear hb)
      (try clear hb2)
      (try clear hk)
      (try clear hi)
      (try clear ho0)
      refine hK.out _ _ (e11 BK348) (fun hHeld => ?_)
      clear hK K
      refine nn 62 (h := ?_)
      refine pu0 4 10 31 (h := ?_)
      refine pu0 5 11 63 (h := ?_)
      refine pu0 6 12 127 (h := ?_)
      refine dn0 (h := ?_)
      try go_wp2
      go_meet
      case rel => exact ⟨_,(0),(t359),(t362),rf,H',⟨by have:=HK1.out; have:=HJ14.out; first | omega | exact Nat.le_refl _⟩,⟨rk HO_3⟩,⟨by (with_reducible repeat (first | apply Kd.R_alloc | apply Kd.R_drewN | apply Kd.R_drew)); exact Kd.R_mono HO351.out (fun _ hk => ⟨hk.1.1.2,⟨hk.1.2,⟨hk.2,hk.1.1.1.2⟩⟩⟩)⟩,⟨by (with_reducible repeat (first | apply Kd.R_alloc | apply Kd.R_drewN | apply Kd.R_drew)); exact Kd.R_mono HO355.out (fun _ hk => ⟨hk.1.1.2,⟨hk.1.2,⟨hk.2,hk.1.1.1.2⟩⟩⟩)⟩,⟨by (with_reducible repeat (first | apply Kd.R_alloc | apply Kd.R_drewN | apply Kd.R_drew)); exact Kd.R_mono HO361.out (fun _ hk => ⟨hk.1.1.2,⟨hk.1.2,⟨hk.2,hk.1.1.1.2⟩⟩⟩)⟩,⟨by (with_reducible repeat (first | apply Kd.R_alloc | apply Kd.R_drewN | apply Kd.R_drew)); exact Kd.R_mono HO364.out (fun _ hk => ⟨hk.1.1.2,⟨hk.1.2,⟨hk.2,hk.1.1.1.2⟩⟩⟩)⟩,⟨by (with_reducible repeat (first | apply Kd.R_alloc | apply Kd.R_drewN | apply Kd.R_drew)); exact Kd.R_mono HO344.out (fun _ hk => ⟨hk.1.1.1.2,⟨hk.1.1.2,⟨hk.1.2,hk.2⟩⟩⟩)⟩,⟨kk BK326⟩,⟨kk BK348⟩,⟨bw HB⟩⟩⟩ : Nonempty G_)) :); w4_OpTells.bxo (G:=G_) (inferInstanceAs (Nonempty G_)))
     case rest =>
      show (let G_ : Prop:=_; G_)
      intro G_
      exact (let_tmp i_ : Nonempty G_:=(((⟨by
      subst G_
      clear HC26
      try clear c19; try clear c20b0; try clear c21b0; try clear hx334_0; try clear hx334_1; try clear hx334_10; try clear hx334_2; try clear hx334_3; try clear hx334_4; try clear hx334_5; try clear hx334_6; try clear hx334_7; try clear hx334_8; try clear hx334_9; try clear hx357_0; try clear hx357_1; try clear hx357_10; try clear hx357_2; try clear hx357_3; try clear hx357_4; try clear hx357_5; try clear hx357_6; try clear hx357_7; try clear hx357_8; try clear hx357_9; try clear p334; try clear p357; try clear q334; try clear q357
      obtain ⟨kq,x10_25,x11_25,x12_25,rfl,HA,HJ25,HO_3,HO_6,HO_8,HO_11,HO_12,HO_349007,BK326,BK348,HB⟩:=hcut
      cases kq with
      | zero => exact absurd HA.out (by simp [w4_OpTells.j2])
      | succ kj25 =>
       have H:=HA.out
       clear HA
       simp only [w4_OpTells.j2] at H
       have HC44:=Zz.k H
       clear H
       go_upto_region 14 with (fail)
       go_cut [91] (fun v91 wc => ∃ (kq : Nat) (x91_43 : Bool),v91 = .bool x91_43 /\ Zz (w4_OpTells.j3 kq y331 x4_1 t353 x10_25 x11_25 x91_43 l0_0 l0_1 l0_2 t335 t336 t337 t338 t339 t340 t341 t342 t345 t346 t347 = some r) /\ Zz (kq <= kj25) /\ Zz (Kd.R (Kd.int .i64) 3 wc w.heap.size (fun _ => True) v332 y331) /\ Zz (Kd.R Qak 43 wc w.heap.size (fun k_ => some k_ ≠ (u11 : Value).ownBlock /\ some k_ ≠ ((.slice Ao32 t342.length co32) : Value).ownBlock) v354 t353) /\ Zz (Kd.R Qak 43 wc w.heap.size (fun k_ => some k_ ≠ (v354 : Value).ownBlock /\ some k_ ≠ ((.slice Ao32 t342.length co32) : Value).ownBlock) u11 x11_25) /\ Zz (Kd.R Qak 43 wc w.heap.size (fun k_ => some k_ ≠ (v354 : Value).ownBlock /\ some k_ ≠ (u11 : Value).ownBlock) (.slice Ao32 t342.length co32) t342) /\ Zz (wc.heap[gb326]? = some (.cells #[(.slice (some ad334) l0_0.length c0_0),(.slice A0_1 l0_1.length c0_1),(.slice A0_2 l0_2.length c0_2)] 61 (0,0))) /\ Zz (wc.heap[gb348]? = some (.cells #[.int .i64 t335, .int .i64 t336, .int .i64 t337, .int .i64 t338, .int .i64 t339, .int .i64 t340, .string t341,(.slice Ao32 t342.length co32), .int .i64 t345, .int .i64 t346, .int .i64 t347] 55 (0,0))) /\ Zz (Below w.heap.size w wc))
       case first =>
        have H:=HC44.out
        clear HC44
        obtain ⟨t365,A45,H⟩:=bE H
        obtain ⟨t366,A46,H⟩:=bE H
        by_cases c47 : t366 = x10_25; rotate_left
        ·rw [if_neg c47] at H
         obtain ⟨c47b0,c47b1⟩:=bF c47
         (first | rw [c47b0] | (simp only [i64_w,i32_w]; rw [c47b0]) | skip)
         have H':=Zz.k H
         clear H
         have hnb75:=NB348_326.out
         have hnc75:=NB326_348.out
         obtain ⟨_,_,_,_,_,_,_,_,_,_,_,_,_,_,_,_,_,_,_,_,_,_⟩:=kc11 BK348
         go_wp2_with (first | ((with_reducible refine Qab (f:=43) rfl ?_); refine gl (some 64) Tryd.func43 #[.agg #[.int .i64 t335, .int .i64 t336, .int .i64 t337, .int .i64 t338, .int .i64 t339, .int .i64 t340, .string t341, .slice Ao32 t342.length co32, .int .i64 t345, .int .i64 t346, .int .i64 t347]] (h := ?_); (with_reducible refine (op_Check.calls kj25 t335 t336 t337 t338 t339 t340 t341 _ _ t342 t345 t346 t347 t365 _ ?side1 ?side2 A45.out).mono ?_); (case side1 => exact cr HO_349007); (case side2 => exact (Kd.R_reads' HO_349007.out).2.1); rintro e w77 ⟨rfl,hb⟩; refine ⟨_,rfl, ?_⟩; replace HO_3:=rb HO_3 hb; replace HO_6:=rb HO_6 hb; replace HO_8:=rb HO_8 hb; replace HO_11:=rb HO_11 hb; replace HO_12:=rb HO_12 hb; replace HO_349007:=rb HO_349007 hb; replace BK326:=bl BK326 hb; replace BK348:=bl BK348 hb; replace HB:=bs HB hb; clear hb) | ((with_reducible refine Qab (f:=42) rfl ?_); refine gl (some 65) Tryd.func42 #[.int .i64 t365] (h := ?_); (with_reducible refine (w4_num.calls t365 t366 _ A46.out).mono ?_); rintro e w' ⟨rfl,⟨nd,rfl⟩⟩; refine ⟨_,rfl, ?_⟩))
         go_meet
         case rel => exact ⟨_,(true),rf,H',⟨by have:=HK1.out; have:=HJ14.out; have:=HJ25.out; first | omega | exact Nat.le_refl _⟩,⟨rk HO_3⟩,⟨by (with_reducible repeat (first | apply Kd.R_alloc | apply Kd.R_drewN | apply Kd.R_drew)); exact Kd.R_mono HO_8.out (fun _ hk => ⟨hk.2.1,hk.2.2.2⟩)⟩,⟨by (with_reducible repeat (first | apply Kd.R_alloc | apply Kd.R_drewN | apply Kd.R_drew)); exact Kd.R_mono HO_11.out (fun _ hk => ⟨hk.2.1,hk.2.2.2⟩)⟩,⟨by (with_reducible repeat (first | apply Kd.R_alloc | apply Kd.R_drewN | apply Kd.R_drew)); exact Kd.R_mono HO_349007.out (fun _ hk => ⟨hk.2.1,hk.2.2.1⟩)⟩,⟨kk BK326⟩,⟨kk BK348⟩,⟨bw HB⟩⟩
        show (let G_ : Prop:=_; G_)
        intro G_
        exact (let_tmp i_ : Nonempty G_:=(((⟨by
        subst G_
        rw [if_pos c47] at H
        obtain ⟨c47b0,c47b1⟩:=bT c47
        clear c47
        (first | rw [c47b0] | (simp only [i64_w,i32_w]; rw [c47b0]) | skip)
        obtain ⟨t367,A48,H⟩:=bE H
        by_cases c49 : t367 = x10_25; rotate_left
        ·rw [if_neg c49] at H
         obtain ⟨c49b0,c49b1⟩:=bF c49
         have H':=Zz.k H
         clear H
         have hnb72:=NB348_326.out
         have hnc72:=NB326_348.out
         obtain ⟨_,_,_,_,_,_,_,_,_,_,_,_,_,_,_,_,_,_,_,_,_,_⟩:=kc11 BK348
         go_wp2_with (first | ((with_reducible refine Qab (f:=43) rfl ?_); refine gl (some 64) Tryd.func43 #[.agg #[.int .i64 t335, .int .i64 t336, .int .i64 t337, .int .i64 t338, .int .i64 t339, .int .i64 t340, .string t341, .slice Ao32 t342.length co32, .int .i64 t345, .int .i64 t346, .int .i64 t347]] (h := ?_); (with_reducible refine (op_Check.calls kj25 t335 t336 t337 t338 t339 t340 t341 _ _ t342 t345 t346 t347 t365 _ ?side1 ?side2 A45.out).mono ?_); (case side1 => exact cr HO_349007); (case side2 => exact (Kd.R_reads' HO_349007.out).2.1); rintro e w74 ⟨rfl,hb⟩; refine ⟨_,rfl, ?_⟩; replace HO_3:=rb HO_3 hb; replace HO_6:=rb HO_6 hb; replace HO_8:=rb HO_8 hb; replace HO_11:=rb HO_11 hb; replace HO_12:=rb HO_12 hb; replace HO_349007:=rb HO_349007 hb; replace BK326:=bl BK326 hb; replace BK348:=bl BK348 hb; replace HB:=bs HB hb; clear hb) | ((with_reducible refine Qab (f:=42) rfl ?_); refine gl (some 65) Tryd.func42 #[.int .i64 t365] (h := ?_); (with_reducible refine (w4_num.calls t365 t366 _ A46.out).mono ?_); rintro e w' ⟨rfl,⟨nd,rfl⟩⟩; refine ⟨_,rfl, ?_⟩) | (go_at_call 42; (with_reducible refine (w4_num.calls t352 t367 _ A48.out).mono ?_); rintro e w' ⟨rfl,⟨nd,rfl⟩⟩))
         go_meet
         case rel => exact ⟨_,(true),rf,H',⟨by have:=HK1.out; have:=HJ14.out; have:=HJ25.out; first | omega | exact Nat.le_refl _⟩,⟨rk HO_3⟩,⟨by (with_reducible repeat (first | apply Kd.R_alloc | apply Kd.R_drewN | apply Kd.R_drew)); exact Kd.R_mono HO_8.out (fun _ hk => ⟨hk.2.1,hk.2.2.2⟩)⟩,⟨by (with_reducible repeat (first | apply Kd.R_alloc | apply Kd.R_drewN | apply Kd.R_drew)); exact Kd.R_mono HO_11.out (fun _ hk => ⟨hk.2.1,hk.2.2.2⟩)⟩,⟨by (with_reducible repeat (first | apply Kd.R_alloc | apply Kd.R_drewN | apply Kd.R_drew)); exact Kd.R_mono HO_349007.out (fun _ hk => ⟨hk.2.1,hk.2.2.1⟩)⟩,⟨kk BK326⟩,⟨kk BK348⟩,⟨bw HB⟩⟩
        show (let G_ : Prop:=_; G_)
        intro G_
        exact (let_tmp i_ : Nonempty G_:=(((⟨by
        subst G_
        rw [if_pos c49] at H
        obtain ⟨c49b0,c49b1⟩:=bT c49
        clear c49
        obtain ⟨t368,A50,H⟩:=bE H
        by_cases c51 : t368 = true; rotate_left
        ·replace c51:=Zf c51
         subst c51
         rw [if_neg nft] at H
         have H':=Zz.k H
         clear H
         have hnb67:=NB348_326.out
         have hnc67:=NB326_348.out
         obtain ⟨_,_,_,_,_,_,_,_,_,_,_,_,_,_,_,_,_,_,_,_,_,_⟩:=kc11 BK348
         go_wp2_with (first | ((with_reducible refine Qab (f:=43) rfl ?_); refine gl (some 64) Tryd.func43 #[.agg #[.int .i64 t335, .int .i64 t336, .int .i64 t337, .int .i64 t338, .int .i64 t339, .int .i64 t340, .string t341, .slice Ao32 t342.length co32, .int .i64 t345, .int .i64 t346, .int .i64 t347]] (h := ?_); (with_reducible refine (op_Check.calls kj25 t335 t336 t337 t338 t339 t340 t341 _ _ t342 t345 t346 t347 t365 _ ?side1 ?side2 A45.out).mono ?_); (case side1 => exact cr HO_349007); (case side2 => exact (Kd.R_reads' HO_349007.out).2.1); rintro e w69 ⟨rfl,hb⟩; refine ⟨_,rfl, ?_⟩; replace HO_3:=rb HO_3 hb; replace HO_6:=rb HO_6 hb; replace HO_8:=rb HO_8 hb; replace HO_11:=rb HO_11 hb; replace HO_12:=rb HO_12 hb; replace HO_349007:=rb HO_349007 hb; replace BK326:=bl BK326 hb; replace BK348:=bl BK348 hb; replace HB:=bs HB hb; clear hb) | ((with_reducible refine Qab (f:=42) rfl ?_); refine gl (some 65) Tryd.func42 #[.int .i64 t365] (h := ?_); (with_reducible refine (w4_num.calls t365 t366 _ A46.out).mono ?_); rintro e w' ⟨rfl,⟨nd,rfl⟩⟩; refine ⟨_,rfl, ?_⟩) | (go_at_call 42; (with_reducible refine (w4_num.calls t352 t367 _ A48.out).mono ?_); rintro e w' ⟨rfl,⟨nd,rfl⟩⟩; obtain ⟨Ao70,co70,eo70⟩:=Kd.R_slice HO_6.out; subst eo70; obtain ⟨Ao71,co71,eo71⟩:=Kd.R_slice HO_11.out; subst eo71) | (go_at_call 20; (with_reducible refine (r0_EqElems.calls kj25 _ _ t349 _ _ x11_25 false _ ?side1 ?side2 ?side3 ?side4 A50.out).mono ?_); (case side1 => exact cr HO_6); (case side2 => exact (Kd.R_reads' HO_6.out).2.1); (case side3 => exact cr HO_11); (case side4 => exact (Kd.R_reads' HO_11.out).2.1); rintro e w' ⟨rfl,⟨nd,rfl⟩⟩))
         go_meet
         case rel => exact ⟨_,(true),rf,H',⟨by have:=HK1.out; have:=HJ14.out; have:=HJ25.out; first | omega | exact Nat.le_refl _⟩,⟨rk HO_3⟩,⟨by (with_reducible repeat (first | apply Kd.R_alloc | apply Kd.R_drewN | apply Kd.R_drew)); exact Kd.R_mono HO_8.out (fun _ hk => ⟨hk.2.1,hk.2.2.2⟩)⟩,⟨by (with_reducible repeat (first | apply Kd.R_alloc | apply Kd.R_drewN | apply Kd.R_drew)); exact Kd.R_mono HO_11.out (fun _ hk => ⟨hk.2.1,hk.2.2.2⟩)⟩,⟨by (with_reducible repeat (first | apply Kd.R_alloc | apply Kd.R_drewN | apply Kd.R_drew)); exact Kd.R_mono HO_349007.out (fun _ hk => ⟨hk.2.1,hk.2.2.1⟩)⟩,⟨kk BK326⟩,⟨kk BK348⟩,⟨bw HB⟩⟩
        show (let G_ : Prop:=_; G_)
        intro G_
        exact (let_tmp i_ : Nonempty G_:=(((⟨by
        subst G_
        subst c51
        rw [if_pos rfl] at H
        obtain ⟨t369,A52,H⟩:=bE H
        by_cases c53 : t369 = x10_25; rotate_left
        ·rw [if_neg c53] at H
         obtain ⟨c53b0,c53b1⟩:=bF c53
         have H':=Zz.k H
         clear H
         have hnb62:=NB348_326.out
         have hnc62:=NB326_348.out
         obtain ⟨_,_,_,_,_,_,_,_,_,_,_,_,_,_,_,_,_,_,_,_,_,_⟩:=kc11 BK348
         go_wp2_with (first | ((with_reducible refine Qab (f:=43) rfl ?_); refine gl (some 64) Tryd.func43 #[.agg #[.int .i64 t335, .int .i64 t336, .int .i64 t337, .int .i64 t338, .int .i64 t339, .int .i64 t340, .string t341, .slice Ao32 t342.length co32, .int .i64 t345, .int .i64 t346, .int .i64 t347]] (h := ?_); (with_reducible refine (op_Check.calls kj25 t335 t336 t337 t338 t339 t340 t341 _ _ t342 t345 t346 t347 t365 _ ?side1 ?side2 A45.out).mono ?_); (case side1 => exact cr HO_349007); (case side2 => exact (Kd.R_reads' HO_349007.out).2.1); rintro e w64 ⟨rfl,hb⟩; refine ⟨_,rfl, ?_⟩; replace HO_3:=rb HO_3 hb; replace HO_6:=rb HO_6 hb; replace HO_8:=rb HO_8 hb; replace HO_11:=rb HO_11 hb; replace HO_12:=rb HO_12 hb; replace HO_349007:=rb HO_349007 hb; replace BK326:=bl BK326 hb; replace BK348:=bl BK348 hb; replace HB:=bs HB hb; clear hb) | ((with_reducible refine Qab (f:=42) rfl ?_); refine gl (some 65) Tryd.func42 #[.int .i64 t365] (h := ?_); (with_reducible refine (w4_num.calls t365 t366 _ A46.out).mono ?_); rintro e w' ⟨rfl,⟨nd,rfl⟩⟩; refine ⟨_,rfl, ?_⟩) | (go_at_call 42; (with_reducible refine (w4_num.calls t352 t367 _ A48.out).mono ?_); rintro e w' ⟨rfl,⟨nd,rfl⟩⟩; obtain ⟨Ao65,co65,eo65⟩:=Kd.R_slice HO_6.out; subst eo65; obtain ⟨Ao66,co66,eo66⟩:=Kd.R_slice HO_11.out; subst eo66) | (go_at_call 20; (with_reducible refine (r0_EqElems.calls kj25 _ _ t349 _ _ x11_25 true _ ?side1 ?side2 ?side3 ?side4 A50.out).mono ?_); (case side1 => exact cr HO_6); (case side2 => exact (Kd.R_reads' HO_6.out).2.1); (case side3 => exact cr HO_11); (case side4 => exact (Kd.R_reads' HO_11.out).2.1); rintro e w' ⟨rfl,⟨nd,rfl⟩⟩) | (go_at_call 42; (with_reducible refine (w4_num.calls t356 t369 _ A52.out).mono ?_); rintro e w' ⟨rfl,⟨nd,rfl⟩⟩))
         go_meet
         case rel => exact ⟨_,(true),rf,H',⟨by have:=HK1.out; have:=HJ14.out; have:=HJ25.out; first | omega | exact Nat.le_refl _⟩,⟨rk HO_3⟩,⟨by (with_reducible repeat (first | apply Kd.R_alloc | apply Kd.R_drewN | apply Kd.R_drew)); exact Kd.R_mono HO_8.out (fun _ hk => ⟨hk.2.1,hk.2.2.2⟩)⟩,⟨by (with_reducible repeat (first | apply Kd.R_alloc | apply Kd.R_drewN | apply Kd.R_drew)); exact Kd.R_mono HO_11.out (fun _ hk => ⟨hk.2.1,hk.2.2.2⟩)⟩,⟨by (with_reducible repeat (first | apply Kd.R_alloc | apply Kd.R_drewN | apply Kd.R_drew)); exact Kd.R_mono HO_349007.out (fun _ hk => ⟨hk.2.1,hk.2.2.1⟩)⟩,⟨kk BK326⟩,⟨kk BK348⟩,⟨bw HB⟩⟩
        show (let G_ : Prop:=_; G_)
        intro G_
        exact (let_tmp i_ : Nonempty G_:=(((⟨by
        subst G_
        rw [if_pos c53] at H
        obtain ⟨c53b0,c53b1⟩:=bT c53
        clear c53
        obtain ⟨t370,A54,H⟩:=bE H
        have H':=Zz.k H
        clear H
        have hnb55:=NB348_326.out
        have hnc55:=NB326_348.out
        obtain ⟨_,_,_,_,_,_,_,_,_,_,_,_,_,_,_,_,_,_,_,_,_,_⟩:=kc11 BK348
        go_wp2_with (first | ((with_reducible refine Qab (f:=43) rfl ?_); refine gl (some 64) Tryd.func43 #[.agg #[.int .i64 t335, .int .i64 t336, .int .i64 t337, .int .i64 t338, .int .i64 t339, .int .i64 t340, .string t341, .slice Ao32 t342.length co32, .int .i64 t345, .int .i64 t346, .int .i64 t347]] (h := ?_); (with_reducible refine (op_Check.calls kj25 t335 t336 t337 t338 t339 t340 t341 _ _ t342 t345 t346 t347 t365 _ ?side1 ?side2 A45.out).mono ?_); (case side1 => exact cr HO_349007); (case side2 => exact (Kd.R_reads' HO_349007.out).2.1); rintro e w57 ⟨rfl,hb⟩; refine ⟨_,rfl, ?_⟩; replace HO_3:=rb HO_3 hb; replace HO_6:=rb HO_6 hb; replace HO_8:=rb HO_8 hb; replace HO_11:=rb HO_11 hb; replace HO_12:=rb HO_12 hb; replace HO_349007:=rb HO_349007 hb; replace BK326:=bl BK326 hb; replace BK348:=bl BK348 hb; replace HB:=bs HB hb; clear hb) | ((with_reducible refine Qab (f:=42) rfl ?_); refine gl (some 65) Tryd.func42 #[.int .i64 t365] (h := ?_); (with_reducible refine (w4_num.calls t365 t366 _ A46.out).mono ?_); rintro e w' ⟨rfl,⟨nd,rfl⟩⟩; refine ⟨_,rfl, ?_⟩) | (go_at_call 42; (with_reducible refine (w4_num.calls t352 t367 _ A48.out).mono ?_); rintro e w' ⟨rfl,⟨nd,rfl⟩⟩; obtain ⟨Ao58,co58,eo58⟩:=Kd.R_slice HO_6.out; subst eo58; obtain ⟨Ao59,co59,eo59⟩:=Kd.R_slice HO_11.out; subst eo59) | (go_at_call 20; (with_reducible refine (r0_EqElems.calls kj25 _ _ t349 _ _ x11_25 true _ ?side1 ?side2 ?side3 ?side4 A50.out).mono ?_); (case side1 => exact cr HO_6); (case side2 => exact (Kd.R_reads' HO_6.out).2.1); (case side3 => exact cr HO_11); (case side4 => exact (Kd.R_reads' HO_11.out).2.1); rintro e w' ⟨rfl,⟨nd,rfl⟩⟩) | (go_at_call 42; (with_reducible refine (w4_num.calls t356 t369 _ A52.out).mono ?_); rintro e w' ⟨rfl,⟨nd,rfl⟩⟩; obtain ⟨Ao60,co60,eo60⟩:=Kd.R_slice HO_8.out; subst eo60; obtain ⟨Ao61,co61,eo61⟩:=Kd.R_slice HO_12.out; subst eo61) | (go_at_call 20; (with_reducible refine (r0_EqElems.calls kj25 _ _ t353 _ _ x12_25 t370 _ ?side1 ?side2 ?side3 ?side4 A54.out).mono ?_); (case side1 => exact cr HO_8); (case side2 => exact (Kd.R_reads' HO_8.out).2.1); (case side3 => exact cr HO_12); (case side4 => exact (Kd.R_reads' HO_12.out).2.1); rintro e w' ⟨rfl,⟨nd,rfl⟩⟩))
        go_meet
        case rel => exact ⟨_,(!t370),rf,H',⟨by have:=HK1.out; have:=HJ14.out; have:=HJ25.out; first | omega | exact Nat.le_refl _⟩,⟨rk HO_3⟩,⟨by (with_reducible repeat (first | apply Kd.R_alloc | apply Kd.R_drewN | apply Kd.R_drew)); exact Kd.R_mono HO_8.out (fun _ hk => ⟨hk.2.1,hk.2.2.2⟩)⟩,⟨by (with_reducible repeat (first | apply Kd.R_alloc | apply Kd.R_drewN | apply Kd.R_drew)); exact Kd.R_mono HO_11.out (fun _ hk => ⟨hk.2.1,hk.2.2.2⟩)⟩,⟨by (with_reducible repeat (first | apply Kd.R_alloc | apply Kd.R_drewN | apply Kd.R_drew)); exact Kd.R_mono HO_349007.out (fun _ hk => ⟨hk.2.1,hk.2.2.1⟩)⟩,⟨kk BK326⟩,⟨kk BK348⟩,⟨bw HB⟩⟩⟩ : Nonempty G_)) :); w4_OpTells.bxo (G:=G_) (inferInstanceAs (Nonempty G_)))⟩ : Nonempty G_)) :); w4_OpTells.bxo (G:=G_) (inferInstanceAs (Nonempty G_)))⟩ : Nonempty G_)) :); w4_OpTells.bxo (G:=G_) (inferInstanceAs (Nonempty G_)))⟩ : Nonempty G_)) :); w4_OpTells.bxo (G:=G_) (inferInstanceAs (Nonempty G_)))
       case rest =>
        show (let G_ : Prop:=_; G_)
        intro G_
        exact (let_tmp i_ : Nonempty G_:=(((⟨by
        subst G_
        clear HC44
        obtain ⟨kq,x91_43,rfl,HA,HJ43,HO_3,HO_8,HO_11,HO_349007,BK326,BK348,HB⟩:=hcut
        cases kq with
        | zero => exact absurd HA.out (by simp [w4_OpTells.j3])
        | succ kj43 =>
         have H:=HA.out
         clear HA
         simp only [w4_OpTells.j3] at H
         by_cases c78 : x91_43 = true
         ·show (let G_ : Prop:=_; G_)
          intro G_
          exact (let_tmp i_ : Nonempty G_:=(((⟨by
          subst G_
          subst c78
          rw [if_pos rfl] at H
          obtain rfl:=Zo H
          go_wp2
          go_ret
          exact ⟨re,bw HB⟩⟩ : Nonempty G_)) :); w4_OpTells.bxo (G:=G_) (inferInstanceAs (Nonempty G_)))
         replace c78:=Zf c78
         subst c78
         rw [if_neg nft] at H
         have H':=Zz.k H
         clear H
         go_wp2
         go_loopg [13] kj43 (fun kq v13 w' => ∃ (x13_5 : Int),v13 = .int .i64 x13_5 /\ Zz (w4_OpTells.l1 kq y331 x4_1 t353 x10_25 x11_25 x13_5 l0_0 l0_1 l0_2 t335 t336 t337 t338 t339 t340 t341 t342 t345 t346 t347 = some r) /\ Zz (kq <= kj43) /\ Zz (Kd.R (Kd.int .i64) 3 w' w.heap.size (fun _ => True) v332 y331) /\ Zz (Kd.R Qak 43 w' w.heap.size (fun k_ => some k_ ≠ (u11 : Value).ownBlock /\ some k_ ≠ ((.slice Ao32 t342.length co32) : Value).ownBlock) v354 t353) /\ Zz (Kd.R Qak 43 w' w.heap.size (fun k_ => some k_ ≠ (v354 : Value).ownBlock /\ some k_ ≠ ((.slice Ao32 t342.length co32) : Value).ownBlock) u11 x11_25) /\ Zz (Kd.R Qak 43 w' w.heap.size (fun k_ => some k_ ≠ (v354 : Value).ownBlock /\ some k_ ≠ (u11 : Value).ownBlock) (.slice Ao32 t342.length co32) t342) /\ Zz (w'.heap[gb326]? = some (.cells #[(.slice (some ad334) l0_0.length c0_0),(.slice A0_1 l0_1.length c0_1),(.slice A0_2 l0_2.length c0_2)] 61 (0,0))) /\ Zz (w'.heap[gb348]? = some (.cells #[.int .i64 t335, .int .i64 t336, .int .i64 t337, .int .i64 t338, .int .i64 t339, .int .i64 t340, .string t341,(.slice Ao32 t342.length co32), .int .i64 t345, .int .i64 t346, .int .i64 t347] 55 (0,0))) /\ Zz (Below w.heap.size w w'))
         case atStart => exact ⟨(0),rf,H',⟨Nat.le_refl _⟩,⟨rk HO_3⟩,⟨rk HO_8⟩,⟨rk HO_11⟩,⟨rk HO_349007⟩,⟨kk BK326⟩,⟨kk BK348⟩,⟨bw HB⟩⟩
         case round =>
          show (let G_ : Prop:=_; G_)
          intro G_
          exact (let_tmp i_ : Nonempty G_:=(((⟨by
          subst G_
          clear H'
          try clear c78
          obtain ⟨x13_5,rfl,HA,HK5,HO_3,HO_8,HO_11,HO_349007,BK326,BK348,HB⟩:=hrel
          cases gk with
          | zero => exact absurd HA.out (by simp [w4_OpTells.l1])
          | succ k5 =>
           have H:=HA.out
           clear HA
           simp only [w4_OpTells.l1] at H
           have HC79:=Zz.k H
           clear H
           go_upto_region 17 with (fail)
           go_cut [99] (fun v99 wc => ∃ (kq : Nat) (x99_78 : Bool),v99 = .bool x99_78 /\ Zz (w4_OpTells.j5 kq y331 x4_1 t353 x10_25 x11_25 x13_5 x99_78 l0_0 l0_1 l0_2 t335 t336 t337 t338 t339 t340 t341 t342 t345 t346 t347 = some r) /\ Zz (kq <= k5) /\ Zz (Kd.R (Kd.int .i64) 3 wc w.heap.size (fun _ => True) v332 y331) /\ Zz (Kd.R Qak 43 wc w.heap.size (fun k_ => some k_ ≠ (u11 : Value).ownBlock /\ some k_ ≠ ((.slice Ao32 t342.length co32) : Value).ownBlock) v354 t353) /\ Zz (Kd.R Qak 43 wc w.heap.size (fun k_ => some k_ ≠ (v354 : Value).ownBlock /\ some k_ ≠ ((.slice Ao32 t342.length co32) : Value).ownBlock) u11 x11_25) /\ Zz (Kd.R Qak 43 wc w.heap.size (fun k_ => some k_ ≠ (v354 : Value).ownBlock /\ some k_ ≠ (u11 : Value).ownBlock) (.slice Ao32 t342.length co32) t342) /\ Zz (wc.heap[gb326]? = some (.cells #[(.slice (some ad334) l0_0.length c0_0),(.slice A0_1 l0_1.length c0_1),(.slice A0_2 l0_2.length c0_2)] 61 (0,0))) /\ Zz (wc.heap[gb348]? = some (.cells #[.int .i64 t335, .int .i64 t336, .int .i64 t337, .int .i64 t338, .int .i64 t339, .int .i64 t340, .string t341,(.slice Ao32 t342.length co32), .int .i64 t345, .int .i64 t346, .int .i64 t347] 55 (0,0))) /\ Zz (Below w.heap.size w wc))
           case first =>
            have H:=HC79.out
            clear HC79
            by_cases c80 : x13_5 < (y331.length : Int)
            ·show (let G_ : Prop:=_; G_)
             intro G_
             exact (let_tmp i_ : Nonempty G_:=(((⟨by
             subst G_
             rw [if_pos c80] at H
             have c80b0:=Zd c80
             clear c80
             (first | rw [c80b0] | (simp only [i64_w,i32_w]; rw [c80b0]) | skip)
             have H':=Zz.k H
             clear H
             obtain ⟨Ao81,co81,eo81⟩:=Kd.R_slice HO_3.out
             subst eo81
             go_wp2
             go_meet
             case rel => exact ⟨_,(decide (x13_5 < 10)),rf,H',⟨by have:=HK1.out; have:=HJ14.out; have:=HJ25.out; have:=HJ43.out; have:=HK5.out; first | omega | exact Nat.le_refl _⟩,⟨rk HO_3⟩,⟨rk HO_8⟩,⟨rk HO_11⟩,⟨rk HO_349007⟩,⟨kk BK326⟩,⟨kk BK348⟩,⟨bw HB⟩⟩⟩ : Nonempty G_)) :); w4_OpTells.bxo (G:=G_) (inferInstanceAs (Nonempty G_)))
            rw [if_neg c80] at H
            have c80b0:=Ze c80
            clear c80
            (first | rw [c80b0] | (simp only [i64_w,i32_w]; rw [c80b0]) | skip)
            have H':=Zz.k H
            clear H
            obtain ⟨Ao82,co82,eo82⟩:=Kd.R_slice HO_3.out
            subst eo82
            go_wp2
            go_meet
            case rel => exact ⟨_,(false),rf,H',⟨by have:=HK1.out; have:=HJ14.out; have:=HJ25.out; have:=HJ43.out; have:=HK5.out; first | omega | exact Nat.le_refl _⟩,⟨rk HO_3⟩,⟨rk HO_8⟩,⟨rk HO_11⟩,⟨rk HO_349007⟩,⟨kk BK326⟩,⟨kk BK348⟩,⟨bw HB⟩⟩
           case rest =>
            show (let G_ : Prop:=_; G_)
            intro G_
            exact (let_tmp i_ : Nonempty G_:=(((⟨by
            subst G_
            clear HC79
            obtain ⟨kq,x99_78,rfl,HA,HJ78,HO_3,HO_8,HO_11,HO_349007,BK326,BK348,HB⟩:=hcut
            cases kq with
            | zero => exact absurd HA.out (by simp [w4_OpTells.j5])
            | succ kj78 =>
             have H:=HA.out
             clear HA
             simp only [w4_OpTells.j5] at H
             by_cases c83 : x99_78 = true; rotate_left
             ·replace c83:=Zf c83
              subst c83
              rw [if_neg nft] at H
              obtain ⟨t383,A130,H⟩:=bE H
              by_cases c131 : 0 <= x4_1; rotate_left
              ·rw [if_neg c131] at H
               exact absurd H (by simp)
              show (let G_ : Prop:=_; G_)
              intro G_
              exact (let_tmp i_ : Nonempty G_:=(((⟨by
              subst G_
              rw [if_pos c131] at H
              have c131b0:=Zd c131
              clear c131
              by_cases c132 : x4_1 < (l0_0.length : Int); rotate_left
              ·rw [if_neg c132] at H
               exact absurd H (by simp)
              show (let G_ : Prop:=_; G_)
              intro G_
              exact (let_tmp i_ : Nonempty G_:=(((⟨by
              subst G_
              rw [if_pos c132] at H
              have c132b0:=Zd c132
              clear c132
              obtain ⟨t385,A133,H⟩:=bE H
              by_cases c134 : t385 = true; rotate_left
              ·replace c134:=Zf c134
               subst c134
               rw [if_neg nft] at H
               obtain rfl:=Zo H
               obtain ⟨Ao139,co139,eo139⟩:=Kd.R_slice HO_8.out
               subst eo139
               try go_wp2_with (first | ((with_reducible refine Qab (f:=27) rfl ?_); refine gl (some 140) Tryd.func27 #[.slice Ao139 t353.length co139] (h := ?_); (with_reducible refine (w0_Elems.calls kj78 (fun k_ => some k_ = (.slice Ao139 t353.length co139 : Value).ownBlock) (.slice Ao139 t353.length co139) t353 t383 w _ ?side1 ?side2 A130.out).mono ?_); (case side1 => repeat (first | (with_reducible first | exact HB.out | apply Qaj | apply Qbh | apply Qag | refine Qbw ?_ GE326.out | refine Qbw ?_ GE348.out) | exact HB.out)); (case side2 => exact Kd.R_tight rfl HO_8.out); rintro e w140 ⟨rfl,hy0,hb,hkp⟩; refine ⟨_,rfl, ?_⟩; replace HO_3:=Zz.k (Kd.R_mono (ok':=fun k_ => True) (Kd.R_keptB ((Kd.R_apart' HO_3.out (Kd.R_typed HO_8.out) (by decide))) hkp (fun k_ hk_ hs_ => (hk_.2) hs_)) (fun k_ hk_ => trivial)); replace HO_11:=Zz.k (Kd.R_mono (ok':=fun k_ => some k_ ≠ (.slice Ao139 t353.length co139 : Value).ownBlock /\ some k_ ≠ (.slice Ao32 t342.length co32 : Value).ownBlock) (Kd.R_keptB (HO_11.out) hkp (fun k_ hk_ hs_ => (hk_.1) hs_)) (fun k_ hk_ => ⟨hk_.1.1,hk_.1.2⟩)); replace HO_349007:=Zz.k (Kd.R_mono (ok':=fun k_ => some k_ ≠ (.slice Ao139 t353.length co139 : Value).ownBlock /\ some k_ ≠ (u11 : Value).ownBlock) (Kd.R_keptB (HO_349007.out) hkp (fun k_ hk_ hs_ => (hk_.1) hs_)) (fun k_ hk_ => ⟨hk_.1.1,hk_.1.2⟩)); replace BK326:=Zz.k (blk_kept (kk BK326) hkp (fun hs_ => (fun e_ => (Kd.R_ne HO_8.out BK326.out (by decide)) e_) hs_)); replace BK348:=Zz.k (blk_kept (kk BK348) hkp (fun hs_ => (fun e_ => (Kd.R_ne HO_8.out BK348.out (by decide)) e_) hs_)); replace HO_8:=Zz.k (Kd.R_reok rfl hy0 (fun k_ e_ => HO_8.out.1 k_ e_)); replace HB:=Zz.k (hb); clear hb; clear hkp; clear hy0))
               have n0_:=Zz.k (Kd.R_drew HO_3.out)
               have n1_:=Zz.k (Kd.R_drew HO_8.out)
               have n2_:=Zz.k (Kd.R_drew HO_11.out)
               have n3_:=Zz.k (Kd.R_drew HO_349007.out)
               have n4_:=Zz.k (Qai BK326.out)
               have n5_:=Zz.k (Qai BK348.out)
               have n6_:=Zz.k (Qag HB.out)
               clear HO_3
               clear HO_8
               clear HO_11
               clear HO_349007
               clear BK326
               clear BK348
               clear HB
               have HO_3:=n0_
               have HO_8:=n1_
               have HO_11:=n2_
               have HO_349007:=n3_
               have BK326:=n4_
               have BK348:=n5_
               have HB:=n6_
               clear n0_ n1_ n2_ n3_ n4_ n5_ n6_
               have p384 : 0 <= (x4_1 : Int):=od
               have q384 : x4_1 < (l0_0.length : Int):=od
               obtain ⟨ad384,A384_7,c384_7,e384,hx384_0,hx384_1,hx384_2,hx384_3,hx384_4,hx384_5,hx384_6,hx384_7,hx384_8,hx384_9,hx384_10,hl384_7,hi384_7⟩:=at_Op HR0_0.out x4_1 p384 q384
               have hw384_10:=hx384_10
               have hw384_9:=hx384_9
               have hw384_8:=hx384_8
               have hw384_7:=hx384_7
               have hw384_6:=hx384_6
               have hw384_5:=hx384_5
               have hw384_4:=hx384_4
               have hw384_3:=hx384_3
               have hw384_2:=hx384_2
               have hw384_1:=hx384_1
               have hw384_0:=hx384_0
               obtain rfl : ad334 = ad384:=(by injection e384)
               replace hx384_0:=cl HB hx384_0
               replace hx384_1:=cl HB hx384_1
               replace hx384_2:=cl HB hx384_2
               replace hx384_3:=cl HB hx384_3
               replace hx384_4:=cl HB hx384_4
               replace hx384_5:=cl HB hx384_5
               replace hx384_6:=cl HB hx384_6
               replace hx384_7:=cl HB hx384_7
               replace hx384_8:=cl HB hx384_8
               replace hx384_9:=cl HB hx384_9
               replace hx384_10:=cl HB hx384_10
               have HR384_7:=Zz.k hi384_7
               have HC384_7:=Zz.k hl384_7
               clear hi384_7 hl384_7
               replace p384:=eq_true p384
               replace q384:=eq_true q384
               refine stP (fun w' => B11 w' gb348 (.int .i64 t335) (.int .i64 t336) (.int .i64 t337) (.int .i64 t338) (.int .i64 t339) (.int .i64 t340) (.string t341) (.slice Ao32 t342.length co32) (.int .i64 t345) (.int .i64 t346) (.int .i64 t347) (B3 w' gb326 (.slice (some ad334) l0_0.length c0_0) (.slice A0_1 l0_1.length c0_1) (.slice A0_2 l0_2.length c0_2) (Q11 w' (ad334.add ((x4_1).toNat * 11)) (Qaf l0_0 x4_1) A384_7 c384_7))) 8 (b11 BK348 (b3 BK326 ⟨(cW HB hw384_0),(cW HB hw384_1),(cW HB hw384_2),(cW HB hw384_3),(cW HB hw384_4),(cW HB hw384_5),(cW HB hw384_6),(cW HB hw384_7),(cW HB hw384_8),(cW HB hw384_9),(cW HB hw384_10)⟩)) (h:=fun hHeld => ?_); refine Qav w4_OpTells.tab28 w4_OpTells.bits28 (fun HT_ HW_ => ?_)
               generalize w140.drew = w141 at HO_3 HO_8 HO_11 HO_349007 BK326 BK348 HB HR384_7 hx384_0 hx384_1 hx384_10 hx384_2 hx384_3 hx384_4 hx384_5 hx384_6 hx384_7 hx384_8 hx384_9 hHeld ⊢
               refine pu HT_ 1 142 2 (h := ?_)
               refine pu HT_ 3 144 10 (h := ?_)
               refine tk HT_ HW_ hHeld 0 141 11 (h := ?_)
               refine tk HT_ HW_ hHeld 2 143 15 (h := ?_)
               refine pu HT_ 4 145 31 (h := ?_)
               refine tk HT_ HW_ hHeld 5 146 63 (h := ?_)
               refine on HT_ 6 (some 147) 127 (h:=fun K hK => ?_)
               refine gS Tryd.func51 #[.agg #[.int .i64 t335, .int .i64 t336, .int .i64 t337, .int .i64 t338, .int .i64 t339, .int .i64 t340, .string t341, .slice Ao32 t342.length co32, .int .i64 t345, .int .i64 t346, .int .i64 t347], .agg #[.int .i64 ((Qaf l0_0 x4_1).f0), .int .i64 ((Qaf l0_0 x4_1).f1), .int .i64 ((Qaf l0_0 x4_1).f2), .int .i64 ((Qaf l0_0 x4_1).f3.f0), .int .i64 ((Qaf l0_0 x4_1).f3.f1), .int .i64 ((Qaf l0_0 x4_1).f3.f2), .string ((Qaf l0_0 x4_1).f4), .slice A384_7 ((Qaf l0_0 x4_1).f5).length c384_7, .int .i64 ((Qaf l0_0 x4_1).f6), .int .i64 ((Qaf l0_0 x4_1).f7), .int .i64 ((Qaf l0_0 x4_1).f8)]] (h := ?_)
               with_reducible refine (r0_EqOp.calls kj78 t335 t336 t337 t338 t339 t340 t341 _ _ t342 t345 t346 t347 ((Qaf l0_0 x4_1).f0) ((Qaf l0_0 x4_1).f1) ((Qaf l0_0 x4_1).f2) ((Qaf l0_0 x4_1).f3.f0) ((Qaf l0_0 x4_1).f3.f1) ((Qaf l0_0 x4_1).f3.f2) ((Qaf l0_0 x4_1).f4) _ _ ((Qaf l0_0 x4_1).f5) ((Qaf l0_0 x4_1).f6) ((Qaf l0_0 x4_1).f7) ((Qaf l0_0 x4_1).f8) false _ ?side1 ?side2 ?side3 ?side4 A133.out).mono ?_
               (case side1 => exact cr HO_349007)
               (case side2 => exact (Kd.R_reads' HO_349007.out).2.1)
               (case side3 => exact cb HR384_7 HB)
               (case side4 => exact HC384_7.out)
               rintro e w142 ⟨rfl,hb⟩
               refine ⟨_,rfl, ?_⟩
               have n0_:=rb HO_3 hb
               have n1_:=rb HO_8 hb
               have n2_:=rb HO_11 hb
               have n3_:=rb HO_349007 hb
               have n4_:=bl BK326 hb
               have n5_:=bl BK348 hb
               have n6_:=bs HB hb
               clear HO_3
               clear HO_8
               clear HO_11
               clear HO_349007
               clear BK326
               clear BK348
               clear HB
               have HO_3:=n0_
               have HO_8:=n1_
               have HO_11:=n2_
               have HO_349007:=n3_
               have BK326:=n4_
               have BK348:=n5_
               have HB:=n6_
               clear n0_ n1_ n2_ n3_ n4_ n5_ n6_
               (try clear hb)
               (try clear hb2)
               (try clear hk)
               (try clear hi)
               refine hK.out _ _ (b11 BK348 (b3 BK326 ⟨(cW HB hw384_0),(cW HB hw384_1),(cW HB hw384_2),(cW HB hw384_3),(cW HB hw384_4),(cW HB hw384_5),(cW HB hw384_6),(cW HB hw384_7),(cW HB hw384_8),(cW HB hw384_9),(cW HB hw384_10)⟩)) (fun hHeld => ?_)
               clear hK K
               refine nn 147 (h := ?_)
               refine pu HT_ 7 148 255 (h := ?_)
               refine dn HT_ (h := ?_)
               try go_wp2
               go_ret
               exact ⟨re,bw HB⟩
              show (let G_ : Prop:=_; G_)
              intro G_
              exact (let_tmp i_ : Nonempty G_:=(((⟨by
              subst G_
              subst c134
              rw [if_pos rfl] at H
              have H':=Zz.k H
              clear H
              obtain ⟨Ao135,co135,eo135⟩:=Kd.R_slice HO_8.out
              subst eo135
              try go_wp2_with (first | ((with_reducible refine Qab (f:=27) rfl ?_); refine gl (some 140) Tryd.func27 #[.slice Ao135 t353.length co135] (h := ?_); (with_reducible refine (w0_Elems.calls kj78 (fun k_ => some k_ = (.slice Ao135 t353.length co135 : Value).ownBlock) (.slice Ao135 t353.length co135) t353 t383 w _ ?side1 ?side2 A130.out).mono ?_); (case side1 => repeat (first | (with_reducible first | exact HB.out | apply Qaj | apply Qbh | apply Qag | refine Qbw ?_ GE326.out | refine Qbw ?_ GE348.out) | exact HB.out)); (case side2 => exact Kd.R_tight rfl HO_8.out); rintro e w136 ⟨rfl,hy0,hb,hkp⟩; refine ⟨_,rfl, ?_⟩; replace HO_3:=Zz.k (Kd.R_mono (ok':=fun k_ => True) (Kd.R_keptB ((Kd.R_apart' HO_3.out (Kd.R_typed HO_8.out) (by decide))) hkp (fun k_ hk_ hs_ => (hk_.2) hs_)) (fun k_ hk_ => trivial)); replace HO_11:=Zz.k (Kd.R_mono (ok':=fun k_ => some k_ ≠ (.slice Ao135 t353.length co135 : Value).ownBlock /\ some k_ ≠ (.slice Ao32 t342.length co32 : Value).ownBlock) (Kd.R_keptB (HO_11.out) hkp (fun k_ hk_ hs_ => (hk_.1) hs_)) (fun k_ hk_ => ⟨hk_.1.1,hk_.1.2⟩)); replace HO_349007:=Zz.k (Kd.R_mono (ok':=fun k_ => some k_ ≠ (.slice Ao135 t353.length co135 : Value).ownBlock /\ some k_ ≠ (u11 : Value).ownBlock) (Kd.R_keptB (HO_349007.out) hkp (fun k_ hk_ hs_ => (hk_.1) hs_)) (fun k_ hk_ => ⟨hk_.1.1,hk_.1.2⟩)); replace BK326:=Zz.k (blk_kept (kk BK326) hkp (fun hs_ => (fun e_ => (Kd.R_ne HO_8.out BK326.out (by decide)) e_) hs_)); replace BK348:=Zz.k (blk_kept (kk BK348) hkp (fun hs_ => (fun e_ => (Kd.R_ne HO_8.out BK348.out (by decide)) e_) hs_)); replace HO_8:=Zz.k (Kd.R_reok rfl hy0 (fun k_ e_ => HO_8.out.1 k_ e_)); replace HB:=Zz.k (hb); clear hb; clear hkp; clear hy0))
              have n0_:=Zz.k (Kd.R_drew HO_3.out)
              have n1_:=Zz.k (Kd.R_drew HO_8.out)
              have n2_:=Zz.k (Kd.R_drew HO_11.out)
              have n3_:=Zz.k (Kd.R_drew HO_349007.out)
              have n4_:=Zz.k (Qai BK326.out)
              have n5_:=Zz.k (Qai BK348.out)
              have n6_:=Zz.k (Qag HB.out)
              clear HO_3
              clear HO_8
              clear HO_11
              clear HO_349007
              clear BK326
              clear BK348
              clear HB
              have HO_3:=n0_
              have HO_8:=n1_
              have HO_11:=n2_
              have HO_349007:=n3_
              have BK326:=n4_
              have BK348:=n5_
              have HB:=n6_
              clear n0_ n1_ n2_ n3_ n4_ n5_ n6_
              have p384 : 0 <= (x4_1 : Int):=od
              have q384 : x4_1 < (l0_0.length : Int):=od
              obtain ⟨ad384,A384_7,c384_7,e384,hx384_0,hx384_1,hx384_2,hx384_3,hx384_4,hx384_5,hx384_6,hx384_7,hx384_8,hx384_9,hx384_10,hl384_7,hi384_7⟩:=at_Op HR0_0.out x4_1 p384 q384
              have hw384_10:=hx384_10
              have hw384_9:=hx384_9
              have hw384_8:=hx384_8
              have hw384_7:=hx384_7
              have hw384_6:=hx384_6
              have hw384_5:=hx384_5
              have hw384_4:=hx384_4
              have hw384_3:=hx384_3
              have hw384_2:=hx384_2
              have hw384_1:=hx384_1
              have hw384_0:=hx384_0
              obtain rfl : ad334 = ad384:=(by injection e384)
              replace hx384_0:=cl HB hx384_0
              replace hx384_1:=cl HB hx384_1
              replace hx384_2:=cl HB hx384_2
              replace hx384_3:=cl HB hx384_3
              replace hx384_4:=cl HB hx384_4
              replace hx384_5:=cl HB hx384_5
              replace hx384_6:=cl HB hx384_6
              replace hx384_7:=cl HB hx384_7
              replace hx384_8:=cl HB hx384_8
              replace hx384_9:=cl HB hx384_9
              replace hx384_10:=cl HB hx384_10
              have HR384_7:=Zz.k hi384_7
              have HC384_7:=Zz.k hl384_7
              clear hi384_7 hl384_7
              replace p384:=eq_true p384
              replace q384:=eq_true q384
              refine stP (fun w' => B11 w' gb348 (.int .i64 t335) (.int .i64 t336) (.int .i64 t337) (.int .i64 t338) (.int .i64 t339) (.int .i64 t340) (.string t341) (.slice Ao32 t342.length co32) (.int .i64 t345) (.int .i64 t346) (.int .i64 t347) (B3 w' gb326 (.slice (some ad334) l0_0.length c0_0) (.slice A0_1 l0_1.length c0_1) (.slice A0_2 l0_2.length c0_2) (Q11 w' (ad334.add ((x4_1).toNat * 11)) (Qaf l0_0 x4_1) A384_7 c384_7))) 8 (b11 BK348 (b3 BK326 ⟨(cW HB hw384_0),(cW HB hw384_1),(cW HB hw384_2),(cW HB hw384_3),(cW HB hw384_4),(cW HB hw384_5),(cW HB hw384_6),(cW HB hw384_7),(cW HB hw384_8),(cW HB hw384_9),(cW HB hw384_10)⟩)) (h:=fun hHeld => ?_); refine Qav w4_OpTells.tab28 w4_OpTells.bits28 (fun HT_ HW_ => ?_)
              generalize w136.drew = w137 at HO_3 HO_8 HO_11 HO_349007 BK326 BK348 HB HR384_7 hx384_0 hx384_1 hx384_10 hx384_2 hx384_3 hx384_4 hx384_5 hx384_6 hx384_7 hx384_8 hx384_9 hHeld ⊢
              refine pu HT_ 1 142 2 (h := ?_)
              refine pu HT_ 3 144 10 (h := ?_)
              refine tk HT_ HW_ hHeld 0 141 11 (h := ?_)
              refine tk HT_ HW_ hHeld 2 143 15 (h := ?_)
              refine pu HT_ 4 145 31 (h := ?_)
              refine tk HT_ HW_ hHeld 5 146 63 (h := ?_)
              refine on HT_ 6 (some 147) 127 (h:=fun K hK => ?_)
              refine gS Tryd.func51 #[.agg #[.int .i64 t335, .int .i64 t336, .int .i64 t337, .int .i64 t338, .int .i64 t339, .int .i64 t340, .string t341, .slice Ao32 t342.length co32, .int .i64 t345, .int .i64 t346, .int .i64 t347], .agg #[.int .i64 ((Qaf l0_0 x4_1).f0), .int .i64 ((Qaf l0_0 x4_1).f1), .int .i64 ((Qaf l0_0 x4_1).f2), .int .i64 ((Qaf l0_0 x4_1).f3.f0), .int .i64 ((Qaf l0_0 x4_1).f3.f1), .int .i64 ((Qaf l0_0 x4_1).f3.f2), .string ((Qaf l0_0 x4_1).f4), .slice A384_7 ((Qaf l0_0 x4_1).f5).length c384_7, .int .i64 ((Qaf l0_0 x4_1).f6), .int .i64 ((Qaf l0_0 x4_1).f7), .int .i64 ((Qaf l0_0 x4_1).f8)]] (h := ?_)
              with_reducible refine (r0_EqOp.calls kj78 t335 t336 t337 t338 t339 t340 t341 _ _ t342 t345 t346 t347 ((Qaf l0_0 x4_1).f0) ((Qaf l0_0 x4_1).f1) ((Qaf l0_0 x4_1).f2) ((Qaf l0_0 x4_1).f3.f0) ((Qaf l0_0 x4_1).f3.f1) ((Qaf l0_0 x4_1).f3.f2) ((Qaf l0_0 x4_1).f4) _ _ ((Qaf l0_0 x4_1).f5) ((Qaf l0_0 x4_1).f6) ((Qaf l0_0 x4_1).f7) ((Qaf l0_0 x4_1).f8) true _ ?side1 ?side2 ?side3 ?side4 A133.out).mono ?_
              (case side1 => exact cr HO_349007)
              (case side2 => exact (Kd.R_reads' HO_349007.out).2.1)
              (case side3 => exact cb HR384_7 HB)
              (case side4 => exact HC384_7.out)
              rintro e w138 ⟨rfl,hb⟩
              refine ⟨_,rfl, ?_⟩
              have n0_:=rb HO_3 hb
              have n1_:=rb HO_8 hb
              have n2_:=rb HO_11 hb
              have n3_:=rb HO_349007 hb
              have n4_:=bl BK326 hb
              have n5_:=bl BK348 hb
              have n6_:=bs HB hb
              clear HO_3
              clear HO_8
              clear HO_11
              clear HO_349007
              clear BK326
              clear BK348
              clear HB
              have HO_3:=n0_
              have HO_8:=n1_
              have HO_11:=n2_
              have HO_349007:=n3_
              have BK326:=n4_
              have BK348:=n5_
              have HB:=n6_
              clear n0_ n1_ n2_ n3_ n4_ n5_ n6_
              (try clear hb)
              (try clear hb2)
              (try clear hk)
              (try clear hi)
              refine hK.out _ _ (b11 BK348 (b3 BK326 ⟨(cW HB hw384_0),(cW HB hw384_1),(cW HB hw384_2),(cW HB hw384_3),(cW HB hw384_4),(cW HB hw384_5),(cW HB hw384_6),(cW HB hw384_7),(cW HB hw384_8),(cW HB hw384_9),(cW HB hw384_10)⟩)) (fun hHeld => ?_)
              clear hK K
              refine nn 147 (h := ?_)
              refine pu HT_ 7 148 255 (h := ?_)
              refine dn HT_ (h := ?_)
              try go_wp2
              go_roundg kj78
              case measure => have:=HK1.out; have:=HJ14.out; have:=HJ25.out; have:=HJ43.out; have:=HK5.out; have:=HJ78.out; omega
              case rel => exact ⟨(wrap64 (x4_1 + 1)),rf,H',⟨by have:=HK1.out; have:=HJ14.out; have:=HJ25.out; have:=HJ43.out; have:=HK5.out; have:=HJ78.out; omega⟩,⟨rk HO_3⟩,⟨kk BK326⟩,⟨bw HB⟩⟩⟩ : Nonempty G_)) :); w4_OpTells.bxo (G:=G_) (inferInstanceAs (Nonempty G_)))⟩ : Nonempty G_)) :); w4_OpTells.bxo (G:=G_) (inferInstanceAs (Nonempty G_)))⟩ : Nonempty G_)) :); w4_OpTells.bxo (G:=G_) (inferInstanceAs (Nonempty G_)))
             show (let G_ : Prop:=_; G_)
             intro G_
             exact (let_tmp i_ : Nonempty G_:=(((⟨by
             subst G_
             subst c83
             rw [if_pos rfl] at H
             by_cases c84 : 0 <= x13_5; rotate_left
             ·rw [if_neg c84] at H
              exact absurd H (by simp)
             show (let G_ : Prop:=_; G_)
             intro G_
             exact (let_tmp i_ : Nonempty G_:=(((⟨by
             subst G_
             rw [if_pos c84] at H
             have c84b0:=Zd c84
             clear c84
             by_cases c85 : x13_5 < (y331.length : Int); rotate_left
             ·rw [if_neg c85] at H
              exact absurd H (by simp)
             show (let G_ : Prop:=_; G_)
             intro G_
             exact (let_tmp i_ : Nonempty G_:=(((⟨by
             subst G_
             rw [if_pos c85] at H
             have c85b0:=Zd c85
             clear c85
             obtain ⟨⟨t372,t373,t374,t375⟩,A86,H⟩:=bE H
             try dsimp only at H
             have HC87:=Zz.k H
             clear H
             try go_wp2
             have n0_:=Zz.k (Kd.R_drew HO_3.out)
             have n1_:=Zz.k (Kd.R_drew HO_8.out)
             have n2_:=Zz.k (Kd.R_drew HO_11.out)
             have n3_:=Zz.k (Kd.R_drew HO_349007.out)
             have n4_:=Zz.k (Qai BK326.out)
             have n5_:=Zz.k (Qai BK348.out)
             have n6_:=Zz.k (Qag HB.out)
             clear HO_3
             clear HO_8
             clear HO_11
             clear HO_349007
             clear BK326
             clear BK348
             clear HB
             have HO_3:=n0_
             have HO_8:=n1_
             have HO_11:=n2_
             have HO_349007:=n3_
             have BK326:=n4_
             have BK348:=n5_
             have HB:=n6_
             clear n0_ n1_ n2_ n3_ n4_ n5_ n6_
             obtain ⟨Ao89,co89,eo89⟩:=Kd.R_slice HO_3.out
             (first | subst eo89 | (injection eo89 with f1_ f2_ f3_; have f4_:=f1_.symm; have f5_:=f3_.symm; clear f1_ f2_ f3_; subst f4_; subst f5_))
             have p371 : 0 <= (x13_5 : Int):=od
             have q371 : x13_5 < (y331.length : Int):=od
             obtain ⟨ad371,e371,hx371_0⟩:=Kd.at_int (Kd.R_reads' HO_3.out).2.2 x13_5 p371 q371
             cases e371
             replace p371:=eq_true p371
             replace q371:=eq_true q371
             refine stP (fun w' => B11 w' gb348 (.int .i64 t335) (.int .i64 t336) (.int .i64 t337) (.int .i64 t338) (.int .i64 t339) (.int .i64 t340) (.string t341) (.slice Ao32 t342.length co32) (.int .i64 t345) (.int .i64 t346) (.int .i64 t347) (w'.cell? (ad371.add (x13_5).toNat) = some (.int .i64 (rd y331 x13_5)))) 12 (b11 BK348 hx371_0) (h:=fun hHeld => ?_); refine Qav w4_OpTells.tab19 w4_OpTells.bits19 (fun HT_ HW_ => ?_)
             generalize wc.drew = w88 at HO_3 HO_8 HO_11 HO_349007 BK326 BK348 HB hx371_0 hHeld ⊢
             refine pu HT_ 1 104 2 (h := ?_)
             refine pu HT_ 2 105 6 (h := ?_)
             refine pu HT_ 3 106 14 (h := ?_)
             refine tk HT_ HW_ hHeld 0 103 15 (h := ?_)
             refine tk HT_ HW_ hHeld 4 107 31 (h := ?_)
             refine join_ (σ:=Nat) 2 (bA 12 1023) (fun s_ => [(108, .tuple #[.agg #[.int .i64 t372, .int .i64 t373, .int .i64 t374], .int .i64 t375]),(14, .pointer (some ⟨s_,0,none⟩)),(102, .tuple #[.agg #[.int .i64 t372, .int .i64 t373, .int .i64 t374], .int .i64 t375]),(109, .agg #[.int .i64 t372, .int .i64 t373, .int .i64 t374]),(110, .int .i64 t375)]) (fun s_ w' => (w'.cell? ⟨gb348,0,none⟩ = some (.int .i64 t335) /\ w'.cell? ⟨gb348,1,none⟩ = some (.int .i64 t336) /\ w'.cell? ⟨gb348,2,none⟩ = some (.int .i64 t337) /\ w'.cell? ⟨gb348,3,none⟩ = some (.int .i64 t338) /\ w'.cell? ⟨gb348,4,none⟩ = some (.int .i64 t339) /\ w'.cell? ⟨gb348,5,none⟩ = some (.int .i64 t340) /\ w'.cell? ⟨gb348,6,none⟩ = some (.string t341) /\ w'.cell? ⟨gb348,7,none⟩ = some (.slice Ao32 t342.length co32) /\ w'.cell? ⟨gb348,8,none⟩ = some (.int .i64 t345) /\ w'.cell? ⟨gb348,9,none⟩ = some (.int .i64 t346) /\ w'.cell? ⟨gb348,10,none⟩ = some (.int .i64 t347) /\ w'.cell? (ad371.add (x13_5).toNat) = some (.int .i64 (rd y331 x13_5))) /\ (Kd.R Qak 43 w' w.heap.size (fun k_ => some k_ ≠ (.slice Ao32 t342.length co32 : Value).ownBlock /\ some k_ ≠ (v354 : Value).ownBlock /\ k_ ≠ s_) u11 x11_25) /\ (Kd.R (Kd.int .i64) 3 w' w.heap.size (fun _ => True) (.slice (some ad371) y331.length co89) y331) /\ (Kd.R Qak 43 w' w.heap.size (fun k_ => some k_ ≠ (u11 : Value).ownBlock /\ some k_ ≠ (v354 : Value).ownBlock /\ k_ ≠ s_) (.slice Ao32 t342.length co32) t342) /\ (Kd.R Qak 43 w' w.heap.size (fun k_ => some k_ ≠ (u11 : Value).ownBlock /\ some k_ ≠ (.slice Ao32 t342.length co32 : Value).ownBlock /\ k_ ≠ s_) v354 t353) /\ (w'.heap[gb326]? = some (.cells #[.slice (some ad334) l0_0.length c0_0, .slice A0_1 l0_1.length c0_1, .slice A0_2 l0_2.length c0_2] 61 (0,0))) /\ (w'.heap[gb348]? = some (.cells #[.int .i64 t335, .int .i64 t336, .int .i64 t337, .int .i64 t338, .int .i64 t339, .int .i64 t340, .string t341, .slice Ao32 t342.length co32, .int .i64 t345, .int .i64 t346, .int .i64 t347] 55 (0,0))) /\ (w'.heap[s_]? = some (.cells #[.int .i64 0, .int .i64 0, .int .i64 0] 43 (0,0))) /\ (w.heap.size <= s_) /\ (w.heap.size <= s_) /\ (gb326 ≠ s_) /\ (s_ ≠ gb326) /\ (gb348 ≠ s_) /\ (s_ ≠ gb348) /\ (Below w.heap.size w w')) ?_ ?_
             rotate_left
             ·show (let G_ : Prop:=_; G_)
              intro G_
              exact (let_tmp i_ : Nonempty G_:=(((⟨by
              subst G_
              intro hCont
              refine two_ (i:=5) (j:=9) (Ni:=some 108) (Nj:=some 14) (bA 12 63) (bA 12 543) rfl rfl rfl rfl (two_of HT_.out (by kernel_rfl)) (by decide) (by decide) (fun K hK => ?_) (fun K hK => ?_)
              ·show (let G_ : Prop:=_; G_)
               intro G_
               exact (let_tmp i_ : Nonempty G_:=(((⟨by
               subst G_
               skip
               refine gS Tryd.func49 #[.agg #[.int .i64 t335, .int .i64 t336, .int .i64 t337, .int .i64 t338, .int .i64 t339, .int .i64 t340, .string t341, .slice Ao32 t342.length co32, .int .i64 t345, .int .i64 t346, .int .i64 t347], .int .i64 (rd y331 x13_5)] (h := ?_)
               with_reducible refine (op_Own.calls kj78 t335 t336 t337 t338 t339 t340 t341 _ _ t342 t345 t346 t347 (rd y331 x13_5) t372 t373 t374 t375 _ ?side1 ?side2 A86.out).mono ?_
               (case side1 => exact cr HO_349007)
               (case side2 => exact (Kd.R_reads' HO_349007.out).2.1)
               rintro e w90 ⟨rfl,hb⟩
               have HS11_:=(hb.cell (World.block_lt_of_cell? _ _ (hHeld.2.2.2.2.2.2.2.2.2.2.2))).trans (hHeld.2.2.2.2.2.2.2.2.2.2.2)
               refine ⟨_,rfl, ?_⟩
               have n0_:=rb HO_3 hb
               have n1_:=rb HO_8 hb
               have n2_:=rb HO_11 hb
               have n3_:=rb HO_349007 hb
               have n4_:=bl BK326 hb
               have n5_:=bl BK348 hb
               have n6_:=bs HB hb
               clear HO_3
               clear HO_8
               clear HO_11
               clear HO_349007
               clear BK326
               clear BK348
               clear HB
               have HO_3:=n0_
               have HO_8:=n1_
               have HO_11:=n2_
               have HO_349007:=n3_
               have BK326:=n4_
               have BK348:=n5_
               have HB:=n6_
               clear n0_ n1_ n2_ n3_ n4_ n5_ n6_
               (try clear hb)
               (try clear hb2)
               (try clear hk)
               (try clear hi)
               refine hK.out _ _ (b11 BK348 HS11_) (fun hHeld => ?_)
               clear hK K
               refine nn 108 (h := ?_)
               refine pu HT_ 6 102 127 (h := ?_)
               refine pu HT_ 7 109 255 (h := ?_)
               refine pu HT_ 8 110 511 (h := ?_)
               refine on HT_ 9 (some 14) 1023 (h:=fun K hK => ?_)
               refine box_step ?hg (N:=14) ?hd (cs:=#[.int .i64 0, .int .i64 0, .int .i64 0]) (t:=43) ?hr ?_; (case hd => rfl); (case hg => rfl); (case hr => first | (go_simp; done) | (go_simp; rfl))
               intro gb376 hg w91 hbox hb
               have HS11_:=(hb.cell (World.block_lt_of_cell? _ _ (hHeld.2.2.2.2.2.2.2.2.2.2.2))).trans (hHeld.2.2.2.2.2.2.2.2.2.2.2)
               have n0_:=rb HO_3 hb
               have n1_:=Zz.k (Kd.R_below (Kd.R_elderB (rk HO_8) gb376 (Nat.le_of_eq hg.symm)) hb)
               have n2_:=Zz.k (Kd.R_below (Kd.R_elderB (rk HO_11) gb376 (Nat.le_of_eq hg.symm)) hb)
               have n3_:=Zz.k (Kd.R_below (Kd.R_elderB (rk HO_349007) gb376 (Nat.le_of_eq hg.symm)) hb)
               have n4_:=bl BK326 hb
               have n5_:=bl BK348 hb
               have n6_:=bs HB hb
               have n7_:=Zz.k (hbox)
               have n8_:=bz HB hg
               have n9_:=bz HB hg
               have n10_:=bn BK326 hg
               have n11_:=bm BK326 hg
               have n12_:=bn BK348 hg
               have n13_:=bm BK348 hg
               clear HO_3
               clear HO_8
               clear HO_11
               clear HO_349007
               clear BK326
               clear BK348
               clear HB
               have HO_3:=n0_
               have HO_8:=n1_
               have HO_11:=n2_
               have HO_349007:=n3_
               have BK326:=n4_
               have BK348:=n5_
               have HB:=n6_
               have BK376:=n7_
               have GW376:=n8_
               have GE376:=n9_
               have NB326_376:=n10_
               have NB376_326:=n11_
               have NB348_376:=n12_
               have NB376_348:=n13_
               clear n0_ n1_ n2_ n3_ n4_ n5_ n6_ n7_ n8_ n9_ n10_ n11_ n12_ n13_
               clear hb hbox hg
               refine hK.out _ _ (b11 BK348 HS11_) (fun hHeld => ?_)
               clear hK K
               refine nn 14 (h := ?_)
               exact norm_ (by simp only [putAll,Act.put,List.setIfInBounds_toArray,List.set_cons_zero,List.set_cons_succ]) (hCont (gb376) _ ⟨hHeld,(by (with_reducible repeat (first | apply Kd.R_alloc | apply Kd.R_drewN | apply Kd.R_drew)); exact Kd.R_mono HO_11.out (fun _ hk => ⟨hk.1.2,⟨hk.1.1,hk.2⟩⟩)),(rk HO_3),(by (with_reducible repeat (first | apply Kd.R_alloc | apply Kd.R_drewN | apply Kd.R_drew)); exact Kd.R_mono HO_349007.out (fun _ hk => ⟨hk.1.2,⟨hk.1.1,hk.2⟩⟩)),(by (with_reducible repeat (first | apply Kd.R_alloc | apply Kd.R_drewN | apply Kd.R_drew)); exact Kd.R_mono HO_8.out (fun _ hk => ⟨hk.1.1,⟨hk.1.2,hk.2⟩⟩)),(kk BK326),(kk BK348),(kk BK376),GW376.out,GE376.out,NB326_376.out,NB376_326.out,NB348_376.out,NB376_348.out,(bw HB)⟩)⟩ : Nonempty G_)) :); w4_OpTells.bxo (G:=G_) (inferInstanceAs (Nonempty G_)))
              skip
              refine box_step ?hg (N:=14) ?hd (cs:=#[.int .i64 0, .int .i64 0, .int .i64 0]) (t:=43) ?hr ?_; (case hd => rfl); (case hg => rfl); (case hr => first | (go_simp; done) | (go_simp; rfl))
              intro gb376 hg w90 hbox hb
              have HS11_:=(hb.cell (World.block_lt_of_cell? _ _ (hHeld.2.2.2.2.2.2.2.2.2.2.2))).trans (hHeld.2.2.2.2.2.2.2.2.2.2.2)
              have n0_:=rb HO_3 hb
              have n1_:=Zz.k (Kd.R_below (Kd.R_elderB (rk HO_8) gb376 (Nat.le_of_eq hg.symm)) hb)
              have n2_:=Zz.k (Kd.R_below (Kd.R_elderB (rk HO_11) gb376 (Nat.le_of_eq hg.symm)) hb)
              have n3_:=Zz.k (Kd.R_below (Kd.R_elderB (rk HO_349007) gb376 (Nat.le_of_eq hg.symm)) hb)
              have n4_:=bl BK326 hb
              have n5_:=bl BK348 hb
              have n6_:=bs HB hb
              have n7_:=Zz.k (hbox)
              have n8_:=bz HB hg
              have n9_:=bz HB hg
              have n10_:=bn BK326 hg
              have n11_:=bm BK326 hg
              have n12_:=bn BK348 hg
              have n13_:=bm BK348 hg
              clear HO_3
              clear HO_8
              clear HO_11
              clear HO_349007
              clear BK326
              clear BK348
              clear HB
              have HO_3:=n0_
              have HO_8:=n1_
              have HO_11:=n2_
              have HO_349007:=n3_
              have BK326:=n4_
              have BK348:=n5_
              have HB:=n6_
              have BK376:=n7_
              have GW376:=n8_
              have GE376:=n9_
              have NB326_376:=n10_
              have NB376_326:=n11_
              have NB348_376:=n12_
              have NB376_348:=n13_
              clear n0_ n1_ n2_ n3_ n4_ n5_ n6_ n7_ n8_ n9_ n10_ n11_ n12_ n13_
              clear hb hbox hg
              refine hK.out _ _ (b11 BK348 HS11_) (fun hHeld => ?_)
              clear hK K
              refine nn 14 (h := ?_)
              refine on HT_ 5 (some 108) 575 (h:=fun K hK => ?_)
              refine gS Tryd.func49 #[.agg #[.int .i64 t335, .int .i64 t336, .int .i64 t337, .int .i64 t338, .int .i64 t339, .int .i64 t340, .string t341, .slice Ao32 t342.length co32, .int .i64 t345, .int .i64 t346, .int .i64 t347], .int .i64 (rd y331 x13_5)] (h := ?_)
              with_reducible refine (op_Own.calls kj78 t335 t336 t337 t338 t339 t340 t341 _ _ t342 t345 t346 t347 (rd y331 x13_5) t372 t373 t374 t375 _ ?side1 ?side2 A86.out).mono ?_
              (case side1 => exact cr HO_349007)
              (case side2 => exact (Kd.R_reads' HO_349007.out).2.1)
              rintro e w91 ⟨rfl,hb⟩
              have HS11_:=(hb.cell (World.block_lt_of_cell? _ _ (hHeld.2.2.2.2.2.2.2.2.2.2.2))).trans (hHeld.2.2.2.2.2.2.2.2.2.2.2)
              refine ⟨_,rfl, ?_⟩
              have n0_:=rb HO_3 hb
              have n1_:=rb HO_8 hb
              have n2_:=rb HO_11 hb
              have n3_:=rb HO_349007 hb
              have n4_:=bl BK326 hb
              have n5_:=bl BK348 hb
              have n6_:=bl BK376 hb
              have n7_:=bs HB hb
              clear HO_3
              clear HO_8
              clear HO_11
              clear HO_349007
              clear BK326
              clear BK348
              clear BK376
              clear HB
              have HO_3:=n0_
              have HO_8:=n1_
              have HO_11:=n2_
              have HO_349007:=n3_
              have BK326:=n4_
              have BK348:=n5_
              have BK376:=n6_
              have HB:=n7_
              clear n0_ n1_ n2_ n3_ n4_ n5_ n6_ n7_
              (try clear hb)
              (try clear hb2)
              (try clear hk)
              (try clear hi)
              refine hK.out _ _ (b11 BK348 HS11_) (fun hHeld => ?_)
              clear hK K
              refine nn 108 (h := ?_)
              refine pu HT_ 6 102 639 (h := ?_)
              refine pu HT_ 7 109 767 (h := ?_)
              refine pu HT_ 8 110 1023 (h := ?_)
              exact norm_ (by simp only [putAll,Act.put,List.setIfInBounds_toArray,List.set_cons_zero,List.set_cons_succ]) (hCont (gb376) _ ⟨hHeld,(by (with_reducible repeat (first | apply Kd.R_alloc | apply Kd.R_drewN | apply Kd.R_drew)); exact Kd.R_mono HO_11.out (fun _ hk => ⟨hk.1.2,⟨hk.1.1,hk.2⟩⟩)),(rk HO_3),(by (with_reducible repeat (first | apply Kd.R_alloc | apply Kd.R_drewN | apply Kd.R_drew)); exact Kd.R_mono HO_349007.out (fun _ hk => ⟨hk.1.2,⟨hk.1.1,hk.2⟩⟩)),(by (with_reducible repeat (first | apply Kd.R_alloc | apply Kd.R_drewN | apply Kd.R_drew)); exact Kd.R_mono HO_8.out (fun _ hk => ⟨hk.1.1,⟨hk.1.2,hk.2⟩⟩)),(kk BK326),(kk BK348),(kk BK376),GW376.out,GE376.out,NB326_376.out,NB376_326.out,NB348_376.out,NB376_348.out,(bw HB)⟩)⟩ : Nonempty G_)) :); w4_OpTells.bxo (G:=G_) (inferInstanceAs (Nonempty G_)))
             rintro gb376 w92 ⟨hS_,h0_,h1_,h2_,h3_,h4_,h5_,h6_,h7_,h8_,h9_,h10_,h11_,h12_,h13_⟩
             have n0_ : Zz (Kd.R Qak 43 w92 w.heap.size (fun k_ => some k_ ≠ (.slice Ao32 t342.length co32 : Value).ownBlock /\ some k_ ≠ (v354 : Value).ownBlock /\ k_ ≠ gb376) u11 x11_25):=⟨h0_⟩
             have n1_ : Zz (Kd.R (Kd.int .i64) 3 w92 w.heap.size (fun _ => True) (.slice (some ad371) y331.length co89) y331):=⟨h1_⟩
             have n2_ : Zz (Kd.R Qak 43 w92 w.heap.size (fun k_ => some k_ ≠ (u11 : Value).ownBlock /\ some k_ ≠ (v354 : Value).ownBlock /\ k_ ≠ gb376) (.slice Ao32 t342.length co32) t342):=⟨h2_⟩
             have n3_ : Zz (Kd.R Qak 43 w92 w.heap.size (fun k_ => some k_ ≠ (u11 : Value).ownBlock /\ some k_ ≠ (.slice Ao32 t342.length co32 : Value).ownBlock /\ k_ ≠ gb376) v354 t353):=⟨h3_⟩
             have n4_ : Zz (w92.heap[gb326]? = some (.cells #[.slice (some ad334) l0_0.length c0_0, .slice A0_1 l0_1.length c0_1, .slice A0_2 l0_2.length c0_2] 61 (0,0))):=⟨h4_⟩
             have n5_ : Zz (w92.heap[gb348]? = some (.cells #[.int .i64 t335, .int .i64 t336, .int .i64 t337, .int .i64 t338, .int .i64 t339, .int .i64 t340, .string t341, .slice Ao32 t342.length co32, .int .i64 t345, .int .i64 t346, .int .i64 t347] 55 (0,0))):=⟨h5_⟩
             have n6_ : Zz (w92.heap[gb376]? = some (.cells #[.int .i64 0, .int .i64 0, .int .i64 0] 43 (0,0))):=⟨h6_⟩
             have n7_ : Zz (w.heap.size <= gb376):=⟨h7_⟩
             have n8_ : Zz (w.heap.size <= gb376):=⟨h8_⟩
             have n9_ : Zz (gb326 ≠ gb376):=⟨h9_⟩
             have n10_ : Zz (gb376 ≠ gb326):=⟨h10_⟩
             have n11_ : Zz (gb348 ≠ gb376):=⟨h11_⟩
             have n12_ : Zz (gb376 ≠ gb348):=⟨h12_⟩
             have n13_ : Zz (Below w.heap.size w w92):=⟨h13_⟩
             clear HO_3
             clear HO_8
             clear HO_11
             clear HO_349007
             clear BK326
             clear BK348
             clear HB
             clear h0_ h1_ h2_ h3_ h4_ h5_ h6_ h7_ h8_ h9_ h10_ h11_ h12_ h13_
             have HO_11:=n0_
             have HO_3:=n1_
             have HO_349007:=n2_
             have HO_8:=n3_
             have BK326:=n4_
             have BK348:=n5_
             have BK376:=n6_
             have GW376:=n7_
             have GE376:=n8_
             have NB326_376:=n9_
             have NB376_326:=n10_
             have NB348_376:=n11_
             have NB376_348:=n12_
             have HB:=n13_
             clear n0_ n1_ n2_ n3_ n4_ n5_ n6_ n7_ n8_ n9_ n10_ n11_ n12_ n13_
             have hHeld : w92.cell? ⟨gb348,0,none⟩ = some (.int .i64 t335) /\ w92.cell? ⟨gb348,1,none⟩ = some (.int .i64 t336) /\ w92.cell? ⟨gb348,2,none⟩ = some (.int .i64 t337) /\ w92.cell? ⟨gb348,3,none⟩ = some (.int .i64 t338) /\ w92.cell? ⟨gb348,4,none⟩ = some (.int .i64 t339) /\ w92.cell? ⟨gb348,5,none⟩ = some (.int .i64 t340) /\ w92.cell? ⟨gb348,6,none⟩ = some (.string t341) /\ w92.cell? ⟨gb348,7,none⟩ = some (.slice Ao32 t342.length co32) /\ w92.cell? ⟨gb348,8,none⟩ = some (.int .i64 t345) /\ w92.cell? ⟨gb348,9,none⟩ = some (.int .i64 t346) /\ w92.cell? ⟨gb348,10,none⟩ = some (.int .i64 t347) /\ w92.cell? (ad371.add (x13_5).toNat) = some (.int .i64 (rd y331 x13_5)):=hS_
             refine norm_ (a' := ?_) ?_ ?_
             rotate_left
             ·simp only [putAll,Act.put,List.setIfInBounds_toArray,List.set_cons_zero,List.set_cons_succ]
              rfl
             refine on HT_ 10 none 2047 (h:=fun K hK => ?_)
             have hs93 : w92.cell? ⟨gb376,0,none⟩ = some (.int .i64 0):=bc BK376 0
             have hfs93:=bf BK376 0
             have hns93_0:=NB326_376.out
             have hns93_1:=NB348_376.out
             have hms93_0:=NB376_326.out
             have hms93_1:=NB376_348.out
             have hs94 : w92.cell? ⟨gb376,1,none⟩ = some (.int .i64 0):=bc BK376 1
             have hfs94:=bf BK376 1
             have hns94_0:=NB326_376.out
             have hns94_1:=NB348_376.out
             have hms94_0:=NB376_326.out
             have hms94_1:=NB376_348.out
             have hs95 : w92.cell? ⟨gb376,2,none⟩ = some (.int .i64 0):=bc BK376 2
             have hfs95:=bf BK376 2
             have hns95_0:=NB326_376.out
             have hns95_1:=NB348_376.out
             have hms95_0:=NB376_326.out
             have hms95_1:=NB376_348.out
             refine skip_ (w1 := ?_) (by rfl) rfl ?_ ?_
             rotate_left
             ·go_simp
              rfl
             refine hK.out _ _ ⟨((Qan (p:=⟨gb376,_,none⟩) NB348_376.out _).trans (((Qan (p:=⟨gb376,_,none⟩) NB348_376.out _).trans (((Qan (p:=⟨gb376,_,none⟩) NB348_376.out _).trans (hHeld.1)))))),((Qan (p:=⟨gb376,_,none⟩) NB348_376.out _).trans (((Qan (p:=⟨gb376,_,none⟩) NB348_376.out _).trans (((Qan (p:=⟨gb376,_,none⟩) NB348_376.out _).trans (hHeld.2.1)))))),((Qan (p:=⟨gb376,_,none⟩) NB348_376.out _).trans (((Qan (p:=⟨gb376,_,none⟩) NB348_376.out _).trans (((Qan (p:=⟨gb376,_,none⟩) NB348_376.out _).trans (hHeld.2.2.1)))))),((Qan (p:=⟨gb376,_,none⟩) NB348_376.out _).trans (((Qan (p:=⟨gb376,_,none⟩) NB348_376.out _).trans (((Qan (p:=⟨gb376,_,none⟩) NB348_376.out _).trans (hHeld.2.2.2.1)))))),((Qan (p:=⟨gb376,_,none⟩) NB348_376.out _).trans (((Qan (p:=⟨gb376,_,none⟩) NB348_376.out _).trans (((Qan (p:=⟨gb376,_,none⟩) NB348_376.out _).trans (hHeld.2.2.2.2.1)))))),((Qan (p:=⟨gb376,_,none⟩) NB348_376.out _).trans (((Qan (p:=⟨gb376,_,none⟩) NB348_376.out _).trans (((Qan (p:=⟨gb376,_,none⟩) NB348_376.out _).trans (hHeld.2.2.2.2.2.1)))))),((Qan (p:=⟨gb376,_,none⟩) NB348_376.out _).trans (((Qan (p:=⟨gb376,_,none⟩) NB348_376.out _).trans (((Qan (p:=⟨gb376,_,none⟩) NB348_376.out _).trans (hHeld.2.2.2.2.2.2.1)))))),((Qan (p:=⟨gb376,_,none⟩) NB348_376.out _).trans (((Qan (p:=⟨gb376,_,none⟩) NB348_376.out _).trans (((Qan (p:=⟨gb376,_,none⟩) NB348_376.out _).trans (hHeld.2.2.2.2.2.2.2.1)))))),((Qan (p:=⟨gb376,_,none⟩) NB348_376.out _).trans (((Qan (p:=⟨gb376,_,none⟩) NB348_376.out _).trans (((Qan (p:=⟨gb376,_,none⟩) NB348_376.out _).trans (hHeld.2.2.2.2.2.2.2.2.1)))))),((Qan (p:=⟨gb376,_,none⟩) NB348_376.out _).trans (((Qan (p:=⟨gb376,_,none⟩) NB348_376.out _).trans (((Qan (p:=⟨gb376,_,none⟩) NB348_376.out _).trans (hHeld.2.2.2.2.2.2.2.2.2.1)))))),((Qan (p:=⟨gb376,_,none⟩) NB348_376.out _).trans (((Qan (p:=⟨gb376,_,none⟩) NB348_376.out _).trans (((Qan (p:=⟨gb376,_,none⟩) NB348_376.out _).trans (hHeld.2.2.2.2.2.2.2.2.2.2.1)))))),((cf (q:=⟨gb376,_,none⟩) (Kd.own_blk (Kd.R_ne HO_3.out BK376.out (by decide))) _).trans (((cf (q:=⟨gb376,_,none⟩) (Kd.own_blk (Kd.R_ne HO_3.out BK376.out (by decide))) _).trans (((cf (q:=⟨gb376,_,none⟩) (Kd.own_blk (Kd.R_ne HO_3.out BK376.out (by decide))) _).trans (hHeld.2.2.2.2.2.2.2.2.2.2.2))))))⟩ (fun hHeld => ?_)
             clear hK K
             refine pu HT_ 11 15 4095 (h := ?_)
             refine dn HT_ (h := ?_)
             go_upto_if 114 with (first | ((with_reducible refine Qac (N:=17) rfl ?_); refine bx 17 #[.int .i64 0, .int .i64 0, .int .i64 0] 43 (h := ?_); intro gb377 hg w96 hbox hb; have BK377:=Zz.k (hbox); have GW377:=bz HB hg; have GE377:=bz HB hg; have NB326_377:=bn BK326 hg; have NB377_326:=bm BK326 hg; have NB348_377:=bn BK348 hg; have NB377_348:=bm BK348 hg; have NB376_377:=Zz.k ((by rw [hg]; exact Nat.ne_of_lt (blk_lt (g:=gb376) (o:=.cells #[.int .i64 t372, .int .i64 t373, .int .i64 t374] 43 (0,0)) (bp (bp (bp (kk BK376) 0) 1) 2)) : gb376 ≠ gb377)); have NB377_376:=Zz.k ((by rw [hg]; exact Nat.ne_of_gt (blk_lt (g:=gb376) (o:=.cells #[.int .i64 t372, .int .i64 t373, .int .i64 t374] 43 (0,0)) (bp (bp (bp (kk BK376) 0) 1) 2)) : gb377 ≠ gb376)); replace HO_3:=Zz.k (Kd.R_below (by (with_reducible repeat (first | apply Kd.R_alloc | apply Kd.R_drewN | apply Kd.R_drew)); exact (Kd.R_mono (Kd.R_far (p:=⟨gb376,2,none⟩) (Kd.R_far (p:=⟨gb376,1,none⟩) (Kd.R_far (p:=⟨gb376,0,none⟩) (Kd.R_types HO_3.out BK376.out (by decide)) (fun _ hk => hk.2) (.int .i64 t372)) (fun _ hk => hk.2) (.int .i64 t373)) (fun _ hk => hk.2) (.int .i64 t374)) (fun _ h_ => h_.1))) hb); replace HO_8:=Zz.k (Kd.R_below (Kd.R_elderB (by (with_reducible repeat (first | apply Kd.R_alloc | apply Kd.R_drewN | apply Kd.R_drew)); exact (Kd.R_mono (Kd.R_far (p:=⟨gb376,2,none⟩) (Kd.R_far (p:=⟨gb376,1,none⟩) (Kd.R_far (p:=⟨gb376,0,none⟩) (Kd.R_mono HO_8.out (fun k_ hk => (⟨hk,hk.2.2⟩ : _ /\ k_ ≠ gb376))) (fun _ hk => hk.2) (.int .i64 t372)) (fun _ hk => hk.2) (.int .i64 t373)) (fun _ hk => hk.2) (.int .i64 t374)) (fun _ h_ => h_.1))) gb377 (Nat.le_of_eq hg.symm)) hb); replace HO_11:=Zz.k (Kd.R_below (Kd.R_elderB (by (with_reducible repeat (first | apply Kd.R_alloc | apply Kd.R_drewN | apply Kd.R_drew)); exact (Kd.R_mono (Kd.R_far (p:=⟨gb376,2,none⟩) (Kd.R_far (p:=⟨gb376,1,none⟩) (Kd.R_far (p:=⟨gb376,0,none⟩) (Kd.R_mono HO_11.out (fun k_ hk => (⟨hk,hk.2.2⟩ : _ /\ k_ ≠ gb376))) (fun _ hk => hk.2) (.int .i64 t372)) (fun _ hk => hk.2) (.int .i64 t373)) (fun _ hk => hk.2) (.int .i64 t374)) (fun _ h_ => h_.1))) gb377 (Nat.le_of_eq hg.symm)) hb); replace HO_349007:=Zz.k (Kd.R_below (Kd.R_elderB (by (with_reducible repeat (first | apply Kd.R_alloc | apply Kd.R_drewN | apply Kd.R_drew)); exact (Kd.R_mono (Kd.R_far (p:=⟨gb376,2,none⟩) (Kd.R_far (p:=⟨gb376,1,none⟩) (Kd.R_far (p:=⟨gb376,0,none⟩) (Kd.R_mono HO_349007.out (fun k_ hk => (⟨hk,hk.2.2⟩ : _ /\ k_ ≠ gb376))) (fun _ hk => hk.2) (.int .i64 t372)) (fun _ hk => hk.2) (.int .i64 t373)) (fun _ hk => hk.2) (.int .i64 t374)) (fun _ h_ => h_.1))) gb377 (Nat.le_of_eq hg.symm)) hb); replace BK326:=bl BK326 hb; replace BK348:=bl BK348 hb; replace BK376:=Zz.k (Qbf (g:=gb376) (o:=.cells #[.int .i64 t372, .int .i64 t373, .int .i64 t374] 43 (0,0)) (bp (bp (bp (kk BK376) 0) 1) 2) hb); replace HB:=bs HB hb; clear hb hbox hg; have hnb97:=NB377_326.out; have hnc97:=NB326_377.out; have hnb98:=NB377_348.out; have hnc98:=NB348_377.out; have hnb99:=NB377_376.out; have hnc99:=NB376_377.out; obtain ⟨_,_,_,_,_,_⟩:=kc3 BK377))
             (try simp only [Act.put,List.setIfInBounds_toArray,List.set_cons_zero,List.set_cons_succ])
             go_cut [16] (fun v16 wc => ∃ (kq : Nat) (x16_86 : Int) (x378000_86 : Int) (x378001_86 : Int) (x378002_86 : Int),v16 = .int .i64 x16_86 /\ Zz (w4_OpTells.j6 kq y331 x4_1 t353 x10_25 x11_25 x13_5 t375 x16_86 l0_0 l0_1 l0_2 t335 t336 t337 t338 t339 t340 t341 t342 t345 t346 t347 t372 t373 t374 x378000_86 x378001_86 x378002_86 = some r) /\ Zz (kq <= kj78) /\ Zz (Kd.R (Kd.int .i64) 3 wc w.heap.size (fun _ => True) (.slice (some ad371) y331.length co89) y331) /\ Zz (Kd.R Qak 43 wc w.heap.size (fun k_ => some k_ ≠ (u11 : Value).ownBlock /\ some k_ ≠ ((.slice Ao32 t342.length co32) : Value).ownBlock /\ k_ ≠ gb376 /\ k_ ≠ gb377) v354 t353) /\ Zz (Kd.R Qak 43 wc w.heap.size (fun k_ => some k_ ≠ (v354 : Value).ownBlock /\ some k_ ≠ ((.slice Ao32 t342.length co32) : Value).ownBlock /\ k_ ≠ gb376 /\ k_ ≠ gb377) u11 x11_25) /\ Zz (Kd.R Qak 43 wc w.heap.size (fun k_ => some k_ ≠ (v354 : Value).ownBlock /\ some k_ ≠ (u11 : Value).ownBlock /\ k_ ≠ gb376 /\ k_ ≠ gb377) (.slice Ao32 t342.length co32) t342) /\ Zz (wc.heap[gb326]? = some (.cells #[(.slice (some ad334) l0_0.length c0_0),(.slice A0_1 l0_1.length c0_1),(.slice A0_2 l0_2.length c0_2)] 61 (0,0))) /\ Zz (wc.heap[gb348]? = some (.cells #[.int .i64 t335, .int .i64 t336, .int .i64 t337, .int .i64 t338, .int .i64 t339, .int .i64 t340, .string t341,(.slice Ao32 t342.length co32), .int .i64 t345, .int .i64 t346, .int .i64 t347] 55 (0,0))) /\ Zz (wc.heap[gb376]? = some (.cells #[.int .i64 t372, .int .i64 t373, .int .i64 t374] 43 (0,0))) /\ Zz (wc.heap[gb377]? = some (.cells #[.int .i64 x378000_86, .int .i64 x378001_86, .int .i64 x378002_86] 43 (0,0))) /\ Zz (Below w.heap.size w wc))
             case first =>
              have H:=HC87.out
              clear HC87
              by_cases c101 : x10_25 = 0; rotate_left
              ·rw [if_neg c101] at H
               obtain ⟨c101b0,c101b1⟩:=bF c101
               (first | rw [c101b0] | (simp only [i64_w,i32_w]; rw [c101b0]) | skip)
               have H':=Zz.k H
               clear H
               go_wp2
               go_meet
               case rel => exact ⟨_,(x10_25),(0),(0),(0),rf,H',⟨by have:=HK1.out; have:=HJ14.out; have:=HJ25.out; have:=HJ43.out; have:=HK5.out; have:=HJ78.out; first | omega | exact Nat.le_refl _⟩,⟨by (with_reducible repeat (first | apply Kd.R_alloc | apply Kd.R_drewN | apply Kd.R_drew)); exact Kd.R_mono (Kd.R_far (p:=⟨gb377,2,none⟩) (Kd.R_far (p:=⟨gb377,1,none⟩) (Kd.R_far (p:=⟨gb377,0,none⟩) (Kd.R_types HO_3.out BK377.out (by decide)) (fun _ hk => hk.2) (.int .i64 0)) (fun _ hk => hk.2) (.int .i64 0)) (fun _ hk => hk.2) (.int .i64 0)) (fun _ hk => trivial)⟩,⟨by (with_reducible repeat (first | apply Kd.R_alloc | apply Kd.R_drewN | apply Kd.R_drew)); exact Kd.R_mono (Kd.R_far (p:=⟨gb377,2,none⟩) (Kd.R_far (p:=⟨gb377,1,none⟩) (Kd.R_far (p:=⟨gb377,0,none⟩) (Kd.R_mono HO_8.out (fun k_ hk => (⟨hk,hk.2⟩ : _ /\ k_ ≠ gb377))) (fun _ hk => hk.2) (.int .i64 0)) (fun _ hk => hk.2) (.int .i64 0)) (fun _ hk => hk.2) (.int .i64 0)) (fun _ hk => ⟨hk.1.1.1,⟨hk.1.1.2.1,⟨hk.1.1.2.2,hk.1.2⟩⟩⟩)⟩,⟨by (with_reducible repeat (first | apply Kd.R_alloc | apply Kd.R_drewN | apply Kd.R_drew)); exact Kd.R_mono (Kd.R_far (p:=⟨gb377,2,none⟩) (Kd.R_far (p:=⟨gb377,1,none⟩) (Kd.R_far (p:=⟨gb377,0,none⟩) (Kd.R_mono HO_11.out (fun k_ hk => (⟨hk,hk.2⟩ : _ /\ k_ ≠ gb377))) (fun _ hk => hk.2) (.int .i64 0)) (fun _ hk => hk.2) (.int .i64 0)) (fun _ hk => hk.2) (.int .i64 0)) (fun _ hk => ⟨hk.1.1.2.1,⟨hk.1.1.1,⟨hk.1.1.2.2,hk.1.2⟩⟩⟩)⟩,⟨by (with_reducible repeat (first | apply Kd.R_alloc | apply Kd.R_drewN | apply Kd.R_drew)); exact Kd.R_mono (Kd.R_far (p:=⟨gb377,2,none⟩) (Kd.R_far (p:=⟨gb377,1,none⟩) (Kd.R_far (p:=⟨gb377,0,none⟩) (Kd.R_mono HO_349007.out (fun k_ hk => (⟨hk,hk.2⟩ : _ /\ k_ ≠ gb377))) (fun _ hk => hk.2) (.int .i64 0)) (fun _ hk => hk.2) (.int .i64 0)) (fun _ hk => hk.2) (.int .i64 0)) (fun _ hk => ⟨hk.1.1.2.1,⟨hk.1.1.1,⟨hk.1.1.2.2,hk.1.2⟩⟩⟩)⟩,⟨kk BK326⟩,⟨kk BK348⟩,⟨kk BK376⟩,⟨bp (bp (bp (kk BK377) 0) 1) 2⟩,⟨bw HB⟩⟩
              show (let G_ : Prop:=_; G_)
              intro G_
              exact (let_tmp i_ : Nonempty G_:=(((⟨by
              subst G_
              rw [if_pos c101] at H
              obtain ⟨c101b0,c101b1⟩:=bT c101
              clear c101
              (first | rw [c101b0] | (simp only [i64_w,i32_w]; rw [c101b0]) | skip)
              obtain ⟨t379,A102,H⟩:=bE H
              by_cases c103 : t379 = true; rotate_left
              ·replace c103:=Zf c103
               subst c103
               rw [if_neg nft] at H
               have H':=Zz.k H
               clear H
               have p378 : 0 <= (x13_5 : Int):=od
               have q378 : x13_5 < (y331.length : Int):=od
               obtain ⟨ad378,e378,hx378_0⟩:=Kd.at_int (Kd.R_reads' HO_3.out).2.2 x13_5 p378 q378
               obtain rfl : ad371 = ad378:=(by injection e378)
               have hn378_0 : ad371.block ≠ gb377:=Kd.own_blk (Kd.R_ne HO_3.out BK377.out (by decide))
               have hn378_1 : ad371.block ≠ gb377:=Kd.own_blk (Kd.R_ne HO_3.out BK377.out (by decide))
               have hn378_2 : ad371.block ≠ gb377:=Kd.own_blk (Kd.R_ne HO_3.out BK377.out (by decide))
               replace hx378_0:=(Qan (p:=⟨gb377,0,none⟩) (by first | (rw [Qbg]; exact hn378_0) | (show (Addr.add _ _).block ≠ _; rw [Qbg]; exact hn378_0) | exact hn378_0) (.int .i64 0)).trans hx378_0
               replace hx378_0:=(Qan (p:=⟨gb377,1,none⟩) (by first | (rw [Qbg]; exact hn378_1) | (show (Addr.add _ _).block ≠ _; rw [Qbg]; exact hn378_1) | exact hn378_1) (.int .i64 0)).trans hx378_0
               replace hx378_0:=(Qan (p:=⟨gb377,2,none⟩) (by first | (rw [Qbg]; exact hn378_2) | (show (Addr.add _ _).block ≠ _; rw [Qbg]; exact hn378_2) | exact hn378_2) (.int .i64 0)).trans hx378_0
               clear hn378_0
               clear hn378_1
               clear hn378_2
               replace p378:=eq_true p378
               replace q378:=eq_true q378
               obtain ⟨Ao112,co112,eo112⟩:=Kd.R_slice HO_11.out
               subst eo112
               go_wp2_with (first | ((with_reducible refine Qab (f:=50) rfl ?_); refine gl (some 122) Tryd.func50 #[.int .i64 (rd y331 x13_5), .int .i64 (wrap64 ((x11_25.length : Int) - 1))] (h := ?_); (with_reducible refine (r0_Num.calls (rd y331 x13_5) (wrap64 ((x11_25.length : Int) - 1)) false _ A102.out).mono ?_); rintro e w' ⟨rfl,⟨nd,rfl⟩⟩; refine ⟨_,rfl, ?_⟩))
               go_meet
               case rel => exact ⟨_,(2),(0),(0),(0),rf,H',⟨by have:=HK1.out; have:=HJ14.out; have:=HJ25.out; have:=HJ43.out; have:=HK5.out; have:=HJ78.out; first | omega | exact Nat.le_refl _⟩,⟨by (with_reducible repeat (first | apply Kd.R_alloc | apply Kd.R_drewN | apply Kd.R_drew)); exact Kd.R_mono (Kd.R_far (p:=⟨gb377,2,none⟩) (Kd.R_far (p:=⟨gb377,1,none⟩) (Kd.R_far (p:=⟨gb377,0,none⟩) (Kd.R_types HO_3.out BK377.out (by decide)) (fun _ hk => hk.2) (.int .i64 0)) (fun _ hk => hk.2) (.int .i64 0)) (fun _ hk => hk.2) (.int .i64 0)) (fun _ hk => trivial)⟩,⟨by (with_reducible repeat (first | apply Kd.R_alloc | apply Kd.R_drewN | apply Kd.R_drew)); exact Kd.R_mono (Kd.R_far (p:=⟨gb377,2,none⟩) (Kd.R_far (p:=⟨gb377,1,none⟩) (Kd.R_far (p:=⟨gb377,0,none⟩) (Kd.R_mono HO_8.out (fun k_ hk => (⟨hk,hk.2⟩ : _ /\ k_ ≠ gb377))) (fun _ hk => hk.2) (.int .i64 0)) (fun _ hk => hk.2) (.int .i64 0)) (fun _ hk => hk.2) (.int .i64 0)) (fun _ hk => ⟨hk.1.1.1,⟨hk.1.1.2.1,⟨hk.1.1.2.2,hk.1.2⟩⟩⟩)⟩,⟨by (with_reducible repeat (first | apply Kd.R_alloc | apply Kd.R_drewN | apply Kd.R_drew)); exact Kd.R_mono (Kd.R_far (p:=⟨gb377,2,none⟩) (Kd.R_far (p:=⟨gb377,1,none⟩) (Kd.R_far (p:=⟨gb377,0,none⟩) (Kd.R_mono HO_11.out (fun k_ hk => (⟨hk,hk.2⟩ : _ /\ k_ ≠ gb377))) (fun _ hk => hk.2) (.int .i64 0)) (fun _ hk => hk.2) (.int .i64 0)) (fun _ hk => hk.2) (.int .i64 0)) (fun _ hk => ⟨hk.1.1.2.1,⟨hk.1.1.1,⟨hk.1.1.2.2,hk.1.2⟩⟩⟩)⟩,⟨by (with_reducible repeat (first | apply Kd.R_alloc | apply Kd.R_drewN | apply Kd.R_drew)); exact Kd.R_mono (Kd.R_far (p:=⟨gb377,2,none⟩) (Kd.R_far (p:=⟨gb377,1,none⟩) (Kd.R_far (p:=⟨gb377,0,none⟩) (Kd.R_mono HO_349007.out (fun k_ hk => (⟨hk,hk.2⟩ : _ /\ k_ ≠ gb377))) (fun _ hk => hk.2) (.int .i64 0)) (fun _ hk => hk.2) (.int .i64 0)) (fun _ hk => hk.2) (.int .i64 0)) (fun _ hk => ⟨hk.1.1.2.1,⟨hk.1.1.1,⟨hk.1.1.2.2,hk.1.2⟩⟩⟩)⟩,⟨kk BK326⟩,⟨kk BK348⟩,⟨kk BK376⟩,⟨bp (bp (bp (kk BK377) 0) 1) 2⟩,⟨bw HB⟩⟩
              show (let G_ : Prop:=_; G_)
              intro G_
              exact (let_tmp i_ : Nonempty G_:=(((⟨by
              subst G_
              subst c103
              rw [if_pos rfl] at H
              by_cases c104 : 0 <= (rd y331 x13_5); rotate_left
              ·rw [if_neg c104] at H
               exact absurd H (by simp)
              show (let G_ : Prop:=_; G_)
              intro G_
              exact (let_tmp i_ : Nonempty G_:=(((⟨by
              subst G_
              rw [if_pos c104] at H
              have c104b0:=Zd c104
              clear c104
              by_cases c105 : (rd y331 x13_5) < (x11_25.length : Int); rotate_left
              ·rw [if_neg c105] at H
               exact absurd H (by simp)
              show (let G_ : Prop:=_; G_)
              intro G_
              exact (let_tmp i_ : Nonempty G_:=(((⟨by
              subst G_
              rw [if_pos c105] at H
              have c105b0:=Zd c105
              clear c105
              have H':=Zz.k H
              clear H
              have p378 : 0 <= (x13_5 : Int):=od
              have q378 : x13_5 < (y331.length : Int):=od
              obtain ⟨ad378,e378,hx378_0⟩:=Kd.at_int (Kd.R_reads' HO_3.out).2.2 x13_5 p378 q378
              obtain rfl : ad371 = ad378:=(by injection e378)
              have hn378_0 : ad371.block ≠ gb377:=Kd.own_blk (Kd.R_ne HO_3.out BK377.out (by decide))
              have hn378_1 : ad371.block ≠ gb377:=Kd.own_blk (Kd.R_ne HO_3.out BK377.out (by decide))
              have hn378_2 : ad371.block ≠ gb377:=Kd.own_blk (Kd.R_ne HO_3.out BK377.out (by decide))
              replace hx378_0:=(Qan (p:=⟨gb377,0,none⟩) (by first | (rw [Qbg]; exact hn378_0) | (show (Addr.add _ _).block ≠ _; rw [Qbg]; exact hn378_0) | exact hn378_0) (.int .i64 0)).trans hx378_0
              replace hx378_0:=(Qan (p:=⟨gb377,1,none⟩) (by first | (rw [Qbg]; exact hn378_1) | (show (Addr.add _ _).block ≠ _; rw [Qbg]; exact hn378_1) | exact hn378_1) (.int .i64 0)).trans hx378_0
              replace hx378_0:=(Qan (p:=⟨gb377,2,none⟩) (by first | (rw [Qbg]; exact hn378_2) | (show (Addr.add _ _).block ≠ _; rw [Qbg]; exact hn378_2) | exact hn378_2) (.int .i64 0)).trans hx378_0
              clear hn378_0
              clear hn378_1
              clear hn378_2
              replace p378:=eq_true p378
              replace q378:=eq_true q378
              obtain ⟨Ao106,co106,eo106⟩:=Kd.R_slice HO_11.out
              subst eo106
              try go_wp2_with (first | ((with_reducible refine Qab (f:=50) rfl ?_); refine gl (some 122) Tryd.func50 #[.int .i64 (rd y331 x13_5), .int .i64 (wrap64 ((x11_25.length : Int) - 1))] (h := ?_); (with_reducible refine (r0_Num.calls (rd y331 x13_5) (wrap64 ((x11_25.length : Int) - 1)) true _ A102.out).mono ?_); rintro e w' ⟨rfl,⟨nd,rfl⟩⟩; refine ⟨_,rfl, ?_⟩))
              generalize hgz : (((w96.setCell ⟨gb377,0,none⟩ (.int .i64 0)).setCell ⟨gb377,1,none⟩ (.int .i64 0)).setCell ⟨gb377,2,none⟩ (.int .i64 0)) = w107
              have n0_ : Zz (Kd.R (Kd.int .i64) 3 w107 w.heap.size (fun _ => True) (.slice (some ad371) y331.length co89) y331):=by rw [<- hgz]; exact ⟨by (with_reducible repeat (first | apply Kd.R_alloc | apply Kd.R_drewN | apply Kd.R_drew)); exact Kd.R_mono (Kd.R_far (p:=⟨gb377,2,none⟩) (Kd.R_far (p:=⟨gb377,1,none⟩) (Kd.R_far (p:=⟨gb377,0,none⟩) (Kd.R_types HO_3.out BK377.out (by decide)) (fun _ hk => hk.2) (.int .i64 0)) (fun _ hk => hk.2) (.int .i64 0)) (fun _ hk => hk.2) (.int .i64 0)) (fun _ hk => trivial)⟩
              have n1_ : Zz (Kd.R Qak 43 w107 w.heap.size (fun k_ => some k_ ≠ (.slice Ao106 x11_25.length co106 : Value).ownBlock /\ some k_ ≠ (.slice Ao32 t342.length co32 : Value).ownBlock /\ k_ ≠ gb376 /\ k_ ≠ gb377) v354 t353):=by rw [<- hgz]; exact ⟨by (with_reducible repeat (first | apply Kd.R_alloc | apply Kd.R_drewN | apply Kd.R_drew)); exact Kd.R_mono (Kd.R_far (p:=⟨gb377,2,none⟩) (Kd.R_far (p:=⟨gb377,1,none⟩) (Kd.R_far (p:=⟨gb377,0,none⟩) (Kd.R_mono HO_8.out (fun k_ hk => (⟨hk,hk.2⟩ : _ /\ k_ ≠ gb377))) (fun _ hk => hk.2) (.int .i64 0)) (fun _ hk => hk.2) (.int .i64 0)) (fun _ hk => hk.2) (.int .i64 0)) (fun _ hk => ⟨hk.1.1.1,⟨hk.1.1.2.1,⟨hk.1.1.2.2,hk.1.2⟩⟩⟩)⟩
              have n2_ : Zz (Kd.R Qak 43 w107 w.heap.size (fun k_ => some k_ ≠ (v354 : Value).ownBlock /\ some k_ ≠ (.slice Ao32 t342.length co32 : Value).ownBlock /\ k_ ≠ gb376 /\ k_ ≠ gb377) (.slice Ao106 x11_25.length co106) x11_25):=by rw [<- hgz]; exact ⟨by (with_reducible repeat (first | apply Kd.R_alloc | apply Kd.R_drewN | apply Kd.R_drew)); exact Kd.R_mono (Kd.R_far (p:=⟨gb377,2,none⟩) (Kd.R_far (p:=⟨gb377,1,none⟩) (Kd.R_far (p:=⟨gb377,0,none⟩) (Kd.R_mono HO_11.out (fun k_ hk => (⟨hk,hk.2⟩ : _ /\ k_ ≠ gb377))) (fun _ hk => hk.2) (.int .i64 0)) (fun _ hk => hk.2) (.int .i64 0)) (fun _ hk => hk.2) (.int .i64 0)) (fun _ hk => ⟨hk.1.1.2.1,⟨hk.1.1.1,⟨hk.1.1.2.2,hk.1.2⟩⟩⟩)⟩
              have n3_ : Zz (Kd.R Qak 43 w107 w.heap.size (fun k_ => some k_ ≠ (v354 : Value).ownBlock /\ some k_ ≠ (.slice Ao106 x11_25.length co106 : Value).ownBlock /\ k_ ≠ gb376 /\ k_ ≠ gb377) (.slice Ao32 t342.length co32) t342):=by rw [<- hgz]; exact ⟨by (with_reducible repeat (first | apply Kd.R_alloc | apply Kd.R_drewN | apply Kd.R_drew)); exact Kd.R_mono (Kd.R_far (p:=⟨gb377,2,none⟩) (Kd.R_far (p:=⟨gb377,1,none⟩) (Kd.R_far (p:=⟨gb377,0,none⟩) (Kd.R_mono HO_349007.out (fun k_ hk => (⟨hk,hk.2⟩ : _ /\ k_ ≠ gb377))) (fun _ hk => hk.2) (.int .i64 0)) (fun _ hk => hk.2) (.int .i64 0)) (fun _ hk => hk.2) (.int .i64 0)) (fun _ hk => ⟨hk.1.1.2.1,⟨hk.1.1.1,⟨hk.1.1.2.2,hk.1.2⟩⟩⟩)⟩
              have n4_ : Zz (w107.heap[gb326]? = some (.cells #[.slice (some ad334) l0_0.length c0_0, .slice A0_1 l0_1.length c0_1, .slice A0_2 l0_2.length c0_2] 61 (0,0))):=by rw [<- hgz]; exact ⟨kk BK326⟩
              have n5_ : Zz (w107.heap[gb348]? = some (.cells #[.int .i64 t335, .int .i64 t336, .int .i64 t337, .int .i64 t338, .int .i64 t339, .int .i64 t340, .string t341, .slice Ao32 t342.length co32, .int .i64 t345, .int .i64 t346, .int .i64 t347] 55 (0,0))):=by rw [<- hgz]; exact ⟨kk BK348⟩
              have n6_ : Zz (w107.heap[gb376]? = some (.cells #[.int .i64 t372, .int .i64 t373, .int .i64 t374] 43 (0,0))):=by rw [<- hgz]; exact ⟨kk BK376⟩
              have n7_ : Zz (w107.heap[gb377]? = some (.cells #[.int .i64 0, .int .i64 0, .int .i64 0] 43 (0,0))):=by rw [<- hgz]; exact ⟨bp (bp (bp (kk BK377) 0) 1) 2⟩
              have n8_ : Zz (Below w.heap.size w w107):=by rw [<- hgz]; exact ⟨bw HB⟩
              (try clear HO_3)
              (try clear HO_8)
              (try clear HO_11)
              (try clear HO_349007)
              (try clear BK326)
              (try clear BK348)
              (try clear BK376)
              (try clear BK377)
              (try clear HB)
              clear hgz
              have HO_3:=n0_
              have HO_8:=n1_
              have HO_11:=n2_
              have HO_349007:=n3_
              have BK326:=n4_
              have BK348:=n5_
              have BK376:=n6_
              have BK377:=n7_
              have HB:=n8_
              clear n0_ n1_ n2_ n3_ n4_ n5_ n6_ n7_ n8_
              (try (rw [drewN_self w107]; generalize hq_ : World.drewN w107 _ = w107; have n0_ : Zz (Kd.R Qak 43 w107 w.heap.size (fun k_ => some k_ ≠ (.slice Ao32 t342.length co32 : Value).ownBlock /\ some k_ ≠ (v354 : Value).ownBlock /\ k_ ≠ gb376 /\ k_ ≠ gb377) (.slice Ao106 x11_25.length co106) x11_25):=⟨by rw [<- hq_]; exact (by (with_reducible repeat (first | apply Kd.R_alloc | apply Kd.R_drewN | apply Kd.R_drew)); exact Kd.R_mono HO_11.out (fun _ hk => ⟨hk.2.1,⟨hk.1,⟨hk.2.2.1,hk.2.2.2⟩⟩⟩))⟩; have n1_ : Zz (Kd.R (Kd.int .i64) 3 w107 w.heap.size (fun _ => True) (.slice (some ad371) y331.length co89) y331):=⟨by rw [<- hq_]; exact (rk HO_3)⟩; have n2_ : Zz (Kd.R Qak 43 w107 w.heap.size (fun k_ => some k_ ≠ (.slice Ao106 x11_25.length co106 : Value).ownBlock /\ some k_ ≠ (v354 : Value).ownBlock /\ k_ ≠ gb376 /\ k_ ≠ gb377) (.slice Ao32 t342.length co32) t342):=⟨by rw [<- hq_]; exact (by (with_reducible repeat (first | apply Kd.R_alloc | apply Kd.R_drewN | apply Kd.R_drew)); exact Kd.R_mono HO_349007.out (fun _ hk => ⟨hk.2.1,⟨hk.1,⟨hk.2.2.1,hk.2.2.2⟩⟩⟩))⟩; have n3_ : Zz (Kd.R Qak 43 w107 w.heap.size (fun k_ => some k_ ≠ (.slice Ao106 x11_25.length co106 : Value).ownBlock /\ some k_ ≠ (.slice Ao32 t342.length co32 : Value).ownBlock /\ k_ ≠ gb376 /\ k_ ≠ gb377) v354 t353):=⟨by rw [<- hq_]; exact (rk HO_8)⟩; have n4_ : Zz (w107.heap[gb326]? = some (.cells #[.slice (some ad334) l0_0.length c0_0, .slice A0_1 l0_1.length c0_1, .slice A0_2 l0_2.length c0_2] 61 (0,0))):=⟨by rw [<- hq_]; exact (kk BK326)⟩; have n5_ : Zz (w107.heap[gb348]? = some (.cells #[.int .i64 t335, .int .i64 t336, .int .i64 t337, .int .i64 t338, .int .i64 t339, .int .i64 t340, .string t341, .slice Ao32 t342.length co32, .int .i64 t345, .int .i64 t346, .int .i64 t347] 55 (0,0))):=⟨by rw [<- hq_]; exact (kk BK348)⟩; have n6_ : Zz (w107.heap[gb376]? = some (.cells #[.int .i64 t372, .int .i64 t373, .int .i64 t374] 43 (0,0))):=⟨by rw [<- hq_]; exact (kk BK376)⟩; have n7_ : Zz (w107.heap[gb377]? = some (.cells #[.int .i64 0, .int .i64 0, .int .i64 0] 43 (0,0))):=⟨by rw [<- hq_]; exact (kk BK377)⟩; have n8_ : Zz (Below w.heap.size w w107):=⟨by rw [<- hq_]; exact (bw HB)⟩; clear HO_11 HO_3 HO_349007 HO_8 BK326 BK348 BK376 BK377 HB hq_; have HO_11:=n0_; have HO_3:=n1_; have HO_349007:=n2_; have HO_8:=n3_; have BK326:=n4_; have BK348:=n5_; have BK376:=n6_; have BK377:=n7_; have HB:=n8_; clear n0_ n1_ n2_ n3_ n4_ n5_ n6_ n7_ n8_))
              have n0_:=Zz.k (Kd.R_drew HO_3.out)
              have n1_:=Zz.k (Kd.R_drew HO_8.out)
              have n2_:=Zz.k (Kd.R_drew HO_11.out)
              have n3_:=Zz.k (Kd.R_drew HO_349007.out)
              have n4_:=Zz.k (Qai BK326.out)
              have n5_:=Zz.k (Qai BK348.out)
              have n6_:=Zz.k (Qai BK376.out)
              have n7_:=Zz.k (Qai BK377.out)
              have n8_:=Zz.k (Qag HB.out)
              clear HO_3
              clear HO_8
              clear HO_11
              clear HO_349007
              clear BK326
              clear BK348
              clear BK376
              clear BK377
              clear HB
              have HO_3:=n0_
              have HO_8:=n1_
              have HO_11:=n2_
              have HO_349007:=n3_
              have BK326:=n4_
              have BK348:=n5_
              have BK376:=n6_
              have BK377:=n7_
              have HB:=n8_
              clear n0_ n1_ n2_ n3_ n4_ n5_ n6_ n7_ n8_
              have p380 : 0 <= (x13_5 : Int):=od
              have q380 : x13_5 < (y331.length : Int):=od
              obtain ⟨ad380,e380,hx380_0⟩:=Kd.at_int (Kd.R_reads' HO_3.out).2.2 x13_5 p380 q380
              obtain rfl : ad371 = ad380:=(by injection e380)
              replace p380:=eq_true p380
              replace q380:=eq_true q380
              have p381 : 0 <= ((rd y331 x13_5) : Int):=od
              have q381 : (rd y331 x13_5) < (x11_25.length : Int):=od
              obtain ⟨ad381,e381,hx381_0,hx381_1,hx381_2⟩:=Qas (Kd.R_reads' HO_11.out).2.2 (rd y331 x13_5) p381 q381
              cases e381
              replace p381:=eq_true p381
              replace q381:=eq_true q381
              refine stP (fun w' => w'.cell? (ad371.add (x13_5).toNat) = some (.int .i64 (rd y331 x13_5)) /\ w'.cell? (ad381.add (((rd y331 x13_5)).toNat * 3)) = some (.int .i64 ((Qaa x11_25 (rd y331 x13_5)).f0)) /\ w'.cell? ⟨(ad381.add (((rd y331 x13_5)).toNat * 3)).block,(ad381.add (((rd y331 x13_5)).toNat * 3)).off + 1,none⟩ = some (.int .i64 ((Qaa x11_25 (rd y331 x13_5)).f1)) /\ w'.cell? ⟨(ad381.add (((rd y331 x13_5)).toNat * 3)).block,(ad381.add (((rd y331 x13_5)).toNat * 3)).off + 2,none⟩ = some (.int .i64 ((Qaa x11_25 (rd y331 x13_5)).f2))) 9 ⟨hx380_0,hx381_0,hx381_1,hx381_2⟩ (h:=fun hHeld => ?_); refine Qav w4_OpTells.tab24 w4_OpTells.bits24 (fun HT_ HW_ => ?_)
              generalize w107.drew = w108 at HO_3 HO_8 HO_11 HO_349007 BK326 BK348 BK376 BK377 HB hx380_0 hx381_0 hx381_1 hx381_2 hHeld ⊢
              refine pu HT_ 0 123 1 (h := ?_)
              refine pu HT_ 1 124 3 (h := ?_)
              refine pu HT_ 2 125 7 (h := ?_)
              refine pu HT_ 3 126 15 (h := ?_)
              refine pu HT_ 7 16 143 (h := ?_)
              refine tk HT_ HW_ hHeld 4 127 159 (h := ?_)
              refine pu HT_ 5 128 191 (h := ?_)
              refine tk HT_ HW_ hHeld 6 129 255 (h := ?_)
              refine on HT_ 8 none 511 (h:=fun K hK => ?_)
              have hs109 : w108.cell? ⟨gb377,0,none⟩ = some (.int .i64 0):=bc BK377 0
              have hfs109:=bf BK377 0
              have hns109_0:=NB326_377.out
              have hns109_1:=NB348_377.out
              have hns109_2:=NB376_377.out
              have hms109_0:=NB377_326.out
              have hms109_1:=NB377_348.out
              have hms109_2:=NB377_376.out
              have hs110 : w108.cell? ⟨gb377,1,none⟩ = some (.int .i64 0):=bc BK377 1
              have hfs110:=bf BK377 1
              have hns110_0:=NB326_377.out
              have hns110_1:=NB348_377.out
              have hns110_2:=NB376_377.out
              have hms110_0:=NB377_326.out
              have hms110_1:=NB377_348.out
              have hms110_2:=NB377_376.out
              have hs111 : w108.cell? ⟨gb377,2,none⟩ = some (.int .i64 0):=bc BK377 2
              have hfs111:=bf BK377 2
              have hns111_0:=NB326_377.out
              have hns111_1:=NB348_377.out
              have hns111_2:=NB376_377.out
              have hms111_0:=NB377_326.out
              have hms111_1:=NB377_348.out
              have hms111_2:=NB377_376.out
              refine skip_ (w1 := ?_) (by rfl) rfl ?_ ?_
              rotate_left
              ·go_simp
               rfl
              refine hK.out _ _ ⟨((cf (q:=⟨gb377,_,none⟩) (Kd.own_blk (Kd.R_ne HO_3.out BK377.out (by decide))) _).trans (((cf (q:=⟨gb377,_,none⟩) (Kd.own_blk (Kd.R_ne HO_3.out BK377.out (by decide))) _).trans (((cf (q:=⟨gb377,_,none⟩) (Kd.own_blk (Kd.R_ne HO_3.out BK377.out (by decide))) _).trans (hHeld.1)))))),((cf (q:=⟨gb377,_,none⟩) (Kd.own_blk (Kd.R_away HO_11.out (fun _ hk => hk.2.2.2))) _).trans (((cf (q:=⟨gb377,_,none⟩) (Kd.own_blk (Kd.R_away HO_11.out (fun _ hk => hk.2.2.2))) _).trans (((cf (q:=⟨gb377,_,none⟩) (Kd.own_blk (Kd.R_away HO_11.out (fun _ hk => hk.2.2.2))) _).trans (hHeld.2.1)))))),((cf (q:=⟨gb377,_,none⟩) (Kd.own_blk (Kd.R_away HO_11.out (fun _ hk => hk.2.2.2))) _).trans (((cf (q:=⟨gb377,_,none⟩) (Kd.own_blk (Kd.R_away HO_11.out (fun _ hk => hk.2.2.2))) _).trans (((cf (q:=⟨gb377,_,none⟩) (Kd.own_blk (Kd.R_away HO_11.out (fun _ hk => hk.2.2.2))) _).trans (hHeld.2.2.1)))))),((cf (q:=⟨gb377,_,none⟩) (Kd.own_blk (Kd.R_away HO_11.out (fun _ hk => hk.2.2.2))) _).trans (((cf (q:=⟨gb377,_,none⟩) (Kd.own_blk (Kd.R_away HO_11.out (fun _ hk => hk.2.2.2))) _).trans (((cf (q:=⟨gb377,_,none⟩) (Kd.own_blk (Kd.R_away HO_11.out (fun _ hk => hk.2.2.2))) _).trans (hHeld.2.2.2))))))⟩ (fun hHeld => ?_)
              clear hK K
              refine dn HT_ (h := ?_)
              try go_wp2
              go_meet
              case rel => exact ⟨_,(0),((Qaa x11_25 (rd y331 x13_5)).f0),((Qaa x11_25 (rd y331 x13_5)).f1),((Qaa x11_25 (rd y331 x13_5)).f2),rf,H',⟨by have:=HK1.out; have:=HJ14.out; have:=HJ25.out; have:=HJ43.out; have:=HK5.out; have:=HJ78.out; first | omega | exact Nat.le_refl _⟩,⟨by (with_reducible repeat (first | apply Kd.R_alloc | apply Kd.R_drewN | apply Kd.R_drew)); exact Kd.R_mono (Kd.R_far (p:=⟨gb377,2,none⟩) (Kd.R_far (p:=⟨gb377,1,none⟩) (Kd.R_far (p:=⟨gb377,0,none⟩) (Kd.R_types HO_3.out BK377.out (by decide)) (fun _ hk => hk.2) (.int .i64 ((Qaa x11_25 (rd y331 x13_5)).f0))) (fun _ hk => hk.2) (.int .i64 ((Qaa x11_25 (rd y331 x13_5)).f1))) (fun _ hk => hk.2) (.int .i64 ((Qaa x11_25 (rd y331 x13_5)).f2))) (fun _ hk => trivial)⟩,⟨by (with_reducible repeat (first | apply Kd.R_alloc | apply Kd.R_drewN | apply Kd.R_drew)); exact Kd.R_mono (Kd.R_far (p:=⟨gb377,2,none⟩) (Kd.R_far (p:=⟨gb377,1,none⟩) (Kd.R_far (p:=⟨gb377,0,none⟩) (Kd.R_mono HO_8.out (fun k_ hk => (⟨hk,hk.2.2.2⟩ : _ /\ k_ ≠ gb377))) (fun _ hk => hk.2) (.int .i64 ((Qaa x11_25 (rd y331 x13_5)).f0))) (fun _ hk => hk.2) (.int .i64 ((Qaa x11_25 (rd y331 x13_5)).f1))) (fun _ hk => hk.2) (.int .i64 ((Qaa x11_25 (rd y331 x13_5)).f2))) (fun _ hk => ⟨hk.1.1,⟨hk.1.2.1,⟨hk.1.2.2.1,hk.1.2.2.2⟩⟩⟩)⟩,⟨by (with_reducible repeat (first | apply Kd.R_alloc | apply Kd.R_drewN | apply Kd.R_drew)); exact Kd.R_mono (Kd.R_far (p:=⟨gb377,2,none⟩) (Kd.R_far (p:=⟨gb377,1,none⟩) (Kd.R_far (p:=⟨gb377,0,none⟩) (Kd.R_mono HO_11.out (fun k_ hk => (⟨hk,hk.2.2.2⟩ : _ /\ k_ ≠ gb377))) (fun _ hk => hk.2) (.int .i64 ((Qaa x11_25 (rd y331 x13_5)).f0))) (fun _ hk => hk.2) (.int .i64 ((Qaa x11_25 (rd y331 x13_5)).f1))) (fun _ hk => hk.2) (.int .i64 ((Qaa x11_25 (rd y331 x13_5)).f2))) (fun _ hk => ⟨hk.1.2.1,⟨hk.1.1,⟨hk.1.2.2.1,hk.1.2.2.2⟩⟩⟩)⟩,⟨by (with_reducible repeat (first | apply Kd.R_alloc | apply Kd.R_drewN | apply Kd.R_drew)); exact Kd.R_mono (Kd.R_far (p:=⟨gb377,2,none⟩) (Kd.R_far (p:=⟨gb377,1,none⟩) (Kd.R_far (p:=⟨gb377,0,none⟩) (Kd.R_mono HO_349007.out (fun k_ hk => (⟨hk,hk.2.2.2⟩ : _ /\ k_ ≠ gb377))) (fun _ hk => hk.2) (.int .i64 ((Qaa x11_25 (rd y331 x13_5)).f0))) (fun _ hk => hk.2) (.int .i64 ((Qaa x11_25 (rd y331 x13_5)).f1))) (fun _ hk => hk.2) (.int .i64 ((Qaa x11_25 (rd y331 x13_5)).f2))) (fun _ hk => ⟨hk.1.2.1,⟨hk.1.1,⟨hk.1.2.2.1,hk.1.2.2.2⟩⟩⟩)⟩,⟨kk BK326⟩,⟨kk BK348⟩,⟨kk BK376⟩,⟨bp (bp (bp (kk BK377) 0) 1) 2⟩,⟨bw HB⟩⟩⟩ : Nonempty G_)) :); w4_OpTells.bxo (G:=G_) (inferInstanceAs (Nonempty G_)))⟩ : Nonempty G_)) :); w4_OpTells.bxo (G:=G_) (inferInstanceAs (Nonempty G_)))⟩ : Nonempty G_)) :); w4_OpTells.bxo (G:=G_) (inferInstanceAs (Nonempty G_)))⟩ : Nonempty G_)) :); w4_OpTells.bxo (G:=G_) (inferInstanceAs (Nonempty G_)))
             case rest =>
              show (let G_ : Prop:=_; G_)
              intro G_
              exact (let_tmp i_ : Nonempty G_:=(((⟨by
              subst G_
              clear HC87
              obtain ⟨kq,x16_86,x378000_86,x378001_86,x378002_86,rfl,HA,HJ86,HO_3,HO_8,HO_11,HO_349007,BK326,BK348,BK376,BK377,HB⟩:=hcut
              cases kq with
              | zero => exact absurd HA.out (by simp [w4_OpTells.j6])
              | succ kj86 =>
               have H:=HA.out
               clear HA
               simp only [w4_OpTells.j6] at H
               obtain ⟨t382,A113,H⟩:=bE H
               by_cases c114 : t382 = x16_86; rotate_left
               ·rw [if_neg c114] at H
                obtain ⟨c114b0,c114b1⟩:=bF c114
                obtain rfl:=Zo H
                go_wp2_with (first | ((with_reducible refine Qab (f:=42) rfl ?_); refine gl (some 131) Tryd.func42 #[.int .i64 t375] (h := ?_); (with_reducible refine (w4_num.calls t375 t382 _ A113.out).mono ?_); rintro e w' ⟨rfl,⟨nd,rfl⟩⟩; refine ⟨_,rfl, ?_⟩))
                go_ret
                exact ⟨re,bw HB⟩
               show (let G_ : Prop:=_; G_)
               intro G_
               exact (let_tmp i_ : Nonempty G_:=(((⟨by
               subst G_
               rw [if_pos c114] at H
               obtain ⟨c114b0,c114b1⟩:=bT c114
               clear c114
               by_cases c115 : (!(t372 == x378000_86) || (!(t373 == x378001_86) || (!(t374 == x378002_86)))) = true
               ·rw [if_pos c115] at H
                have c115b0 : (!(t372 == x378000_86) || (!(t373 == x378001_86) || (!(t374 == x378002_86)))) = true:=c115
                clear c115
                obtain rfl:=Zo H
                go_wp2_with (first | ((with_reducible refine Qab (f:=42) rfl ?_); refine gl (some 131) Tryd.func42 #[.int .i64 t375] (h := ?_); (with_reducible refine (w4_num.calls t375 t382 _ A113.out).mono ?_); rintro e w' ⟨rfl,⟨nd,rfl⟩⟩; refine ⟨_,rfl, ?_⟩; have hnb116:=NB376_326.out; have hnc116:=NB326_376.out; have hnb117:=NB376_348.out; have hnc117:=NB348_376.out; have hnb118:=NB376_377.out; have hnc118:=NB377_376.out; obtain ⟨_,_,_,_,_,_⟩:=kc3 BK376; have hnb120:=NB377_326.out; have hnc120:=NB326_377.out; have hnb121:=NB377_348.out; have hnc121:=NB348_377.out; obtain ⟨_,_,_,_,_,_⟩:=kc3 BK377))
                go_ret
                exact ⟨re,bw HB⟩
               rw [if_neg c115] at H
               have c115b0 : (!(t372 == x378000_86) || (!(t373 == x378001_86) || (!(t374 == x378002_86)))) = false:=by simpa using c115
               clear c115
               have H':=Zz.k H
               clear H
               go_wp2_with (first | ((with_reducible refine Qab (f:=42) rfl ?_); refine gl (some 131) Tryd.func42 #[.int .i64 t375] (h := ?_); (with_reducible refine (w4_num.calls t375 t382 _ A113.out).mono ?_); rintro e w' ⟨rfl,⟨nd,rfl⟩⟩; refine ⟨_,rfl, ?_⟩; have hnb123:=NB376_326.out; have hnc123:=NB326_376.out; have hnb124:=NB376_348.out; have hnc124:=NB348_376.out; have hnb125:=NB376_377.out; have hnc125:=NB377_376.out; obtain ⟨_,_,_,_,_,_⟩:=kc3 BK376; have hnb127:=NB377_326.out; have hnc127:=NB326_377.out; have hnb128:=NB377_348.out; have hnc128:=NB348_377.out; obtain ⟨_,_,_,_,_,_⟩:=kc3 BK377))
               go_roundg kj86
               case measure => have:=HK1.out; have:=HJ14.out; have:=HJ25.out; have:=HJ43.out; have:=HK5.out; have:=HJ78.out; have:=HJ86.out; omega
               case rel => exact ⟨(wrap64 (x13_5 + 1)),rf,H',⟨by have:=HK1.out; have:=HJ14.out; have:=HJ25.out; have:=HJ43.out; have:=HK5.out; have:=HJ78.out; have:=HJ86.out; omega⟩,⟨rk HO_3⟩,⟨by (with_reducible repeat (first | apply Kd.R_alloc | apply Kd.R_drewN | apply Kd.R_drew)); exact Kd.R_mono HO_8.out (fun _ hk => ⟨hk.1,hk.2.1⟩)⟩,⟨by (with_reducible repeat (first | apply Kd.R_alloc | apply Kd.R_drewN | apply Kd.R_drew)); exact Kd.R_mono HO_11.out (fun _ hk => ⟨hk.1,hk.2.1⟩)⟩,⟨by (with_reducible repeat (first | apply Kd.R_alloc | apply Kd.R_drewN | apply Kd.R_drew)); exact Kd.R_mono HO_349007.out (fun _ hk => ⟨hk.1,hk.2.1⟩)⟩,⟨kk BK326⟩,⟨kk BK348⟩,⟨bw HB⟩⟩⟩ : Nonempty G_)) :); w4_OpTells.bxo (G:=G_) (inferInstanceAs (Nonempty G_)))⟩ : Nonempty G_)) :); w4_OpTells.bxo (G:=G_) (inferInstanceAs (Nonempty G_)))⟩ : Nonempty G_)) :); w4_OpTells.bxo (G:=G_) (inferInstanceAs (Nonempty G_)))⟩ : Nonempty G_)) :); w4_OpTells.bxo (G:=G_) (inferInstanceAs (Nonempty G_)))⟩ : Nonempty G_)) :); w4_OpTells.bxo (G:=G_) (inferInstanceAs (Nonempty G_)))⟩ : Nonempty G_)) :); w4_OpTells.bxo (G:=G_) (inferInstanceAs (Nonempty G_)))⟩ : Nonempty G_)) :); w4_OpTells.bxo (G:=G_) (inferInstanceAs (Nonempty G_)))⟩ : Nonempty G_)) :); w4_OpTells.bxo (G:=G_) (inferInstanceAs (Nonempty G_)))⟩ : Nonempty G_)) :); w4_OpTells.bxo (G:=G_) (inferInstanceAs (Nonempty G_)))⟩ : Nonempty G_)) :); w4_OpTells.bxo (G:=G_) (inferInstanceAs (Nonempty G_)))⟩ : Nonempty G_)) :); w4_OpTells.bxo (G:=G_) (inferInstanceAs (Nonempty G_)))⟩ : Nonempty G_)) :); w4_OpTells.bxo (G:=G_) (inferInstanceAs (Nonempty G_)))⟩ : Nonempty G_)) :); w4_OpTells.bxo (G:=G_) (inferInstanceAs (Nonempty G_)))⟩ : Nonempty G_)) :); w4_OpTells.bxo (G:=G_) (inferInstanceAs (Nonempty G_)))⟩ : Nonempty G_)) :); w4_OpTells.bxo (G:=G_) (inferInstanceAs (Nonempty G_)))
end
end Go.Proofs.YtonoaflfobajcaaDoor.L
end
