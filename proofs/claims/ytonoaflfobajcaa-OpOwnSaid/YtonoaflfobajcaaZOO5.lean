/- Part 5 of the proof that for every argument the law OpOwn answers true: an op never needs itself; its elements are its own, in order; of two elements one is less, or they are the same. -/
import Derived.Test.YtonoaflfobajcaaZOO4
section
namespace Go.Proofs.Ytonoaflfobajcaa.L
open Go.RowKit Go.Proofs.YtonoaflfobajcaaW.PrintWords Go.Proofs.YtonoaflfobajcaaW.PrintLast Go.Proofs.YtonoaflfobajcaaW.PrintMore
set_option linter.unusedVariables false
set_option linter.unusedSimpArgs false
set_option maxHeartbeats 40000000
set_option maxRecDepth 1000000
section
attribute [local go_sem] max2_int min2_int max_two min_two Qbj Qbi max_four min_four
attribute [local go_sem high] eqAElem
theorem w4_OpOwn.bxo {G : Prop} (h : Nonempty G) : G:=h.elim id
mutual
def w4_OpOwn.l0 : Nat -> Int -> List (SOp) -> List (SElem) -> List Int -> Option (Bool)
 | 0,_,_,_,_ => none
 | k + 1,x3,x203000,x203001,x203002 => if x3 < (x203000.length : Int) then (w4_OpOwn.j1 k x3 (decide (x3 < 10)) x203000 x203001 x203002) else (w4_OpOwn.j1 k x3 false x203000 x203001 x203002)
def w4_OpOwn.j1 : Nat -> Int -> Bool -> List (SOp) -> List (SElem) -> List Int -> Option (Bool)
 | 0,_,_,_,_,_ => none
 | k + 1,x3,x27,x203000,x203001,x203002 => if x27 = true then (if 0 <= x3 then (if x3 < (x203000.length : Int) then ((op_Check.f k ((Qab x203000 x3).f0) ((Qab x203000 x3).f1) ((Qab x203000 x3).f2) ((Qab x203000 x3).f3.f0) ((Qab x203000 x3).f3.f1) ((Qab x203000 x3).f3.f2) ((Qab x203000 x3).f4) ((Qab x203000 x3).f5) ((Qab x203000 x3).f6) ((Qab x203000 x3).f7) ((Qab x203000 x3).f8)).bind fun t206 => ((w4_num.f t206).bind fun t207 => (if t207 = 0 then ((op_Elems.f k ((Qab x203000 x3).f0) ((Qab x203000 x3).f1) ((Qab x203000 x3).f2) ((Qab x203000 x3).f3.f0) ((Qab x203000 x3).f3.f1) ((Qab x203000 x3).f3.f2) ((Qab x203000 x3).f4) ((Qab x203000 x3).f5) ((Qab x203000 x3).f6) ((Qab x203000 x3).f7) ((Qab x203000 x3).f8)).bind fun bt208 => ((op_Needs.f ((Qab x203000 x3).f0) ((Qab x203000 x3).f1) ((Qab x203000 x3).f2) ((Qab x203000 x3).f3.f0) ((Qab x203000 x3).f3.f1) ((Qab x203000 x3).f3.f2) ((Qab x203000 x3).f4) ((Qab x203000 x3).f5) ((Qab x203000 x3).f6) ((Qab x203000 x3).f7) ((Qab x203000 x3).f8)).bind fun bt212 => ((w4_num.f bt208.2).bind fun t216 => (if t216 = 0 then ((w4_num.f bt212.2).bind fun t217 => (if t217 = 0 then (w4_OpOwn.j2 k x3 bt208.1 bt212.1 (decide ((bt208.1.length : Int) > 12)) x203000 x203001 x203002 ((Qab x203000 x3).f0) ((Qab x203000 x3).f1) ((Qab x203000 x3).f2) ((Qab x203000 x3).f3.f0) ((Qab x203000 x3).f3.f1) ((Qab x203000 x3).f3.f2) ((Qab x203000 x3).f4) ((Qab x203000 x3).f5) ((Qab x203000 x3).f6) ((Qab x203000 x3).f7) ((Qab x203000 x3).f8)) else (w4_OpOwn.j2 k x3 bt208.1 bt212.1 true x203000 x203001 x203002 ((Qab x203000 x3).f0) ((Qab x203000 x3).f1) ((Qab x203000 x3).f2) ((Qab x203000 x3).f3.f0) ((Qab x203000 x3).f3.f1) ((Qab x203000 x3).f3.f2) ((Qab x203000 x3).f4) ((Qab x203000 x3).f5) ((Qab x203000 x3).f6) ((Qab x203000 x3).f7) ((Qab x203000 x3).f8)))) else (w4_OpOwn.j2 k x3 bt208.1 bt212.1 true x203000 x203001 x203002 ((Qab x203000 x3).f0) ((Qab x203000 x3).f1) ((Qab x203000 x3).f2) ((Qab x203000 x3).f3.f0) ((Qab x203000 x3).f3.f1) ((Qab x203000 x3).f3.f2) ((Qab x203000 x3).f4) ((Qab x203000 x3).f5) ((Qab x203000 x3).f6) ((Qab x203000 x3).f7) ((Qab x203000 x3).f8)))))) else (w4_OpOwn.l0 k (wrap64 (x3 + 1)) x203000 x203001 x203002)))) else (none)) else (none)) else (w4_OpOwn.l3 k 0 x203000 x203001 x203002)
def w4_OpOwn.j2 : Nat -> Int -> List (SElem) -> List (SElem) -> Bool -> List (SOp) -> List (SElem) -> List Int -> Int -> Int -> Int -> Int -> Int -> Int -> ByteArray -> List (SElem) -> Int -> Int -> Int -> Option (Bool)
 | 0,_,_,_,_,_,_,_,_,_,_,_,_,_,_,_,_,_,_ => none
 | k + 1,x3,x5,x7,x61,x203000,x203001,x203002,x206000,x206001,x206002,x206003,x206004,x206005,x206006,x206007,x206008,x206009,x206010 => if x61 = true then (some false) else (w4_OpOwn.l1 k x3 x5 x7 0 x203000 x203001 x203002 x206000 x206001 x206002 x206003 x206004 x206005 x206006 x206007 x206008 x206009 x206010)
def w4_OpOwn.l1 : Nat -> Int -> List (SElem) -> List (SElem) -> Int -> List (SOp) -> List (SElem) -> List Int -> Int -> Int -> Int -> Int -> Int -> Int -> ByteArray -> List (SElem) -> Int -> Int -> Int -> Option (Bool)
 | 0,_,_,_,_,_,_,_,_,_,_,_,_,_,_,_,_,_,_ => none
 | k + 1,x3,x5,x7,x9,x203000,x203001,x203002,x206000,x206001,x206002,x206003,x206004,x206005,x206006,x206007,x206008,x206009,x206010 => if x9 < (x5.length : Int) then ((op_Own.f k x206000 x206001 x206002 x206003 x206004 x206005 x206006 x206007 x206008 x206009 x206010 x9).bind fun bt218 => ((w4_num.f bt218.2.2.2).bind fun t223 => (if t223 = 0 then (if 0 <= x9 then (if (!(bt218.1 == ((Qaa x5 x9).f0)) || (!(bt218.2.1 == ((Qaa x5 x9).f1)) || (!(bt218.2.2.1 == ((Qaa x5 x9).f2))))) = true then (w4_OpOwn.j4 k x3 x5 x7 x9 true x203000 x203001 x203002 x206000 x206001 x206002 x206003 x206004 x206005 x206006 x206007 x206008 x206009 x206010) else (if bt218.1 = x206000 then (if bt218.2.1 = x206001 then (if x9 > 0 then (if 0 <= (wrap64 (x9 - 1)) then (if (wrap64 (x9 - 1)) < (x5.length : Int) then ((op_Less.f k ((Qaa x5 (wrap64 (x9 - 1))).f0) ((Qaa x5 (wrap64 (x9 - 1))).f1) ((Qaa x5 (wrap64 (x9 - 1))).f2) ((Qaa x5 x9).f0) ((Qaa x5 x9).f1) ((Qaa x5 x9).f2)).bind fun t227 => (w4_OpOwn.j4 k x3 x5 x7 x9 (!t227) x203000 x203001 x203002 x206000 x206001 x206002 x206003 x206004 x206005 x206006 x206007 x206008 x206009 x206010)) else (none)) else (none)) else (w4_OpOwn.j4 k x3 x5 x7 x9 false x203000 x203001 x203002 x206000 x206001 x206002 x206003 x206004 x206005 x206006 x206007 x206008 x206009 x206010)) else (w4_OpOwn.j4 k x3 x5 x7 x9 true x203000 x203001 x203002 x206000 x206001 x206002 x206003 x206004 x206005 x206006 x206007 x206008 x206009 x206010)) else (w4_OpOwn.j4 k x3 x5 x7 x9 true x203000 x203001 x203002 x206000 x206001 x206002 x206003 x206004 x206005 x206006 x206007 x206008 x206009 x206010))) else (none)) else (w4_OpOwn.j4 k x3 x5 x7 x9 true x203000 x203001 x203002 x206000 x206001 x206002 x206003 x206004 x206005 x206006 x206007 x206008 x206009 x206010)))) else (w4_OpOwn.l2 k x3 x7 0 x203000 x203001 x203002 x206000 x206001 x206002 x206003 x206004 x206005 x206006 x206007 x206008 x206009 x206010)
def w4_OpOwn.j4 : Nat -> Int -> List (SElem) -> List (SElem) -> Int -> Bool -> List (SOp) -> List (SElem) -> List Int -> Int -> Int -> Int -> Int -> Int -> Int -> ByteArray -> List (SElem) -> Int -> Int -> Int -> Option (Bool)
 | 0,_,_,_,_,_,_,_,_,_,_,_,_,_,_,_,_,_,_,_ => none
 | k + 1,x3,x5,x7,x9,x115,x203000,x203001,x203002,x206000,x206001,x206002,x206003,x206004,x206005,x206006,x206007,x206008,x206009,x206010 => if x115 = true then (some false) else (w4_OpOwn.l1 k x3 x5 x7 (wrap64 (x9 + 1)) x203000 x203001 x203002 x206000 x206001 x206002 x206003 x206004 x206005 x206006 x206007 x206008 x206009 x206010)
def w4_OpOwn.l2 : Nat -> Int -> List (SElem) -> Int -> List (SOp) -> List (SElem) -> List Int -> Int -> Int -> Int -> Int -> Int -> Int -> ByteArray -> List (SElem) -> Int -> Int -> Int -> Option (Bool)
 | 0,_,_,_,_,_,_,_,_,_,_,_,_,_,_,_,_,_ => none
 | k + 1,x3,x7,x12,x203000,x203001,x203002,x206000,x206001,x206002,x206003,x206004,x206005,x206006,x206007,x206008,x206009,x206010 => if x12 < (x7.length : Int) then (if 0 <= x12 then (if ((Qaa x7 x12).f0) = x206000 then (if ((Qaa x7 x12).f1) = x206001 then (w4_OpOwn.j6 k x3 x7 x12 true x203000 x203001 x203002 x206000 x206001 x206002 x206003 x206004 x206005 x206006 x206007 x206008 x206009 x206010) else (if x12 > 0 then (if 0 <= (wrap64 (x12 - 1)) then (if (wrap64 (x12 - 1)) < (x7.length : Int) then ((op_Less.f k ((Qaa x7 (wrap64 (x12 - 1))).f0) ((Qaa x7 (wrap64 (x12 - 1))).f1) ((Qaa x7 (wrap64 (x12 - 1))).f2) ((Qaa x7 x12).f0) ((Qaa x7 x12).f1) ((Qaa x7 x12).f2)).bind fun t232 => (w4_OpOwn.j6 k x3 x7 x12 (!t232) x203000 x203001 x203002 x206000 x206001 x206002 x206003 x206004 x206005 x206006 x206007 x206008 x206009 x206010)) else (none)) else (none)) else (w4_OpOwn.j6 k x3 x7 x12 false x203000 x203001 x203002 x206000 x206001 x206002 x206003 x206004 x206005 x206006 x206007 x206008 x206009 x206010))) else (if x12 > 0 then (if 0 <= (wrap64 (x12 - 1)) then (if (wrap64 (x12 - 1)) < (x7.length : Int) then ((op_Less.f k ((Qaa x7 (wrap64 (x12 - 1))).f0) ((Qaa x7 (wrap64 (x12 - 1))).f1) ((Qaa x7 (wrap64 (x12 - 1))).f2) ((Qaa x7 x12).f0) ((Qaa x7 x12).f1) ((Qaa x7 x12).f2)).bind fun t235 => (w4_OpOwn.j6 k x3 x7 x12 (!t235) x203000 x203001 x203002 x206000 x206001 x206002 x206003 x206004 x206005 x206006 x206007 x206008 x206009 x206010)) else (none)) else (none)) else (w4_OpOwn.j6 k x3 x7 x12 false x203000 x203001 x203002 x206000 x206001 x206002 x206003 x206004 x206005 x206006 x206007 x206008 x206009 x206010))) else (none)) else (w4_OpOwn.l0 k (wrap64 (x3 + 1)) x203000 x203001 x203002)
def w4_OpOwn.j6 : Nat -> Int -> List (SElem) -> Int -> Bool -> List (SOp) -> List (SElem) -> List Int -> Int -> Int -> Int -> Int -> Int -> Int -> ByteArray -> List (SElem) -> Int -> Int -> Int -> Option (Bool)
 | 0,_,_,_,_,_,_,_,_,_,_,_,_,_,_,_,_,_,_ => none
 | k + 1,x3,x7,x12,x156,x203000,x203001,x203002,x206000,x206001,x206002,x206003,x206004,x206005,x206006,x206007,x206008,x206009,x206010 => if x156 = true then (some false) else (w4_OpOwn.l2 k x3 x7 (wrap64 (x12 + 1)) x203000 x203001 x203002 x206000 x206001 x206002 x206003 x206004 x206005 x206006 x206007 x206008 x206009 x206010)
def w4_OpOwn.l3 : Nat -> Int -> List (SOp) -> List (SElem) -> List Int -> Option (Bool)
 | 0,_,_,_,_ => none
 | k + 1,x13,x203000,x203001,x203002 => if x13 < (x203001.length : Int) then (w4_OpOwn.j8 k x13 (decide (x13 < 10)) x203000 x203001 x203002) else (w4_OpOwn.j8 k x13 false x203000 x203001 x203002)
def w4_OpOwn.j8 : Nat -> Int -> Bool -> List (SOp) -> List (SElem) -> List Int -> Option (Bool)
 | 0,_,_,_,_,_ => none
 | k + 1,x13,x165,x203000,x203001,x203002 => if x165 = true then (w4_OpOwn.l4 k x13 0 x203000 x203001 x203002) else ((w4_wakes.f k).bind fun t236 => (some t236))
def w4_OpOwn.l4 : Nat -> Int -> Int -> List (SOp) -> List (SElem) -> List Int -> Option (Bool)
 | 0,_,_,_,_,_ => none
 | k + 1,x13,x14,x203000,x203001,x203002 => if x14 < (x203001.length : Int) then (w4_OpOwn.j10 k x13 x14 (decide (x14 < 10)) x203000 x203001 x203002) else (w4_OpOwn.j10 k x13 x14 false x203000 x203001 x203002)
def w4_OpOwn.j10 : Nat -> Int -> Int -> Bool -> List (SOp) -> List (SElem) -> List Int -> Option (Bool)
 | 0,_,_,_,_,_,_ => none
 | k + 1,x13,x14,x176,x203000,x203001,x203002 => if x176 = true then (if 0 <= x13 then (if x13 < (x203001.length : Int) then (if 0 <= x14 then (if x14 < (x203001.length : Int) then ((op_Less.f k ((Qaa x203001 x13).f0) ((Qaa x203001 x13).f1) ((Qaa x203001 x13).f2) ((Qaa x203001 x14).f0) ((Qaa x203001 x14).f1) ((Qaa x203001 x14).f2)).bind fun t239 => ((op_Less.f k ((Qaa x203001 x14).f0) ((Qaa x203001 x14).f1) ((Qaa x203001 x14).f2) ((Qaa x203001 x13).f0) ((Qaa x203001 x13).f1) ((Qaa x203001 x13).f2)).bind fun t242 => (if t239 = true then (if t242 = true then (w4_OpOwn.j11 k x13 x14 true x203000 x203001 x203002) else (w4_OpOwn.j11 k x13 x14 (false != (((Qaa x203001 x13).f0) == ((Qaa x203001 x14).f0) && (((Qaa x203001 x13).f1) == ((Qaa x203001 x14).f1) && (((Qaa x203001 x13).f2) == ((Qaa x203001 x14).f2))))) x203000 x203001 x203002)) else (w4_OpOwn.j11 k x13 x14 ((!t242) != (((Qaa x203001 x13).f0) == ((Qaa x203001 x14).f0) && (((Qaa x203001 x13).f1) == ((Qaa x203001 x14).f1) && (((Qaa x203001 x13).f2) == ((Qaa x203001 x14).f2))))) x203000 x203001 x203002)))) else (none)) else (none)) else (none)) else (none)) else (w4_OpOwn.l3 k (wrap64 (x13 + 1)) x203000 x203001 x203002)
def w4_OpOwn.j11 : Nat -> Int -> Int -> Bool -> List (SOp) -> List (SElem) -> List Int -> Option (Bool)
 | 0,_,_,_,_,_,_ => none
 | k + 1,x13,x14,x224,x203000,x203001,x203002 => if x224 = true then (some false) else (w4_OpOwn.l4 k x13 (wrap64 (x14 + 1)) x203000 x203001 x203002)
end
def w4_OpOwn.f (k : Nat) (l0_0 : List (SOp)) (l0_1 : List (SElem)) (l0_2 : List Int) : Option (Bool):=(w4_Heavy.f k l0_0 l0_1 l0_2).bind fun t203 => (if t203 = true then (some true) else (w4_OpOwn.l0 k 0 l0_0 l0_1 l0_2))
def w4_OpOwn.T16 : Bool × List (List Nat × List Nat):=(true,[([],[]),([0],[0]),([1],[1]),([2,1],[2]),([3],[3]),([3],[3]),([3],[3]),([5,6,3],[3,5,6]),([7,3],[3,7]),([4,8,3],[3,4,8]),([3,9],[3,9]),([10,3],[10]),([11],[11]),([12,11],[11,12]),([11],[11]),([14,11],[11,14]),([13,15,11],[11,13,15]),([11,16],[11,16]),([17,11],[17]),([18],[18]),([19,18],[18,19]),([18],[18]),([21,18],[18,21]),([20,22,18],[18,20,22]),([18,23],[18,23]),([24,18],[24]),([25],[25]),([26,25],[25,26]),([27,25,25],[25,27]),([28],[28]),([28],[28]),([30,28],[28,30]),([29,31,28],[28,29,31]),([32,28],[28,32]),([28],[28]),([28],[28]),([34,35,28],[28,34,35]),([36,28],[28,36]),([33,37,28,28],[28,33,37]),([38,28],[28,38]),([28,39,25],[25,28,39]),([25,40],[25,40])])
def w4_OpOwn.B16 : List Nat:=[0,1,3,7,15,15,15,111,239,511,1023,2047,4095,8191,4095,20479,65535,131071,262143,524287,1048575,524287,2621439,8388607,16777215,33554431,67108863,134217727,268435455,536870911,536870911,1610612735,4294967295,8589934591,536870911,536870911,52076478463,120795955199,274877906943,549755813887,1099511627775,2199023255551]
theorem w4_OpOwn.tab16 : rtab .any (opsOf Try.f5 16) = w4_OpOwn.T16:=by kernel_rfl
theorem w4_OpOwn.bits16 : Qaw w4_OpOwn.T16.2 w4_OpOwn.B16 = true:=by kernel_rfl
def w4_OpOwn.T21 : Bool × List (List Nat × List Nat):=(true,[([],[]),([],[]),([0,1],[0,1]),([2],[2]),([3],[3]),([],[]),([5],[5]),([4,6],[4,6]),([7],[7]),([8],[8]),([8],[8]),([9,10,8],[8,9,10]),([11,8],[8,11]),([12,8],[8,12]),([8],[8]),([14,8],[8,14]),([13,15,8],[8,13,15]),([8,16],[8,16]),([17,8],[17]),([18],[18]),([19,18],[18,19]),([20,18,18],[18,20]),([21],[21]),([21],[21]),([23,21],[21,23]),([22,24,21],[21,22,24]),([25,21],[21,25]),([21],[21]),([21],[21]),([27,28,21],[21,27,28]),([29,21],[21,29]),([26,30,21,21],[21,26,30]),([31,21],[21,31]),([21,32,18],[18,21,32]),([18,33],[18,33])])
def w4_OpOwn.B21 : List Nat:=[0,0,3,7,15,0,32,127,255,511,511,2047,4095,8191,511,16895,65535,131071,262143,524287,1048575,2097151,4194303,4194303,12582911,33554431,67108863,4194303,4194303,406847487,943718399,2147483647,4294967295,8589934591,17179869183]
theorem w4_OpOwn.tab21 : rtab .any (opsOf Try.f5 21) = w4_OpOwn.T21:=by kernel_rfl
theorem w4_OpOwn.bits21 : Qaw w4_OpOwn.T21.2 w4_OpOwn.B21 = true:=by kernel_rfl
def w4_OpOwn.T29 : Bool × List (List Nat × List Nat):=(true,[([],[]),([0],[0]),([],[]),([1,2],[1,2]),([3],[3]),([],[]),([5],[5]),([],[]),([6,7],[6,7]),([8],[8]),([4,9],[4,9]),([],[]),([11],[11]),([],[]),([12,13],[12,13]),([14],[14]),([],[]),([16],[16]),([],[]),([17,18],[17,18]),([19],[19]),([15,20,10],[15,20]),([10,21,0,1,2,3,4,5,6,7,8,9,10],[10]),([21,22,0,1,2,3,4,5,6,7,8,9,10,11,12,13,14,15,16,17,18,19,20,21,22],[21])])
def w4_OpOwn.B29 : List Nat:=[0,1,0,7,15,0,32,0,224,480,1023,0,2048,0,14336,30720,0,65536,0,458752,983040,2097151,4194303,8388607]
theorem w4_OpOwn.tab29 : rtab .any (opsOf Try.f5 29) = w4_OpOwn.T29:=by kernel_rfl
theorem w4_OpOwn.bits29 : Qaw w4_OpOwn.T29.2 w4_OpOwn.B29 = true:=by kernel_rfl
def w4_OpOwn.T30 : Bool × List (List Nat × List Nat):=(true,[([],[]),([0],[0]),([1],[1]),([1,2],[1,2]),([3,1],[3]),([4],[4]),([5,4],[4,5]),([6,4,4],[4,6]),([7],[7]),([8,7],[7,8]),([7,9,4],[4,7,9]),([4],[4]),([11,4],[4,11]),([4],[4]),([12,13,4],[4,12,13]),([14,4],[4,14]),([4],[4]),([16,4],[4,16]),([4],[4]),([17,18,4],[4,17,18]),([19,4],[4,19]),([15,20,4],[4,15,20]),([10,21,4],[4,10,21]),([4,22],[4,22])])
def w4_OpOwn.B30 : List Nat:=[0,1,3,7,15,31,63,127,255,511,1023,31,2079,31,14367,30751,31,65567,31,458783,983071,2095135,4194303,8388607]
theorem w4_OpOwn.tab30 : rtab .any (opsOf Try.f5 30) = w4_OpOwn.T30:=by kernel_rfl
theorem w4_OpOwn.bits30 : Qaw w4_OpOwn.T30.2 w4_OpOwn.B30 = true:=by kernel_rfl
theorem w4_OpOwn.calls (k : Nat) (A0_0 : Option Addr) (c0_0 : Nat) (l0_0 : List (SOp)) (A0_1 : Option Addr) (c0_1 : Nat) (l0_1 : List (SElem)) (A0_2 : Option Addr) (c0_2 : Nat) (l0_2 : List Int) (r : Bool) (w : World) (hr0_0 : Kd.C kOp w A0_0 l0_0.length l0_0) (hc0_0 : l0_0.length <= c0_0) (hr0_1 : Kd.C Qao w A0_1 l0_1.length l0_1) (hc0_1 : l0_1.length <= c0_1) (hr0_2 : Kd.C (Kd.int .i64) w A0_2 l0_2.length l0_2) (hc0_2 : l0_2.length <= c0_2) (h : w4_OpOwn.f k l0_0 l0_1 l0_2 = some r) :
  Calls Try.prog 5 #[.agg #[.slice A0_0 l0_0.length c0_0, .slice A0_1 l0_1.length c0_1, .slice A0_2 l0_2.length c0_2]] w fun e w' => e = .returned (.bool r) /\ Below w.heap.size w w':=by
 have hu51:=Try.underlying51
 have hu38:=Try.underlying38
 have hu36:=Try.underlying36
 have HR0_0:=Zz.k hr0_0
 have HC0_0:=Zz.k hc0_0
 clear hr0_0 hc0_0
 have HR0_1:=Zz.k hr0_1
 have HC0_1:=Zz.k hc0_1
 clear hr0_1 hc0_1
 have HR0_2:=Zz.k hr0_2
 have HC0_2:=Zz.k hc0_2
 clear hr0_2 hc0_2
 have HB:=Zz.k (Below.refl w.heap.size w)
 unfold w4_OpOwn.f at h; have H:=h
 clear h
 obtain ⟨t203,A2,H⟩:=bE H
 by_cases c3 : t203 = true
 ·show (let G_ : Prop:=_; G_)
  intro G_
  exact (let_tmp i_ : Nonempty G_:=(((⟨by
  subst G_
  subst c3
  rw [if_pos rfl] at H
  obtain rfl:=Zo H
  go_enter Try.func5,Try.ntmps5
  go_wp2_with (first | ((with_reducible refine Qad (N:=1) rfl ?_); (try (refine Qai (by rfl) ?_; dsimp only)); refine bx 1 #[.slice A0_0 l0_0.length c0_0, .slice A0_1 l0_1.length c0_1, .slice A0_2 l0_2.length c0_2] 51 (h := ?_); intro gb202 hg w4 hbox hb; have BK202:=Zz.k (hbox); have GW202:=bz HB hg; have GE202:=bz HB hg; replace HB:=bs HB hb; clear hb hbox hg; obtain ⟨_,_,_,_,_,_⟩:=kc3 BK202) | ((with_reducible refine Qac (f:=18) rfl ?_); refine gl (some 18) Try.func18 #[.agg #[.slice A0_0 l0_0.length c0_0, .slice A0_1 l0_1.length c0_1, .slice A0_2 l0_2.length c0_2]] (h := ?_); (with_reducible refine (w4_Heavy.calls k _ _ l0_0 _ _ l0_1 _ _ l0_2 true _ ?side1 ?side2 ?side3 ?side4 ?side5 ?side6 A2.out).mono ?_); (case side1 => exact cb HR0_0 HB); (case side2 => exact HC0_0.out); (case side3 => exact cb HR0_1 HB); (case side4 => exact HC0_1.out); (case side5 => exact cb HR0_2 HB); (case side6 => exact HC0_2.out); rintro e w6 ⟨rfl,hb⟩; refine ⟨_,rfl, ?_⟩; replace BK202:=bl BK202 hb; replace HB:=bs HB hb; clear hb))
  go_ret
  exact ⟨re,bw HB⟩⟩ : Nonempty G_)) :); w4_OpOwn.bxo (G:=G_) (inferInstanceAs (Nonempty G_)))
 replace c3:=Zf c3
 subst c3
 rw [if_neg nft] at H
 have H':=Zz.k H
 clear H
 go_enter Try.func5,Try.ntmps5
 go_wp2_with (first | ((with_reducible refine Qad (N:=1) rfl ?_); (try (refine Qai (by rfl) ?_; dsimp only)); refine bx 1 #[.slice A0_0 l0_0.length c0_0, .slice A0_1 l0_1.length c0_1, .slice A0_2 l0_2.length c0_2] 51 (h := ?_); intro gb202 hg w7 hbox hb; have BK202:=Zz.k (hbox); have GW202:=bz HB hg; have GE202:=bz HB hg; replace HB:=bs HB hb; clear hb hbox hg; obtain ⟨_,_,_,_,_,_⟩:=kc3 BK202) | ((with_reducible refine Qac (f:=18) rfl ?_); refine gl (some 18) Try.func18 #[.agg #[.slice A0_0 l0_0.length c0_0, .slice A0_1 l0_1.length c0_1, .slice A0_2 l0_2.length c0_2]] (h := ?_); (with_reducible refine (w4_Heavy.calls k _ _ l0_0 _ _ l0_1 _ _ l0_2 false _ ?side1 ?side2 ?side3 ?side4 ?side5 ?side6 A2.out).mono ?_); (case side1 => exact cb HR0_0 HB); (case side2 => exact HC0_0.out); (case side3 => exact cb HR0_1 HB); (case side4 => exact HC0_1.out); (case side5 => exact cb HR0_2 HB); (case side6 => exact HC0_2.out); rintro e w9 ⟨rfl,hb⟩; refine ⟨_,rfl, ?_⟩; replace BK202:=bl BK202 hb; replace HB:=bs HB hb; clear hb))
 go_loopg [3] k (fun kq v3 w' => ∃ (x3_1 : Int),v3 = .int .i64 x3_1 /\ Zz (w4_OpOwn.l0 kq x3_1 l0_0 l0_1 l0_2 = some r) /\ Zz (kq <= k) /\ Zz (w'.heap[gb202]? = some (.cells #[(.slice A0_0 l0_0.length c0_0),(.slice A0_1 l0_1.length c0_1),(.slice A0_2 l0_2.length c0_2)] 51 (0,0))) /\ Zz (Below w.heap.size w w'))
 case atStart => exact ⟨(0),rf,H',⟨Nat.le_refl _⟩,⟨kk BK202⟩,⟨bw HB⟩⟩
 case round =>
  show (let G_ : Prop:=_; G_)
  intro G_
  exact (let_tmp i_ : Nonempty G_:=(((⟨by
  subst G_
  clear H'
  try clear c3
  obtain ⟨x3_1,rfl,HA,HK1,BK202,HB⟩:=hrel
  cases gk with
  | zero => exact absurd HA.out (by simp [w4_OpOwn.l0])
  | succ k1 =>
   have H:=HA.out
   clear HA
   simp only [w4_OpOwn.l0] at H
   have HC10:=Zz.k H
   clear H
   go_upto_region 4 with (fail)
   go_cut [27] (fun v27 wc => ∃ (kq : Nat) (x27_9 : Bool),v27 = .bool x27_9 /\ Zz (w4_OpOwn.j1 kq x3_1 x27_9 l0_0 l0_1 l0_2 = some r) /\ Zz (kq <= k1) /\ Zz (wc.heap[gb202]? = some (.cells #[(.slice A0_0 l0_0.length c0_0),(.slice A0_1 l0_1.length c0_1),(.slice A0_2 l0_2.length c0_2)] 51 (0,0))) /\ Zz (Below w.heap.size w wc))
   case first =>
    have H:=HC10.out
    clear HC10
    by_cases c11 : x3_1 < (l0_0.length : Int)
    ·show (let G_ : Prop:=_; G_)
     intro G_
     exact (let_tmp i_ : Nonempty G_:=(((⟨by
     subst G_
     rw [if_pos c11] at H
     have c11b0:=Zd c11
     clear c11
     (first | rw [c11b0] | (simp only [i64_w,i32_w]; rw [c11b0]) | skip)
     have H':=Zz.k H
     clear H
     obtain ⟨_,_,_,_,_,_⟩:=kc3 BK202
     go_wp2
     go_meet
     case rel => exact ⟨_,(decide (x3_1 < 10)),rf,H',⟨by have:=HK1.out; first | omega | exact Nat.le_refl _⟩,⟨kk BK202⟩,⟨bw HB⟩⟩⟩ : Nonempty G_)) :); w4_OpOwn.bxo (G:=G_) (inferInstanceAs (Nonempty G_)))
    rw [if_neg c11] at H
    have c11b0:=Ze c11
    clear c11
    (first | rw [c11b0] | (simp only [i64_w,i32_w]; rw [c11b0]) | skip)
    have H':=Zz.k H
    clear H
    obtain ⟨_,_,_,_,_,_⟩:=kc3 BK202
    go_wp2
    go_meet
    case rel => exact ⟨_,(false),rf,H',⟨by have:=HK1.out; first | omega | exact Nat.le_refl _⟩,⟨kk BK202⟩,⟨bw HB⟩⟩
   case rest =>
    show (let G_ : Prop:=_; G_)
    intro G_
    exact (let_tmp i_ : Nonempty G_:=(((⟨by
    subst G_
    clear HC10
    obtain ⟨kq,x27_9,rfl,HA,HJ9,BK202,HB⟩:=hcut
    cases kq with
    | zero => exact absurd HA.out (by simp [w4_OpOwn.j1])
    | succ kj9 =>
     have H:=HA.out
     clear HA
     simp only [w4_OpOwn.j1] at H
     by_cases c14 : x27_9 = true; rotate_left
     ·replace c14:=Zf c14
      subst c14
      rw [if_neg nft] at H
      have H':=Zz.k H
      clear H
      go_wp2
      go_loopg [13] kj9 (fun kq v13 w' => ∃ (x13_3 : Int),v13 = .int .i64 x13_3 /\ Zz (w4_OpOwn.l3 kq x13_3 l0_0 l0_1 l0_2 = some r) /\ Zz (kq <= kj9) /\ Zz (w'.heap[gb202]? = some (.cells #[(.slice A0_0 l0_0.length c0_0),(.slice A0_1 l0_1.length c0_1),(.slice A0_2 l0_2.length c0_2)] 51 (0,0))) /\ Zz (Below w.heap.size w w'))
      case atStart => exact ⟨(0),rf,H',⟨Nat.le_refl _⟩,⟨kk BK202⟩,⟨bw HB⟩⟩
      case round =>
       show (let G_ : Prop:=_; G_)
       intro G_
       exact (let_tmp i_ : Nonempty G_:=(((⟨by
       subst G_
       clear H'
       try clear c14
       obtain ⟨x13_3,rfl,HA,HK3,BK202,HB⟩:=hrel
       cases gk with
       | zero => exact absurd HA.out (by simp [w4_OpOwn.l3])
       | succ k3 =>
        have H:=HA.out
        clear HA
        simp only [w4_OpOwn.l3] at H
        have HC105:=Zz.k H
        clear H
        go_upto_region 24 with (fail)
        go_cut [165] (fun v165 wc => ∃ (kq : Nat) (x165_104 : Bool),v165 = .bool x165_104 /\ Zz (w4_OpOwn.j8 kq x13_3 x165_104 l0_0 l0_1 l0_2 = some r) /\ Zz (kq <= k3) /\ Zz (wc.heap[gb202]? = some (.cells #[(.slice A0_0 l0_0.length c0_0),(.slice A0_1 l0_1.length c0_1),(.slice A0_2 l0_2.length c0_2)] 51 (0,0))) /\ Zz (Below w.heap.size w wc))
        case first =>
         have H:=HC105.out
         clear HC105
         by_cases c106 : x13_3 < (l0_1.length : Int)
         ·show (let G_ : Prop:=_; G_)
          intro G_
          exact (let_tmp i_ : Nonempty G_:=(((⟨by
          subst G_
          rw [if_pos c106] at H
          have c106b0:=Zd c106
          clear c106
          (first | rw [c106b0] | (simp only [i64_w,i32_w]; rw [c106b0]) | skip)
          have H':=Zz.k H
          clear H
          obtain ⟨_,_,_,_,_,_⟩:=kc3 BK202
          go_wp2
          go_meet
          case rel => exact ⟨_,(decide (x13_3 < 10)),rf,H',⟨by have:=HK1.out; have:=HJ9.out; have:=HK3.out; first | omega | exact Nat.le_refl _⟩,⟨kk BK202⟩,⟨bw HB⟩⟩⟩ : Nonempty G_)) :); w4_OpOwn.bxo (G:=G_) (inferInstanceAs (Nonempty G_)))
         rw [if_neg c106] at H
         have c106b0:=Ze c106
         clear c106
         (first | rw [c106b0] | (simp only [i64_w,i32_w]; rw [c106b0]) | skip)
         have H':=Zz.k H
         clear H
         obtain ⟨_,_,_,_,_,_⟩:=kc3 BK202
         go_wp2
         go_meet
         case rel => exact ⟨_,(false),rf,H',⟨by have:=HK1.out; have:=HJ9.out; have:=HK3.out; first | omega | exact Nat.le_refl _⟩,⟨kk BK202⟩,⟨bw HB⟩⟩
        case rest =>
         show (let G_ : Prop:=_; G_)
         intro G_
         exact (let_tmp i_ : Nonempty G_:=(((⟨by
         subst G_
         clear HC105
         obtain ⟨kq,x165_104,rfl,HA,HJ104,BK202,HB⟩:=hcut
         cases kq with
         | zero => exact absurd HA.out (by simp [w4_OpOwn.j8])
         | succ kj104 =>
          have H:=HA.out
          clear HA
          simp only [w4_OpOwn.j8] at H
          by_cases c109 : x165_104 = true; rotate_left
          ·replace c109:=Zf c109
           subst c109
           rw [if_neg nft] at H
           obtain ⟨t236,A131,H⟩:=bE H
           obtain rfl:=Zo H
           go_wp2_with (first | ((with_reducible refine Qac (f:=25) rfl ?_); refine gl (some 225) Try.func25 #[] (h := ?_); (with_reducible refine (w4_wakes.calls kj104  t236 _ A131.out).mono ?_); rintro e w132 ⟨rfl,hb⟩; refine ⟨_,rfl, ?_⟩; replace BK202:=bl BK202 hb; replace HB:=bs HB hb; clear hb))
           go_ret
           exact ⟨re,bw HB⟩
          show (let G_ : Prop:=_; G_)
          intro G_
          exact (let_tmp i_ : Nonempty G_:=(((⟨by
          subst G_
          subst c109
          rw [if_pos rfl] at H
          have H':=Zz.k H
          clear H
          go_wp2
          go_loopg [14] kj104 (fun kq v14 w' => ∃ (x14_5 : Int),v14 = .int .i64 x14_5 /\ Zz (w4_OpOwn.l4 kq x13_3 x14_5 l0_0 l0_1 l0_2 = some r) /\ Zz (kq <= kj104) /\ Zz (w'.heap[gb202]? = some (.cells #[(.slice A0_0 l0_0.length c0_0),(.slice A0_1 l0_1.length c0_1),(.slice A0_2 l0_2.length c0_2)] 51 (0,0))) /\ Zz (Below w.heap.size w w'))
          case atStart => exact ⟨(0),rf,H',⟨Nat.le_refl _⟩,⟨kk BK202⟩,⟨bw HB⟩⟩
          case round =>
           show (let G_ : Prop:=_; G_)
           intro G_
           exact (let_tmp i_ : Nonempty G_:=(((⟨by
           subst G_
           clear H'
           try clear c109
           obtain ⟨x14_5,rfl,HA,HK5,BK202,HB⟩:=hrel
           cases gk with
           | zero => exact absurd HA.out (by simp [w4_OpOwn.l4])
           | succ k5 =>
            have H:=HA.out
            clear HA
            simp only [w4_OpOwn.l4] at H
            have HC110:=Zz.k H
            clear H
            go_upto_region 27 with (fail)
            go_cut [176] (fun v176 wc => ∃ (kq : Nat) (x176_109 : Bool),v176 = .bool x176_109 /\ Zz (w4_OpOwn.j10 kq x13_3 x14_5 x176_109 l0_0 l0_1 l0_2 = some r) /\ Zz (kq <= k5) /\ Zz (wc.heap[gb202]? = some (.cells #[(.slice A0_0 l0_0.length c0_0),(.slice A0_1 l0_1.length c0_1),(.slice A0_2 l0_2.length c0_2)] 51 (0,0))) /\ Zz (Below w.heap.size w wc))
            case first =>
             have H:=HC110.out
             clear HC110
             by_cases c111 : x14_5 < (l0_1.length : Int)
             ·show (let G_ : Prop:=_; G_)
              intro G_
              exact (let_tmp i_ : Nonempty G_:=(((⟨by
              subst G_
              rw [if_pos c111] at H
              have c111b0:=Zd c111
              clear c111
              (first | rw [c111b0] | (simp only [i64_w,i32_w]; rw [c111b0]) | skip)
              have H':=Zz.k H
              clear H
              obtain ⟨_,_,_,_,_,_⟩:=kc3 BK202
              go_wp2
              go_meet
              case rel => exact ⟨_,(decide (x14_5 < 10)),rf,H',⟨by have:=HK1.out; have:=HJ9.out; have:=HK3.out; have:=HJ104.out; have:=HK5.out; first | omega | exact Nat.le_refl _⟩,⟨kk BK202⟩,⟨bw HB⟩⟩⟩ : Nonempty G_)) :); w4_OpOwn.bxo (G:=G_) (inferInstanceAs (Nonempty G_)))
             rw [if_neg c111] at H
             have c111b0:=Ze c111
             clear c111
             (first | rw [c111b0] | (simp only [i64_w,i32_w]; rw [c111b0]) | skip)
             have H':=Zz.k H
             clear H
             obtain ⟨_,_,_,_,_,_⟩:=kc3 BK202
             go_wp2
             go_meet
             case rel => exact ⟨_,(false),rf,H',⟨by have:=HK1.out; have:=HJ9.out; have:=HK3.out; have:=HJ104.out; have:=HK5.out; first | omega | exact Nat.le_refl _⟩,⟨kk BK202⟩,⟨bw HB⟩⟩
            case rest =>
             show (let G_ : Prop:=_; G_)
             intro G_
             exact (let_tmp i_ : Nonempty G_:=(((⟨by
             subst G_
             clear HC110
             obtain ⟨kq,x176_109,rfl,HA,HJ109,BK202,HB⟩:=hcut
             cases kq with
             | zero => exact absurd HA.out (by simp [w4_OpOwn.j10])
             | succ kj109 =>
              have H:=HA.out
              clear HA
              simp only [w4_OpOwn.j10] at H
              by_cases c114 : x176_109 = true; rotate_left
              ·replace c114:=Zf c114
               subst c114
               rw [if_neg nft] at H
               have H':=Zz.k H
               clear H
               go_wp2
               go_roundg kj109
               case measure => have:=HK1.out; have:=HJ9.out; have:=HK3.out; have:=HJ104.out; have:=HK5.out; have:=HJ109.out; omega
               case rel => exact ⟨(wrap64 (x13_3 + 1)),rf,H',⟨by have:=HK1.out; have:=HJ9.out; have:=HK3.out; have:=HJ104.out; have:=HK5.out; have:=HJ109.out; omega⟩,⟨kk BK202⟩,⟨bw HB⟩⟩
              show (let G_ : Prop:=_; G_)
              intro G_
              exact (let_tmp i_ : Nonempty G_:=(((⟨by
              subst G_
              subst c114
              rw [if_pos rfl] at H
              by_cases c115 : 0 <= x13_3; rotate_left
              ·rw [if_neg c115] at H
               exact absurd H (by simp)
              show (let G_ : Prop:=_; G_)
              intro G_
              exact (let_tmp i_ : Nonempty G_:=(((⟨by
              subst G_
              rw [if_pos c115] at H
              have c115b0:=Zd c115
              clear c115
              by_cases c116 : x13_3 < (l0_1.length : Int); rotate_left
              ·rw [if_neg c116] at H
               exact absurd H (by simp)
              show (let G_ : Prop:=_; G_)
              intro G_
              exact (let_tmp i_ : Nonempty G_:=(((⟨by
              subst G_
              rw [if_pos c116] at H
              have c116b0:=Zd c116
              clear c116
              by_cases c117 : 0 <= x14_5; rotate_left
              ·rw [if_neg c117] at H
               exact absurd H (by simp)
              show (let G_ : Prop:=_; G_)
              intro G_
              exact (let_tmp i_ : Nonempty G_:=(((⟨by
              subst G_
              rw [if_pos c117] at H
              have c117b0:=Zd c117
              clear c117
              by_cases c118 : x14_5 < (l0_1.length : Int); rotate_left
              ·rw [if_neg c118] at H
               exact absurd H (by simp)
              show (let G_ : Prop:=_; G_)
              intro G_
              exact (let_tmp i_ : Nonempty G_:=(((⟨by
              subst G_
              rw [if_pos c118] at H
              have c118b0:=Zd c118
              clear c118
              obtain ⟨t239,A119,H⟩:=bE H
              obtain ⟨t242,A120,H⟩:=bE H
              have HC121:=Zz.k H
              clear H
              try go_wp2
              have n0_:=Zz.k (Qag BK202.out)
              have n1_:=Zz.k (Qah HB.out)
              clear BK202
              clear HB
              have BK202:=n0_
              have HB:=n1_
              clear n0_ n1_
              have p237 : 0 <= (x13_3 : Int):=od
              have q237 : x13_3 < (l0_1.length : Int):=od
              obtain ⟨ad237,e237,hx237_0,hx237_1,hx237_2⟩:=Qap HR0_1.out x13_3 p237 q237
              have hw237_2:=hx237_2
              have hw237_1:=hx237_1
              have hw237_0:=hx237_0
              cases e237
              replace hx237_0:=cl HB hx237_0
              replace hx237_1:=cl HB hx237_1
              replace hx237_2:=cl HB hx237_2
              replace p237:=eq_true p237
              replace q237:=eq_true q237
              have p238 : 0 <= (x14_5 : Int):=od
              have q238 : x14_5 < (l0_1.length : Int):=od
              obtain ⟨ad238,e238,hx238_0,hx238_1,hx238_2⟩:=Qap HR0_1.out x14_5 p238 q238
              have hw238_2:=hx238_2
              have hw238_1:=hx238_1
              have hw238_0:=hx238_0
              obtain rfl : ad237 = ad238:=(by injection e238)
              replace hx238_0:=cl HB hx238_0
              replace hx238_1:=cl HB hx238_1
              replace hx238_2:=cl HB hx238_2
              replace p238:=eq_true p238
              replace q238:=eq_true q238
              refine stP (fun w' => B3 w' gb202 (.slice A0_0 l0_0.length c0_0) (.slice (some ad237) l0_1.length c0_1) (.slice A0_2 l0_2.length c0_2) (w'.cell? (ad237.add ((x13_3).toNat * 3)) = some (.int .i64 ((Qaa l0_1 x13_3).f0)) /\ w'.cell? ⟨(ad237.add ((x13_3).toNat * 3)).block,(ad237.add ((x13_3).toNat * 3)).off + 1,none⟩ = some (.int .i64 ((Qaa l0_1 x13_3).f1)) /\ w'.cell? ⟨(ad237.add ((x13_3).toNat * 3)).block,(ad237.add ((x13_3).toNat * 3)).off + 2,none⟩ = some (.int .i64 ((Qaa l0_1 x13_3).f2)) /\ w'.cell? (ad237.add ((x14_5).toNat * 3)) = some (.int .i64 ((Qaa l0_1 x14_5).f0)) /\ w'.cell? ⟨(ad237.add ((x14_5).toNat * 3)).block,(ad237.add ((x14_5).toNat * 3)).off + 1,none⟩ = some (.int .i64 ((Qaa l0_1 x14_5).f1)) /\ w'.cell? ⟨(ad237.add ((x14_5).toNat * 3)).block,(ad237.add ((x14_5).toNat * 3)).off + 2,none⟩ = some (.int .i64 ((Qaa l0_1 x14_5).f2)))) 24 (b3 BK202 ⟨(cW HB hw237_0),(cW HB hw237_1),(cW HB hw237_2),(cW HB hw238_0),(cW HB hw238_1),(cW HB hw238_2)⟩) (h:=fun hHeld => ?_); refine Qal w4_OpOwn.tab29 w4_OpOwn.bits29 (fun HT_ HW_ => ?_)
              generalize wc.drew = w122 at BK202 HB hx237_0 hx237_1 hx237_2 hx238_0 hx238_1 hx238_2 hx238_0 hx238_1 hx238_2 hx237_0 hx237_1 hx237_2 hHeld ⊢
              refine pu HT_ 0 179 1 (h := ?_)
              refine pu HT_ 2 181 5 (h := ?_)
              refine pu HT_ 5 184 37 (h := ?_)
              refine pu HT_ 7 186 165 (h := ?_)
              refine pu HT_ 11 190 2213 (h := ?_)
              refine pu HT_ 13 192 10405 (h := ?_)
              refine pu HT_ 16 195 75941 (h := ?_)
              refine pu HT_ 18 197 338085 (h := ?_)
              refine tk HT_ HW_ hHeld 1 180 338087 (h := ?_)
              refine pu HT_ 3 182 338095 (h := ?_)
              refine tk HT_ HW_ hHeld 4 183 338111 (h := ?_)
              refine tk HT_ HW_ hHeld 6 185 338175 (h := ?_)
              refine pu HT_ 8 187 338431 (h := ?_)
              refine tk HT_ HW_ hHeld 9 188 338943 (h := ?_)
              refine tk HT_ HW_ hHeld 12 191 343039 (h := ?_)
              refine pu HT_ 14 193 359423 (h := ?_)
              refine tk HT_ HW_ hHeld 15 194 392191 (h := ?_)
              refine tk HT_ HW_ hHeld 17 196 523263 (h := ?_)
              refine pu HT_ 19 198 1047551 (h := ?_)
              refine tk HT_ HW_ hHeld 20 199 2096127 (h := ?_)
              refine on HT_ 10 (some 189) 2097151 (h:=fun K hK => ?_)
              refine gS Try.func24 #[.agg #[.int .i64 ((Qaa l0_1 x13_3).f0), .int .i64 ((Qaa l0_1 x13_3).f1), .int .i64 ((Qaa l0_1 x13_3).f2)], .agg #[.int .i64 ((Qaa l0_1 x14_5).f0), .int .i64 ((Qaa l0_1 x14_5).f1), .int .i64 ((Qaa l0_1 x14_5).f2)]] (h := ?_)
              with_reducible refine (op_Less.calls kj109 ((Qaa l0_1 x13_3).f0) ((Qaa l0_1 x13_3).f1) ((Qaa l0_1 x13_3).f2) ((Qaa l0_1 x14_5).f0) ((Qaa l0_1 x14_5).f1) ((Qaa l0_1 x14_5).f2) t239 _ A119.out).mono ?_
              rintro e w123 ⟨rfl,hb⟩
              refine ⟨_,rfl, ?_⟩
              have n0_:=bl BK202 hb
              have n1_:=bs HB hb
              clear BK202
              clear HB
              have BK202:=n0_
              have HB:=n1_
              clear n0_ n1_
              (try clear hb)
              (try clear hb2)
              (try clear hk)
              (try clear hi)
              refine hK.out _ _ (b3 BK202 ⟨(cW HB hw237_0),(cW HB hw237_1),(cW HB hw237_2),(cW HB hw238_0),(cW HB hw238_1),(cW HB hw238_2)⟩) (fun hHeld => ?_)
              clear hK K
              refine nn 189 (h := ?_)
              refine on HT_ 21 (some 200) 4194303 (h:=fun K hK => ?_)
              refine gS Try.func24 #[.agg #[.int .i64 ((Qaa l0_1 x14_5).f0), .int .i64 ((Qaa l0_1 x14_5).f1), .int .i64 ((Qaa l0_1 x14_5).f2)], .agg #[.int .i64 ((Qaa l0_1 x13_3).f0), .int .i64 ((Qaa l0_1 x13_3).f1), .int .i64 ((Qaa l0_1 x13_3).f2)]] (h := ?_)
              with_reducible refine (op_Less.calls kj109 ((Qaa l0_1 x14_5).f0) ((Qaa l0_1 x14_5).f1) ((Qaa l0_1 x14_5).f2) ((Qaa l0_1 x13_3).f0) ((Qaa l0_1 x13_3).f1) ((Qaa l0_1 x13_3).f2) t242 _ A120.out).mono ?_
              rintro e w124 ⟨rfl,hb⟩
              refine ⟨_,rfl, ?_⟩
              have n0_:=bl BK202 hb
              have n1_:=bs HB hb
              clear BK202
              clear HB
              have BK202:=n0_
              have HB:=n1_
              clear n0_ n1_
              (try clear hb)
              (try clear hb2)
              (try clear hk)
              (try clear hi)
              refine hK.out _ _ (b3 BK202 ⟨(cW HB hw237_0),(cW HB hw237_1),(cW HB hw237_2),(cW HB hw238_0),(cW HB hw238_1),(cW HB hw238_2)⟩) (fun hHeld => ?_)
              clear hK K
              refine nn 200 (h := ?_)
              refine pu HT_ 22 15 8388607 (h := ?_)
              refine pu HT_ 23 16 16777215 (h := ?_)
              refine dn HT_ (h := ?_)
              go_upto_region 30 with (fail)
              go_cut [224] (fun v224 wc => ∃ (kq : Nat) (x224_120 : Bool),v224 = .bool x224_120 /\ Zz (w4_OpOwn.j11 kq x13_3 x14_5 x224_120 l0_0 l0_1 l0_2 = some r) /\ Zz (kq <= kj109) /\ Zz (wc.heap[gb202]? = some (.cells #[(.slice A0_0 l0_0.length c0_0),(.slice (some ad237) l0_1.length c0_1),(.slice A0_2 l0_2.length c0_2)] 51 (0,0))) /\ Zz (Below w.heap.size w wc))
              case first =>
               have H:=HC121.out
               clear HC121
               by_cases c125 : t239 = true; rotate_left
               ·replace c125:=Zf c125
                subst c125
                rw [if_neg nft] at H
                have H':=Zz.k H
                clear H
                try go_wp2
                have n0_:=Zz.k (Qag BK202.out)
                have n1_:=Zz.k (Qah HB.out)
                clear BK202
                clear HB
                have BK202:=n0_
                have HB:=n1_
                clear n0_ n1_
                have p245 : 0 <= (x13_3 : Int):=od
                have q245 : x13_3 < (l0_1.length : Int):=od
                obtain ⟨ad245,e245,hx245_0,hx245_1,hx245_2⟩:=Qap HR0_1.out x13_3 p245 q245
                have hw245_2:=hx245_2
                have hw245_1:=hx245_1
                have hw245_0:=hx245_0
                obtain rfl : ad237 = ad245:=(by injection e245)
                replace hx245_0:=cl HB hx245_0
                replace hx245_1:=cl HB hx245_1
                replace hx245_2:=cl HB hx245_2
                replace p245:=eq_true p245
                replace q245:=eq_true q245
                have p246 : 0 <= (x14_5 : Int):=od
                have q246 : x14_5 < (l0_1.length : Int):=od
                obtain ⟨ad246,e246,hx246_0,hx246_1,hx246_2⟩:=Qap HR0_1.out x14_5 p246 q246
                have hw246_2:=hx246_2
                have hw246_1:=hx246_1
                have hw246_0:=hx246_0
                obtain rfl : ad237 = ad246:=(by injection e246)
                replace hx246_0:=cl HB hx246_0
                replace hx246_1:=cl HB hx246_1
                replace hx246_2:=cl HB hx246_2
                replace p246:=eq_true p246
                replace q246:=eq_true q246
                refine stP (fun w' => B3 w' gb202 (.slice A0_0 l0_0.length c0_0) (.slice (some ad237) l0_1.length c0_1) (.slice A0_2 l0_2.length c0_2) (w'.cell? (ad237.add ((x13_3).toNat * 3)) = some (.int .i64 ((Qaa l0_1 x13_3).f0)) /\ w'.cell? ⟨(ad237.add ((x13_3).toNat * 3)).block,(ad237.add ((x13_3).toNat * 3)).off + 1,none⟩ = some (.int .i64 ((Qaa l0_1 x13_3).f1)) /\ w'.cell? ⟨(ad237.add ((x13_3).toNat * 3)).block,(ad237.add ((x13_3).toNat * 3)).off + 2,none⟩ = some (.int .i64 ((Qaa l0_1 x13_3).f2)) /\ w'.cell? (ad237.add ((x14_5).toNat * 3)) = some (.int .i64 ((Qaa l0_1 x14_5).f0)) /\ w'.cell? ⟨(ad237.add ((x14_5).toNat * 3)).block,(ad237.add ((x14_5).toNat * 3)).off + 1,none⟩ = some (.int .i64 ((Qaa l0_1 x14_5).f1)) /\ w'.cell? ⟨(ad237.add ((x14_5).toNat * 3)).block,(ad237.add ((x14_5).toNat * 3)).off + 2,none⟩ = some (.int .i64 ((Qaa l0_1 x14_5).f2)))) 24 (b3 BK202 ⟨(cW HB hw245_0),(cW HB hw245_1),(cW HB hw245_2),(cW HB hw246_0),(cW HB hw246_1),(cW HB hw246_2)⟩) (h:=fun hHeld => ?_); refine Qal w4_OpOwn.tab30 w4_OpOwn.bits30 (fun HT_ HW_ => ?_)
                generalize w124.drew = w129 at BK202 HB hx245_0 hx245_1 hx245_2 hx246_0 hx246_1 hx246_2 hHeld ⊢
                refine pu HT_ 0 201 1 (h := ?_)
                refine pu HT_ 1 202 3 (h := ?_)
                refine off HT_ 2 203 7 (h := ?_)
                refine pu HT_ 3 204 15 (h := ?_)
                refine pu HT_ 4 205 31 (h := ?_)
                refine pu HT_ 5 206 63 (h := ?_)
                refine pu HT_ 6 207 127 (h := ?_)
                refine pu HT_ 7 208 255 (h := ?_)
                refine pu HT_ 8 209 511 (h := ?_)
                refine pu HT_ 9 210 1023 (h := ?_)
                refine pu HT_ 10 211 2047 (h := ?_)
                refine pu HT_ 11 212 4095 (h := ?_)
                refine pu HT_ 13 214 12287 (h := ?_)
                refine pu HT_ 16 217 77823 (h := ?_)
                refine pu HT_ 18 219 339967 (h := ?_)
                refine tk HT_ HW_ hHeld 12 213 344063 (h := ?_)
                refine pu HT_ 14 215 360447 (h := ?_)
                refine tk HT_ HW_ hHeld 15 216 393215 (h := ?_)
                refine tk HT_ HW_ hHeld 17 218 524287 (h := ?_)
                refine pu HT_ 19 220 1048575 (h := ?_)
                refine tk HT_ HW_ hHeld 20 221 2097151 (h := ?_)
                refine pu HT_ 21 222 4194303 (h := ?_)
                refine pu HT_ 22 223 8388607 (h := ?_)
                refine pu HT_ 23 224 16777215 (h := ?_)
                refine dn HT_ (h := ?_)
                try go_wp2
                go_meet
                case rel => exact ⟨_,(((!t242) != (((Qaa l0_1 x13_3).f0) == ((Qaa l0_1 x14_5).f0) && (((Qaa l0_1 x13_3).f1) == ((Qaa l0_1 x14_5).f1) && (((Qaa l0_1 x13_3).f2) == ((Qaa l0_1 x14_5).f2)))))),rf,H',⟨by have:=HK1.out; have:=HJ9.out; have:=HK3.out; have:=HJ104.out; have:=HK5.out; have:=HJ109.out; first | omega | exact Nat.le_refl _⟩,⟨kk BK202⟩,⟨bw HB⟩⟩
               show (let G_ : Prop:=_; G_)
               intro G_
               exact (let_tmp i_ : Nonempty G_:=(((⟨by
               subst G_
               subst c125
               rw [if_pos rfl] at H
               by_cases c126 : t242 = true
               ·show (let G_ : Prop:=_; G_)
                intro G_
                exact (let_tmp i_ : Nonempty G_:=(((⟨by
                subst G_
                subst c126
                rw [if_pos rfl] at H
                have H':=Zz.k H
                clear H
                try go_wp2
                have n0_:=Zz.k (Qag BK202.out)
                have n1_:=Zz.k (Qah HB.out)
                clear BK202
                clear HB
                have BK202:=n0_
                have HB:=n1_
                clear n0_ n1_
                refine stP (fun w' => True) 24 trivial (h:=fun hHeld => ?_); refine Qal w4_OpOwn.tab30 w4_OpOwn.bits30 (fun HT_ HW_ => ?_)
                generalize w124.drew = w127 at BK202 HB hHeld ⊢
                refine pu HT_ 0 201 1 (h := ?_)
                refine pu HT_ 1 202 3 (h := ?_)
                refine pu HT_ 2 203 7 (h := ?_)
                refine pu HT_ 3 204 15 (h := ?_)
                refine pu HT_ 4 205 31 (h := ?_)
                refine off HT_ 5 206 63 (h := ?_)
                refine off HT_ 6 207 127 (h := ?_)
                refine off HT_ 7 208 255 (h := ?_)
                refine off HT_ 8 209 511 (h := ?_)
                refine off HT_ 9 210 1023 (h := ?_)
                refine off HT_ 10 211 2047 (h := ?_)
                refine off HT_ 11 212 4095 (h := ?_)
                refine off HT_ 12 213 8191 (h := ?_)
                refine off HT_ 13 214 16383 (h := ?_)
                refine off HT_ 14 215 32767 (h := ?_)
                refine off HT_ 15 216 65535 (h := ?_)
                refine off HT_ 16 217 131071 (h := ?_)
                refine off HT_ 17 218 262143 (h := ?_)
                refine off HT_ 18 219 524287 (h := ?_)
                refine off HT_ 19 220 1048575 (h := ?_)
                refine off HT_ 20 221 2097151 (h := ?_)
                refine off HT_ 21 222 4194303 (h := ?_)
                refine off HT_ 22 223 8388607 (h := ?_)
                refine pu HT_ 23 224 16777215 (h := ?_)
                refine dn HT_ (h := ?_)
                try go_wp2
                go_meet
                case rel => exact ⟨_,(true),rf,H',⟨by have:=HK1.out; have:=HJ9.out; have:=HK3.out; have:=HJ104.out; have:=HK5.out; have:=HJ109.out; first | omega | exact Nat.le_refl _⟩,⟨kk BK202⟩,⟨bw HB⟩⟩⟩ : Nonempty G_)) :); w4_OpOwn.bxo (G:=G_) (inferInstanceAs (Nonempty G_)))
               replace c126:=Zf c126
               subst c126
               rw [if_neg nft] at H
               have H':=Zz.k H
               clear H
               try go_wp2
               have n0_:=Zz.k (Qag BK202.out)
               have n1_:=Zz.k (Qah HB.out)
               clear BK202
               clear HB
               have BK202:=n0_
               have HB:=n1_
               clear n0_ n1_
               have p243 : 0 <= (x13_3 : Int):=od
               have q243 : x13_3 < (l0_1.length : Int):=od
               obtain ⟨ad243,e243,hx243_0,hx243_1,hx243_2⟩:=Qap HR0_1.out x13_3 p243 q243
               have hw243_2:=hx243_2
               have hw243_1:=hx243_1
               have hw243_0:=hx243_0
               obtain rfl : ad237 = ad243:=(by injection e243)
               replace hx243_0:=cl HB hx243_0
               replace hx243_1:=cl HB hx243_1
               replace hx243_2:=cl HB hx243_2
               replace p243:=eq_true p243
               replace q243:=eq_true q243
               have p244 : 0 <= (x14_5 : Int):=od
               have q244 : x14_5 < (l0_1.length : Int):=od
               obtain ⟨ad244,e244,hx244_0,hx244_1,hx244_2⟩:=Qap HR0_1.out x14_5 p244 q244
               have hw244_2:=hx244_2
               have hw244_1:=hx244_1
               have hw244_0:=hx244_0
               obtain rfl : ad237 = ad244:=(by injection e244)
               replace hx244_0:=cl HB hx244_0
               replace hx244_1:=cl HB hx244_1
               replace hx244_2:=cl HB hx244_2
               replace p244:=eq_true p244
               replace q244:=eq_true q244
               refine stP (fun w' => B3 w' gb202 (.slice A0_0 l0_0.length c0_0) (.slice (some ad237) l0_1.length c0_1) (.slice A0_2 l0_2.length c0_2) (w'.cell? (ad237.add ((x13_3).toNat * 3)) = some (.int .i64 ((Qaa l0_1 x13_3).f0)) /\ w'.cell? ⟨(ad237.add ((x13_3).toNat * 3)).block,(ad237.add ((x13_3).toNat * 3)).off + 1,none⟩ = some (.int .i64 ((Qaa l0_1 x13_3).f1)) /\ w'.cell? ⟨(ad237.add ((x13_3).toNat * 3)).block,(ad237.add ((x13_3).toNat * 3)).off + 2,none⟩ = some (.int .i64 ((Qaa l0_1 x13_3).f2)) /\ w'.cell? (ad237.add ((x14_5).toNat * 3)) = some (.int .i64 ((Qaa l0_1 x14_5).f0)) /\ w'.cell? ⟨(ad237.add ((x14_5).toNat * 3)).block,(ad237.add ((x14_5).toNat * 3)).off + 1,none⟩ = some (.int .i64 ((Qaa l0_1 x14_5).f1)) /\ w'.cell? ⟨(ad237.add ((x14_5).toNat * 3)).block,(ad237.add ((x14_5).toNat * 3)).off + 2,none⟩ = some (.int .i64 ((Qaa l0_1 x14_5).f2)))) 24 (b3 BK202 ⟨(cW HB hw243_0),(cW HB hw243_1),(cW HB hw243_2),(cW HB hw244_0),(cW HB hw244_1),(cW HB hw244_2)⟩) (h:=fun hHeld => ?_); refine Qal w4_OpOwn.tab30 w4_OpOwn.bits30 (fun HT_ HW_ => ?_)
               generalize w124.drew = w128 at BK202 HB hx243_0 hx243_1 hx243_2 hx244_0 hx244_1 hx244_2 hHeld ⊢
               refine pu HT_ 0 201 1 (h := ?_)
               refine pu HT_ 1 202 3 (h := ?_)
               refine pu HT_ 2 203 7 (h := ?_)
               refine pu HT_ 3 204 15 (h := ?_)
               refine pu HT_ 4 205 31 (h := ?_)
               refine pu HT_ 5 206 63 (h := ?_)
               refine pu HT_ 6 207 127 (h := ?_)
               refine pu HT_ 7 208 255 (h := ?_)
               refine off HT_ 8 209 511 (h := ?_)
               refine off HT_ 9 210 1023 (h := ?_)
               refine pu HT_ 10 211 2047 (h := ?_)
               refine pu HT_ 11 212 4095 (h := ?_)
               refine pu HT_ 13 214 12287 (h := ?_)
               refine pu HT_ 16 217 77823 (h := ?_)
               refine pu HT_ 18 219 339967 (h := ?_)
               refine tk HT_ HW_ hHeld 12 213 344063 (h := ?_)
               refine pu HT_ 14 215 360447 (h := ?_)
               refine tk HT_ HW_ hHeld 15 216 393215 (h := ?_)
               refine tk HT_ HW_ hHeld 17 218 524287 (h := ?_)
               refine pu HT_ 19 220 1048575 (h := ?_)
               refine tk HT_ HW_ hHeld 20 221 2097151 (h := ?_)
               refine pu HT_ 21 222 4194303 (h := ?_)
               refine pu HT_ 22 223 8388607 (h := ?_)
               refine pu HT_ 23 224 16777215 (h := ?_)
               refine dn HT_ (h := ?_)
               try go_wp2
               go_meet
               case rel => exact ⟨_,((false != (((Qaa l0_1 x13_3).f0) == ((Qaa l0_1 x14_5).f0) && (((Qaa l0_1 x13_3).f1) == ((Qaa l0_1 x14_5).f1) && (((Qaa l0_1 x13_3).f2) == ((Qaa l0_1 x14_5).f2)))))),rf,H',⟨by have:=HK1.out; have:=HJ9.out; have:=HK3.out; have:=HJ104.out; have:=HK5.out; have:=HJ109.out; first | omega | exact Nat.le_refl _⟩,⟨kk BK202⟩,⟨bw HB⟩⟩⟩ : Nonempty G_)) :); w4_OpOwn.bxo (G:=G_) (inferInstanceAs (Nonempty G_)))
              case rest =>
               show (let G_ : Prop:=_; G_)
               intro G_
               exact (let_tmp i_ : Nonempty G_:=(((⟨by
               subst G_
               clear HC121
               obtain ⟨kq,x224_120,rfl,HA,HJ120,BK202,HB⟩:=hcut
               cases kq with
               | zero => exact absurd HA.out (by simp [w4_OpOwn.j11])
               | succ kj120 =>
                have H:=HA.out
                clear HA
                simp only [w4_OpOwn.j11] at H
                by_cases c130 : x224_120 = true
                ·show (let G_ : Prop:=_; G_)
                 intro G_
                 exact (let_tmp i_ : Nonempty G_:=(((⟨by
                 subst G_
                 subst c130
                 rw [if_pos rfl] at H
                 obtain rfl:=Zo H
                 go_wp2
                 go_ret
                 exact ⟨re,bw HB⟩⟩ : Nonempty G_)) :); w4_OpOwn.bxo (G:=G_) (inferInstanceAs (Nonempty G_)))
                replace c130:=Zf c130
                subst c130
                rw [if_neg nft] at H
                have H':=Zz.k H
                clear H
                go_wp2
                go_roundg kj120
                case measure => have:=HK1.out; have:=HJ9.out; have:=HK3.out; have:=HJ104.out; have:=HK5.out; have:=HJ109.out; have:=HJ120.out; omega
                case rel => exact ⟨(wrap64 (x14_5 + 1)),rf,H',⟨by have:=HK1.out; have:=HJ9.out; have:=HK3.out; have:=HJ104.out; have:=HK5.out; have:=HJ109.out; have:=HJ120.out; omega⟩,⟨kk BK202⟩,⟨bw HB⟩⟩⟩ : Nonempty G_)) :); w4_OpOwn.bxo (G:=G_) (inferInstanceAs (Nonempty G_)))⟩ : Nonempty G_)) :); w4_OpOwn.bxo (G:=G_) (inferInstanceAs (Nonempty G_)))⟩ : Nonempty G_)) :); w4_OpOwn.bxo (G:=G_) (inferInstanceAs (Nonempty G_)))⟩ : Nonempty G_)) :); w4_OpOwn.bxo (G:=G_) (inferInstanceAs (Nonempty G_)))⟩ : Nonempty G_)) :); w4_OpOwn.bxo (G:=G_) (inferInstanceAs (Nonempty G_)))⟩ : Nonempty G_)) :); w4_OpOwn.bxo (G:=G_) (inferInstanceAs (Nonempty G_)))⟩ : Nonempty G_)) :); w4_OpOwn.bxo (G:=G_) (inferInstanceAs (Nonempty G_)))⟩ : Nonempty G_)) :); w4_OpOwn.bxo (G:=G_) (inferInstanceAs (Nonempty G_)))⟩ : Nonempty G_)) :); w4_OpOwn.bxo (G:=G_) (inferInstanceAs (Nonempty G_)))⟩ : Nonempty G_)) :); w4_OpOwn.bxo (G:=G_) (inferInstanceAs (Nonempty G_)))⟩ : Nonempty G_)) :); w4_OpOwn.bxo (G:=G_) (inferInstanceAs (Nonempty G_)))
     show (let G_ : Prop:=_; G_)
     intro G_
     exact (let_tmp i_ : Nonempty G_:=(((⟨by
     subst G_
     subst c14
     rw [if_pos rfl] at H
     by_cases c15 : 0 <= x3_1; rotate_left
     ·rw [if_neg c15] at H
      exact absurd H (by simp)
     show (let G_ : Prop:=_; G_)
     intro G_
     exact (let_tmp i_ : Nonempty G_:=(((⟨by
     subst G_
     rw [if_pos c15] at H
     have c15b0:=Zd c15
     clear c15
     by_cases c16 : x3_1 < (l0_0.length : Int); rotate_left
     ·rw [if_neg c16] at H
      exact absurd H (by simp)
     show (let G_ : Prop:=_; G_)
     intro G_
     exact (let_tmp i_ : Nonempty G_:=(((⟨by
     subst G_
     rw [if_pos c16] at H
     have c16b0:=Zd c16
     clear c16
     obtain ⟨t206,A17,H⟩:=bE H
     obtain ⟨t207,A18,H⟩:=bE H
     by_cases c19 : t207 = 0; rotate_left
     ·rw [if_neg c19] at H
      obtain ⟨c19b0,c19b1⟩:=bF c19
      have H':=Zz.k H
      clear H
      obtain ⟨_,_,_,_,_,_⟩:=kc3 BK202
      have p204 : 0 <= (x3_1 : Int):=od
      have q204 : x3_1 < (l0_0.length : Int):=od
      obtain ⟨ad204,A204_7,c204_7,e204,hx204_0,hx204_1,hx204_2,hx204_3,hx204_4,hx204_5,hx204_6,hx204_7,hx204_8,hx204_9,hx204_10,hl204_7,hi204_7⟩:=at_Op HR0_0.out x3_1 p204 q204
      cases e204
      replace hx204_0:=cl HB hx204_0
      replace hx204_1:=cl HB hx204_1
      replace hx204_2:=cl HB hx204_2
      replace hx204_3:=cl HB hx204_3
      replace hx204_4:=cl HB hx204_4
      replace hx204_5:=cl HB hx204_5
      replace hx204_6:=cl HB hx204_6
      replace hx204_7:=cl HB hx204_7
      replace hx204_8:=cl HB hx204_8
      replace hx204_9:=cl HB hx204_9
      replace hx204_10:=cl HB hx204_10
      have HR204_7:=Zz.k hi204_7
      have HC204_7:=Zz.k hl204_7
      clear hi204_7 hl204_7
      replace p204:=eq_true p204
      replace q204:=eq_true q204
      go_wp2_with (first | ((with_reducible refine Qad (N:=4) rfl ?_); (try (refine Qai (by rfl) ?_; dsimp only)); refine bx 4 #[.int .i64 0, .int .i64 0, .int .i64 0, .int .i64 0, .int .i64 0, .int .i64 0, .string (⟨#[]⟩ : ByteArray), .slice none 0 0, .int .i64 0, .int .i64 0, .int .i64 0] 38 (h := ?_); intro gb205 hg w101 hbox hb; have BK205:=Zz.k (hbox); have GW205:=bz HB hg; have GE205:=bz HB hg; have NB202_205:=bn BK202 hg; have NB205_202:=bm BK202 hg; replace BK202:=bl BK202 hb; replace HB:=bs HB hb; clear hb hbox hg; have hnb102:=NB205_202.out; have hnc102:=NB202_205.out; obtain ⟨_,_,_,_,_,_,_,_,_,_,_,_,_,_,_,_,_,_,_,_,_,_⟩:=kc11 BK205) | ((with_reducible refine Qac (f:=20) rfl ?_); refine gl (some 36) Try.func20 #[.agg #[.int .i64 ((Qab l0_0 x3_1).f0), .int .i64 ((Qab l0_0 x3_1).f1), .int .i64 ((Qab l0_0 x3_1).f2), .int .i64 ((Qab l0_0 x3_1).f3.f0), .int .i64 ((Qab l0_0 x3_1).f3.f1), .int .i64 ((Qab l0_0 x3_1).f3.f2), .string ((Qab l0_0 x3_1).f4), .slice A204_7 ((Qab l0_0 x3_1).f5).length c204_7, .int .i64 ((Qab l0_0 x3_1).f6), .int .i64 ((Qab l0_0 x3_1).f7), .int .i64 ((Qab l0_0 x3_1).f8)]] (h := ?_); (with_reducible refine (op_Check.calls kj9 ((Qab l0_0 x3_1).f0) ((Qab l0_0 x3_1).f1) ((Qab l0_0 x3_1).f2) ((Qab l0_0 x3_1).f3.f0) ((Qab l0_0 x3_1).f3.f1) ((Qab l0_0 x3_1).f3.f2) ((Qab l0_0 x3_1).f4) _ _ ((Qab l0_0 x3_1).f5) ((Qab l0_0 x3_1).f6) ((Qab l0_0 x3_1).f7) ((Qab l0_0 x3_1).f8) t206 _ ?side1 ?side2 A17.out).mono ?_); (case side1 => exact Kd.C_below HR204_7.out (bw HB)); (case side2 => exact HC204_7.out); rintro e w104 ⟨rfl,hb⟩; refine ⟨_,rfl, ?_⟩; replace BK202:=bl BK202 hb; replace BK205:=Zz.k (Qax (bp11 (kk BK205)) hb); replace HB:=bs HB hb; clear hb) | ((with_reducible refine Qac (f:=19) rfl ?_); refine gl (some 37) Try.func19 #[.int .i64 t206] (h := ?_); (with_reducible refine (w4_num.calls t206 t207 _ A18.out).mono ?_); rintro e w' ⟨rfl,⟨nd,rfl⟩⟩; refine ⟨_,rfl, ?_⟩))
      go_roundg kj9
      case measure => have:=HK1.out; have:=HJ9.out; omega
      case rel => exact ⟨(wrap64 (x3_1 + 1)),rf,H',⟨by have:=HK1.out; have:=HJ9.out; omega⟩,⟨kk BK202⟩,⟨bw HB⟩⟩
     show (let G_ : Prop:=_; G_)
     intro G_
     exact (let_tmp i_ : Nonempty G_:=(((⟨by
     subst G_
     rw [if_pos c19] at H
     obtain ⟨c19b0,c19b1⟩:=bT c19
     clear c19
     obtain ⟨⟨t208,t211⟩,A20,H⟩:=bE H
     try dsimp only at H
     obtain ⟨⟨t212,t215⟩,A21,H⟩:=bE H
     try dsimp only at H
     have HC22:=Zz.k H
     clear H
     obtain ⟨_,_,_,_,_,_⟩:=kc3 BK202
     have p204 : 0 <= (x3_1 : Int):=od
     have q204 : x3_1 < (l0_0.length : Int):=od
     obtain ⟨ad204,A204_7,c204_7,e204,hx204_0,hx204_1,hx204_2,hx204_3,hx204_4,hx204_5,hx204_6,hx204_7,hx204_8,hx204_9,hx204_10,hl204_7,hi204_7⟩:=at_Op HR0_0.out x3_1 p204 q204
     cases e204
     replace hx204_0:=cl HB hx204_0
     replace hx204_1:=cl HB hx204_1
     replace hx204_2:=cl HB hx204_2
     replace hx204_3:=cl HB hx204_3
     replace hx204_4:=cl HB hx204_4
     replace hx204_5:=cl HB hx204_5
     replace hx204_6:=cl HB hx204_6
     replace hx204_7:=cl HB hx204_7
     replace hx204_8:=cl HB hx204_8
     replace hx204_9:=cl HB hx204_9
     replace hx204_10:=cl HB hx204_10
     have HR204_7:=Zz.k hi204_7
     have HC204_7:=Zz.k hl204_7
     clear hi204_7 hl204_7
     replace p204:=eq_true p204
     replace q204:=eq_true q204
     go_upto_region 10 with (first | ((with_reducible refine Qad (N:=4) rfl ?_); (try (refine Qai (by rfl) ?_; dsimp only)); refine bx 4 #[.int .i64 0, .int .i64 0, .int .i64 0, .int .i64 0, .int .i64 0, .int .i64 0, .string (⟨#[]⟩ : ByteArray), .slice none 0 0, .int .i64 0, .int .i64 0, .int .i64 0] 38 (h := ?_); intro gb205 hg w24 hbox hb; have BK205:=Zz.k (hbox); have GW205:=bz HB hg; have GE205:=bz HB hg; have NB202_205:=bn BK202 hg; have NB205_202:=bm BK202 hg; replace BK202:=bl BK202 hb; replace HB:=bs HB hb; clear hb hbox hg; have hnb25:=NB205_202.out; have hnc25:=NB202_205.out; obtain ⟨_,_,_,_,_,_,_,_,_,_,_,_,_,_,_,_,_,_,_,_,_,_⟩:=kc11 BK205) | ((with_reducible refine Qac (f:=20) rfl ?_); refine gl (some 36) Try.func20 #[.agg #[.int .i64 ((Qab l0_0 x3_1).f0), .int .i64 ((Qab l0_0 x3_1).f1), .int .i64 ((Qab l0_0 x3_1).f2), .int .i64 ((Qab l0_0 x3_1).f3.f0), .int .i64 ((Qab l0_0 x3_1).f3.f1), .int .i64 ((Qab l0_0 x3_1).f3.f2), .string ((Qab l0_0 x3_1).f4), .slice A204_7 ((Qab l0_0 x3_1).f5).length c204_7, .int .i64 ((Qab l0_0 x3_1).f6), .int .i64 ((Qab l0_0 x3_1).f7), .int .i64 ((Qab l0_0 x3_1).f8)]] (h := ?_); (with_reducible refine (op_Check.calls kj9 ((Qab l0_0 x3_1).f0) ((Qab l0_0 x3_1).f1) ((Qab l0_0 x3_1).f2) ((Qab l0_0 x3_1).f3.f0) ((Qab l0_0 x3_1).f3.f1) ((Qab l0_0 x3_1).f3.f2) ((Qab l0_0 x3_1).f4) _ _ ((Qab l0_0 x3_1).f5) ((Qab l0_0 x3_1).f6) ((Qab l0_0 x3_1).f7) ((Qab l0_0 x3_1).f8) t206 _ ?side1 ?side2 A17.out).mono ?_); (case side1 => exact Kd.C_below HR204_7.out (bw HB)); (case side2 => exact HC204_7.out); rintro e w27 ⟨rfl,hb⟩; refine ⟨_,rfl, ?_⟩; replace BK202:=bl BK202 hb; replace BK205:=Zz.k (Qax (bp11 (kk BK205)) hb); replace HB:=bs HB hb; clear hb) | ((with_reducible refine Qac (f:=19) rfl ?_); refine gl (some 37) Try.func19 #[.int .i64 t206] (h := ?_); (with_reducible refine (w4_num.calls t206 t207 _ A18.out).mono ?_); rintro e w' ⟨rfl,⟨nd,rfl⟩⟩; refine ⟨_,rfl, ?_⟩; obtain ⟨_,_,_,_,_,_,_,_,_,_,_,_,_,_,_,_,_,_,_,_,_,_⟩:=kc11 BK205) | ((with_reducible refine Qac (f:=21) rfl ?_); refine gl (some 41) Try.func21 #[.agg #[.int .i64 ((Qab l0_0 x3_1).f0), .int .i64 ((Qab l0_0 x3_1).f1), .int .i64 ((Qab l0_0 x3_1).f2), .int .i64 ((Qab l0_0 x3_1).f3.f0), .int .i64 ((Qab l0_0 x3_1).f3.f1), .int .i64 ((Qab l0_0 x3_1).f3.f2), .string ((Qab l0_0 x3_1).f4), .slice A204_7 ((Qab l0_0 x3_1).f5).length c204_7, .int .i64 ((Qab l0_0 x3_1).f6), .int .i64 ((Qab l0_0 x3_1).f7), .int .i64 ((Qab l0_0 x3_1).f8)]] (h := ?_); (with_reducible refine (op_Elems.calls kj9 ((Qab l0_0 x3_1).f0) ((Qab l0_0 x3_1).f1) ((Qab l0_0 x3_1).f2) ((Qab l0_0 x3_1).f3.f0) ((Qab l0_0 x3_1).f3.f1) ((Qab l0_0 x3_1).f3.f2) ((Qab l0_0 x3_1).f4) _ _ ((Qab l0_0 x3_1).f5) ((Qab l0_0 x3_1).f6) ((Qab l0_0 x3_1).f7) ((Qab l0_0 x3_1).f8) t208 t211 _ ?side1 ?side2 A20.out).mono ?_); (case side1 => repeat (first | exact (Kd.C_below HR204_7.out (bw HB)) | (with_reducible refine Kd.C_alloc ?_ _) | (with_reducible refine Kd.C_drewN ?_ _) | (with_reducible refine Kd.C_drew ?_))); (case side2 => exact HC204_7.out); rintro e w29 ⟨v209,rfl,ho0,hb⟩; refine ⟨_,rfl, ?_⟩; have HO210:=Zz.k (Kd.R_lower ho0 (Qay (bw HB))); replace BK202:=bl BK202 hb; replace BK205:=bl BK205 hb; replace HB:=bs HB hb; clear hb; clear ho0; obtain ⟨_,_,_,_,_,_,_,_,_,_,_,_,_,_,_,_,_,_,_,_,_,_⟩:=kc11 BK205) | ((with_reducible refine Qac (f:=22) rfl ?_); refine gl (some 46) Try.func22 #[.agg #[.int .i64 ((Qab l0_0 x3_1).f0), .int .i64 ((Qab l0_0 x3_1).f1), .int .i64 ((Qab l0_0 x3_1).f2), .int .i64 ((Qab l0_0 x3_1).f3.f0), .int .i64 ((Qab l0_0 x3_1).f3.f1), .int .i64 ((Qab l0_0 x3_1).f3.f2), .string ((Qab l0_0 x3_1).f4), .slice A204_7 ((Qab l0_0 x3_1).f5).length c204_7, .int .i64 ((Qab l0_0 x3_1).f6), .int .i64 ((Qab l0_0 x3_1).f7), .int .i64 ((Qab l0_0 x3_1).f8)]] (h := ?_); (with_reducible refine (op_Needs.calls ((Qab l0_0 x3_1).f0) ((Qab l0_0 x3_1).f1) ((Qab l0_0 x3_1).f2) ((Qab l0_0 x3_1).f3.f0) ((Qab l0_0 x3_1).f3.f1) ((Qab l0_0 x3_1).f3.f2) ((Qab l0_0 x3_1).f4) _ _ ((Qab l0_0 x3_1).f5) ((Qab l0_0 x3_1).f6) ((Qab l0_0 x3_1).f7) ((Qab l0_0 x3_1).f8) t212 t215 _ ?side1 ?side2 A21.out).mono ?_); (case side1 => exact cb HR204_7 HB); (case side2 => exact HC204_7.out); rintro e w31 ⟨v213,rfl,ho0,hb⟩; refine ⟨_,rfl, ?_⟩; have HO214:=Zz.k (Kd.R_lower (Kd.R_new' ho0 (Kd.R_lt (rk HO210))) (Qay (bw HB))); replace HO210:=Zz.k (Kd.R_elder' (rk HO210) (Kd.R_base ho0) hb); replace BK202:=bl BK202 hb; replace BK205:=bl BK205 hb; replace HB:=bs HB hb; clear hb; clear ho0))
     (try simp only [Act.put,List.setIfInBounds_toArray,List.set_cons_zero,List.set_cons_succ])
     go_cut [61] (fun v61 wc => ∃ (kq : Nat) (x61_21 : Bool),v61 = .bool x61_21 /\ Zz (w4_OpOwn.j2 kq x3_1 t208 t212 x61_21 l0_0 l0_1 l0_2 ((Qab l0_0 x3_1).f0) ((Qab l0_0 x3_1).f1) ((Qab l0_0 x3_1).f2) ((Qab l0_0 x3_1).f3.f0) ((Qab l0_0 x3_1).f3.f1) ((Qab l0_0 x3_1).f3.f2) ((Qab l0_0 x3_1).f4) ((Qab l0_0 x3_1).f5) ((Qab l0_0 x3_1).f6) ((Qab l0_0 x3_1).f7) ((Qab l0_0 x3_1).f8) = some r) /\ Zz (kq <= kj9) /\ Zz (Kd.R Qao 36 wc w.heap.size (fun k_ => some k_ ≠ (v213 : Value).ownBlock) v209 t208) /\ Zz (Kd.R Qao 36 wc w.heap.size (fun k_ => some k_ ≠ (v209 : Value).ownBlock) v213 t212) /\ Zz (wc.heap[gb202]? = some (.cells #[(.slice (some ad204) l0_0.length c0_0),(.slice A0_1 l0_1.length c0_1),(.slice A0_2 l0_2.length c0_2)] 51 (0,0))) /\ Zz (wc.heap[gb205]? = some (.cells #[.int .i64 ((Qab l0_0 x3_1).f0), .int .i64 ((Qab l0_0 x3_1).f1), .int .i64 ((Qab l0_0 x3_1).f2), .int .i64 ((Qab l0_0 x3_1).f3.f0), .int .i64 ((Qab l0_0 x3_1).f3.f1), .int .i64 ((Qab l0_0 x3_1).f3.f2), .string ((Qab l0_0 x3_1).f4),(.slice A204_7 ((Qab l0_0 x3_1).f5).length c204_7), .int .i64 ((Qab l0_0 x3_1).f6), .int .i64 ((Qab l0_0 x3_1).f7), .int .i64 ((Qab l0_0 x3_1).f8)] 38 (0,0))) /\ Zz (Below w.heap.size w wc))
     case first =>
      have H:=HC22.out
      clear HC22
      obtain ⟨t216,A32,H⟩:=bE H
      by_cases c33 : t216 = 0; rotate_left
      ·rw [if_neg c33] at H
       obtain ⟨c33b0,c33b1⟩:=bF c33
       (first | rw [c33b0] | (simp only [i64_w,i32_w]; rw [c33b0]) | skip)
       have H':=Zz.k H
       clear H
       go_wp2_with (first | ((with_reducible refine Qac (f:=19) rfl ?_); refine gl (some 50) Try.func19 #[.int .i64 t211] (h := ?_); (with_reducible refine (w4_num.calls t211 t216 _ A32.out).mono ?_); rintro e w' ⟨rfl,⟨nd,rfl⟩⟩; refine ⟨_,rfl, ?_⟩))
       go_meet
       case rel => exact ⟨_,(true),rf,H',⟨by have:=HK1.out; have:=HJ9.out; first | omega | exact Nat.le_refl _⟩,⟨by (with_reducible repeat (first | apply Kd.R_alloc | apply Kd.R_drewN | apply Kd.R_drew)); exact Kd.R_mono HO210.out (fun _ hk => hk.2)⟩,⟨by (with_reducible repeat (first | apply Kd.R_alloc | apply Kd.R_drewN | apply Kd.R_drew)); exact Kd.R_mono HO214.out (fun _ hk => hk.2)⟩,⟨kk BK202⟩,⟨kk BK205⟩,⟨bw HB⟩⟩
      show (let G_ : Prop:=_; G_)
      intro G_
      exact (let_tmp i_ : Nonempty G_:=(((⟨by
      subst G_
      rw [if_pos c33] at H
      obtain ⟨c33b0,c33b1⟩:=bT c33
      clear c33
      (first | rw [c33b0] | (simp only [i64_w,i32_w]; rw [c33b0]) | skip)
      obtain ⟨t217,A34,H⟩:=bE H
      by_cases c35 : t217 = 0; rotate_left
      ·rw [if_neg c35] at H
       obtain ⟨c35b0,c35b1⟩:=bF c35
       have H':=Zz.k H
       clear H
       go_wp2_with (first | ((with_reducible refine Qac (f:=19) rfl ?_); refine gl (some 50) Try.func19 #[.int .i64 t211] (h := ?_); (with_reducible refine (w4_num.calls t211 t216 _ A32.out).mono ?_); rintro e w' ⟨rfl,⟨nd,rfl⟩⟩; refine ⟨_,rfl, ?_⟩) | (go_at_call 19; (with_reducible refine (w4_num.calls t215 t217 _ A34.out).mono ?_); rintro e w' ⟨rfl,⟨nd,rfl⟩⟩))
       go_meet
       case rel => exact ⟨_,(true),rf,H',⟨by have:=HK1.out; have:=HJ9.out; first | omega | exact Nat.le_refl _⟩,⟨by (with_reducible repeat (first | apply Kd.R_alloc | apply Kd.R_drewN | apply Kd.R_drew)); exact Kd.R_mono HO210.out (fun _ hk => hk.2)⟩,⟨by (with_reducible repeat (first | apply Kd.R_alloc | apply Kd.R_drewN | apply Kd.R_drew)); exact Kd.R_mono HO214.out (fun _ hk => hk.2)⟩,⟨kk BK202⟩,⟨kk BK205⟩,⟨bw HB⟩⟩
      show (let G_ : Prop:=_; G_)
      intro G_
      exact (let_tmp i_ : Nonempty G_:=(((⟨by
      subst G_
      rw [if_pos c35] at H
      obtain ⟨c35b0,c35b1⟩:=bT c35
      clear c35
      have H':=Zz.k H
      clear H
      go_wp2_with (first | ((with_reducible refine Qac (f:=19) rfl ?_); refine gl (some 50) Try.func19 #[.int .i64 t211] (h := ?_); (with_reducible refine (w4_num.calls t211 t216 _ A32.out).mono ?_); rintro e w' ⟨rfl,⟨nd,rfl⟩⟩; refine ⟨_,rfl, ?_⟩) | (go_at_call 19; (with_reducible refine (w4_num.calls t215 t217 _ A34.out).mono ?_); rintro e w' ⟨rfl,⟨nd,rfl⟩⟩; obtain ⟨Ao36,co36,eo36⟩:=Kd.R_slice HO210.out; subst eo36))
      go_meet
      case rel => exact ⟨_,(decide ((t208.length : Int) > 12)),rf,H',⟨by have:=HK1.out; have:=HJ9.out; first | omega | exact Nat.le_refl _⟩,⟨by (with_reducible repeat (first | apply Kd.R_alloc | apply Kd.R_drewN | apply Kd.R_drew)); exact Kd.R_mono HO210.out (fun _ hk => hk.2)⟩,⟨by (with_reducible repeat (first | apply Kd.R_alloc | apply Kd.R_drewN | apply Kd.R_drew)); exact Kd.R_mono HO214.out (fun _ hk => hk.2)⟩,⟨kk BK202⟩,⟨kk BK205⟩,⟨bw HB⟩⟩⟩ : Nonempty G_)) :); w4_OpOwn.bxo (G:=G_) (inferInstanceAs (Nonempty G_)))⟩ : Nonempty G_)) :); w4_OpOwn.bxo (G:=G_) (inferInstanceAs (Nonempty G_)))
     case rest =>
      show (let G_ : Prop:=_; G_)
      intro G_
      exact (let_tmp i_ : Nonempty G_:=(((⟨by
      subst G_
      clear HC22
      try clear c14; try clear c15b0; try clear c16b0; try clear c19b0; try clear c19b1; try clear hx204_0; try clear hx204_1; try clear hx204_10; try clear hx204_2; try clear hx204_3; try clear hx204_4; try clear hx204_5; try clear hx204_6; try clear hx204_7; try clear hx204_8; try clear hx204_9; try clear p204; try clear q204
      obtain ⟨kq,x61_21,rfl,HA,HJ21,HO_5,HO_7,BK202,BK205,HB⟩:=hcut
      cases kq with
      | zero => exact absurd HA.out (by simp [w4_OpOwn.j2])
      | succ kj21 =>
       have H:=HA.out
       clear HA
       simp only [w4_OpOwn.j2] at H
       by_cases c37 : x61_21 = true
       ·show (let G_ : Prop:=_; G_)
        intro G_
        exact (let_tmp i_ : Nonempty G_:=(((⟨by
        subst G_
        subst c37
        rw [if_pos rfl] at H
        obtain rfl:=Zo H
        go_wp2
        go_ret
        exact ⟨re,bw HB⟩⟩ : Nonempty G_)) :); w4_OpOwn.bxo (G:=G_) (inferInstanceAs (Nonempty G_)))
       replace c37:=Zf c37
       subst c37
       rw [if_neg nft] at H
       have H':=Zz.k H
       clear H
       go_wp2
       go_loopg [9] kj21 (fun kq v9 w' => ∃ (x9_4 : Int),v9 = .int .i64 x9_4 /\ Zz (w4_OpOwn.l1 kq x3_1 t208 t212 x9_4 l0_0 l0_1 l0_2 ((Qab l0_0 x3_1).f0) ((Qab l0_0 x3_1).f1) ((Qab l0_0 x3_1).f2) ((Qab l0_0 x3_1).f3.f0) ((Qab l0_0 x3_1).f3.f1) ((Qab l0_0 x3_1).f3.f2) ((Qab l0_0 x3_1).f4) ((Qab l0_0 x3_1).f5) ((Qab l0_0 x3_1).f6) ((Qab l0_0 x3_1).f7) ((Qab l0_0 x3_1).f8) = some r) /\ Zz (kq <= kj21) /\ Zz (Kd.R Qao 36 w' w.heap.size (fun k_ => some k_ ≠ (v213 : Value).ownBlock) v209 t208) /\ Zz (Kd.R Qao 36 w' w.heap.size (fun k_ => some k_ ≠ (v209 : Value).ownBlock) v213 t212) /\ Zz (w'.heap[gb202]? = some (.cells #[(.slice (some ad204) l0_0.length c0_0),(.slice A0_1 l0_1.length c0_1),(.slice A0_2 l0_2.length c0_2)] 51 (0,0))) /\ Zz (w'.heap[gb205]? = some (.cells #[.int .i64 ((Qab l0_0 x3_1).f0), .int .i64 ((Qab l0_0 x3_1).f1), .int .i64 ((Qab l0_0 x3_1).f2), .int .i64 ((Qab l0_0 x3_1).f3.f0), .int .i64 ((Qab l0_0 x3_1).f3.f1), .int .i64 ((Qab l0_0 x3_1).f3.f2), .string ((Qab l0_0 x3_1).f4),(.slice A204_7 ((Qab l0_0 x3_1).f5).length c204_7), .int .i64 ((Qab l0_0 x3_1).f6), .int .i64 ((Qab l0_0 x3_1).f7), .int .i64 ((Qab l0_0 x3_1).f8)] 38 (0,0))) /\ Zz (Below w.heap.size w w'))
       case atStart => exact ⟨(0),rf,H',⟨Nat.le_refl _⟩,⟨rk HO_5⟩,⟨rk HO_7⟩,⟨kk BK202⟩,⟨kk BK205⟩,⟨bw HB⟩⟩
       case round =>
        show (let G_ : Prop:=_; G_)
        intro G_
        exact (let_tmp i_ : Nonempty G_:=(((⟨by
        subst G_
        clear H'
        try clear c37
        obtain ⟨x9_4,rfl,HA,HK4,HO_5,HO_7,BK202,BK205,HB⟩:=hrel
        cases gk with
        | zero => exact absurd HA.out (by simp [w4_OpOwn.l1])
        | succ k4 =>
         have H:=HA.out
         clear HA
         simp only [w4_OpOwn.l1] at H
         by_cases c38 : x9_4 < (t208.length : Int); rotate_left
         ·rw [if_neg c38] at H
          have c38b0:=Ze c38
          clear c38
          have H':=Zz.k H
          clear H
          obtain ⟨Ao74,co74,eo74⟩:=Kd.R_slice HO_5.out
          subst eo74
          go_wp2
          go_loopg [12] k4 (fun kq v12 w' => ∃ (x12_5 : Int),v12 = .int .i64 x12_5 /\ Zz (w4_OpOwn.l2 kq x3_1 t212 x12_5 l0_0 l0_1 l0_2 ((Qab l0_0 x3_1).f0) ((Qab l0_0 x3_1).f1) ((Qab l0_0 x3_1).f2) ((Qab l0_0 x3_1).f3.f0) ((Qab l0_0 x3_1).f3.f1) ((Qab l0_0 x3_1).f3.f2) ((Qab l0_0 x3_1).f4) ((Qab l0_0 x3_1).f5) ((Qab l0_0 x3_1).f6) ((Qab l0_0 x3_1).f7) ((Qab l0_0 x3_1).f8) = some r) /\ Zz (kq <= k4) /\ Zz (Kd.R Qao 36 w' w.heap.size (fun _ => True) v213 t212) /\ Zz (w'.heap[gb202]? = some (.cells #[(.slice (some ad204) l0_0.length c0_0),(.slice A0_1 l0_1.length c0_1),(.slice A0_2 l0_2.length c0_2)] 51 (0,0))) /\ Zz (w'.heap[gb205]? = some (.cells #[.int .i64 ((Qab l0_0 x3_1).f0), .int .i64 ((Qab l0_0 x3_1).f1), .int .i64 ((Qab l0_0 x3_1).f2), .int .i64 ((Qab l0_0 x3_1).f3.f0), .int .i64 ((Qab l0_0 x3_1).f3.f1), .int .i64 ((Qab l0_0 x3_1).f3.f2), .string ((Qab l0_0 x3_1).f4),(.slice A204_7 ((Qab l0_0 x3_1).f5).length c204_7), .int .i64 ((Qab l0_0 x3_1).f6), .int .i64 ((Qab l0_0 x3_1).f7), .int .i64 ((Qab l0_0 x3_1).f8)] 38 (0,0))) /\ Zz (Below w.heap.size w w'))
          case atStart => exact ⟨(0),rf,H',⟨Nat.le_refl _⟩,⟨by (with_reducible repeat (first | apply Kd.R_alloc | apply Kd.R_drewN | apply Kd.R_drew)); exact Kd.R_mono HO_7.out (fun _ hk => trivial)⟩,⟨kk BK202⟩,⟨kk BK205⟩,⟨bw HB⟩⟩
          case round =>
           show (let G_ : Prop:=_; G_)
           intro G_
           exact (let_tmp i_ : Nonempty G_:=(((⟨by
           subst G_
           clear H'
           try clear c38b0
           obtain ⟨x12_5,rfl,HA,HK5,HO_7,BK202,BK205,HB⟩:=hrel
           cases gk with
           | zero => exact absurd HA.out (by simp [w4_OpOwn.l2])
           | succ k5 =>
            have H:=HA.out
            clear HA
            simp only [w4_OpOwn.l2] at H
            by_cases c75 : x12_5 < (t212.length : Int); rotate_left
            ·rw [if_neg c75] at H
             have c75b0:=Ze c75
             clear c75
             have H':=Zz.k H
             clear H
             obtain ⟨Ao99,co99,eo99⟩:=Kd.R_slice HO_7.out
             subst eo99
             go_wp2
             go_roundg k5
             case measure => have:=HK1.out; have:=HJ9.out; have:=HJ21.out; have:=HK4.out; have:=HK5.out; omega
             case rel => exact ⟨(wrap64 (x3_1 + 1)),rf,H',⟨by have:=HK1.out; have:=HJ9.out; have:=HJ21.out; have:=HK4.out; have:=HK5.out; omega⟩,⟨kk BK202⟩,⟨bw HB⟩⟩
            show (let G_ : Prop:=_; G_)
            intro G_
            exact (let_tmp i_ : Nonempty G_:=(((⟨by
            subst G_
            rw [if_pos c75] at H
            have c75b0:=Zd c75
            clear c75
            have HC76:=Zz.k H
            clear H
            obtain ⟨Ao77,co77,eo77⟩:=Kd.R_slice HO_7.out
            subst eo77
            go_upto_region 21 with (fail)
            go_cut [156] (fun v156 wc => ∃ (kq : Nat) (x156_75 : Bool),v156 = .bool x156_75 /\ Zz (w4_OpOwn.j6 kq x3_1 t212 x12_5 x156_75 l0_0 l0_1 l0_2 ((Qab l0_0 x3_1).f0) ((Qab l0_0 x3_1).f1) ((Qab l0_0 x3_1).f2) ((Qab l0_0 x3_1).f3.f0) ((Qab l0_0 x3_1).f3.f1) ((Qab l0_0 x3_1).f3.f2) ((Qab l0_0 x3_1).f4) ((Qab l0_0 x3_1).f5) ((Qab l0_0 x3_1).f6) ((Qab l0_0 x3_1).f7) ((Qab l0_0 x3_1).f8) = some r) /\ Zz (kq <= k5) /\ Zz (Kd.R Qao 36 wc w.heap.size (fun _ => True) (.slice Ao77 t212.length co77) t212) /\ Zz (wc.heap[gb202]? = some (.cells #[(.slice (some ad204) l0_0.length c0_0),(.slice A0_1 l0_1.length c0_1),(.slice A0_2 l0_2.length c0_2)] 51 (0,0))) /\ Zz (wc.heap[gb205]? = some (.cells #[.int .i64 ((Qab l0_0 x3_1).f0), .int .i64 ((Qab l0_0 x3_1).f1), .int .i64 ((Qab l0_0 x3_1).f2), .int .i64 ((Qab l0_0 x3_1).f3.f0), .int .i64 ((Qab l0_0 x3_1).f3.f1), .int .i64 ((Qab l0_0 x3_1).f3.f2), .string ((Qab l0_0 x3_1).f4),(.slice A204_7 ((Qab l0_0 x3_1).f5).length c204_7), .int .i64 ((Qab l0_0 x3_1).f6), .int .i64 ((Qab l0_0 x3_1).f7), .int .i64 ((Qab l0_0 x3_1).f8)] 38 (0,0))) /\ Zz (Below w.heap.size w wc))
            case first =>
             have H:=HC76.out
             clear HC76
             by_cases c78 : 0 <= x12_5; rotate_left
             ·rw [if_neg c78] at H
              exact absurd H (by simp)
             show (let G_ : Prop:=_; G_)
             intro G_
             exact (let_tmp i_ : Nonempty G_:=(((⟨by
             subst G_
             rw [if_pos c78] at H
             have c78b0:=Zd c78
             clear c78
             (first | rw [c78b0] | (simp only [i64_w,i32_w]; rw [c78b0]) | skip)
             by_cases c79 : ((Qaa t212 x12_5).f0) = ((Qab l0_0 x3_1).f0); rotate_left
             ·rw [if_neg c79] at H
              obtain ⟨c79b0,c79b1⟩:=bF c79
              by_cases c90 : x12_5 > 0; rotate_left
              ·rw [if_neg c90] at H
               have c90b0:=Ze c90
               clear c90
               have H':=Zz.k H
               clear H
               try go_wp2
               have n0_:=Zz.k (Kd.R_drew HO_7.out)
               have n1_:=Zz.k (Qag BK202.out)
               have n2_:=Zz.k (Qag BK205.out)
               have n3_:=Zz.k (Qah HB.out)
               clear HO_7
               clear BK202
               clear BK205
               clear HB
               have HO_7:=n0_
               have BK202:=n1_
               have BK205:=n2_
               have HB:=n3_
               clear n0_ n1_ n2_ n3_
               have p228 : 0 <= (x12_5 : Int):=od
               have q228 : x12_5 < (t212.length : Int):=od
               obtain ⟨ad228,e228,hx228_0,hx228_1,hx228_2⟩:=Qap (Kd.R_reads' HO_7.out).2.2 x12_5 p228 q228
               cases e228
               replace p228:=eq_true p228
               replace q228:=eq_true q228
               refine stP (fun w' => B11 w' gb205 (.int .i64 ((Qab l0_0 x3_1).f0)) (.int .i64 ((Qab l0_0 x3_1).f1)) (.int .i64 ((Qab l0_0 x3_1).f2)) (.int .i64 ((Qab l0_0 x3_1).f3.f0)) (.int .i64 ((Qab l0_0 x3_1).f3.f1)) (.int .i64 ((Qab l0_0 x3_1).f3.f2)) (.string ((Qab l0_0 x3_1).f4)) (.slice A204_7 ((Qab l0_0 x3_1).f5).length c204_7) (.int .i64 ((Qab l0_0 x3_1).f6)) (.int .i64 ((Qab l0_0 x3_1).f7)) (.int .i64 ((Qab l0_0 x3_1).f8)) (w'.cell? (ad228.add ((x12_5).toNat * 3)) = some (.int .i64 ((Qaa t212 x12_5).f0)) /\ w'.cell? ⟨(ad228.add ((x12_5).toNat * 3)).block,(ad228.add ((x12_5).toNat * 3)).off + 1,none⟩ = some (.int .i64 ((Qaa t212 x12_5).f1)) /\ w'.cell? ⟨(ad228.add ((x12_5).toNat * 3)).block,(ad228.add ((x12_5).toNat * 3)).off + 2,none⟩ = some (.int .i64 ((Qaa t212 x12_5).f2)))) 35 (b11 BK205 ⟨hx228_0,hx228_1,hx228_2⟩) (h:=fun hHeld => ?_); refine Qal w4_OpOwn.tab21 w4_OpOwn.bits21 (fun HT_ HW_ => ?_)
               generalize wr.drew = w97 at HO_7 BK202 BK205 HB hx228_0 hx228_1 hx228_2 hHeld ⊢
               refine pu HT_ 0 122 1 (h := ?_)
               refine pu HT_ 1 123 3 (h := ?_)
               refine pu HT_ 2 124 7 (h := ?_)
               refine pu HT_ 3 125 15 (h := ?_)
               refine pu HT_ 5 127 47 (h := ?_)
               refine tk HT_ HW_ hHeld 4 126 63 (h := ?_)
               refine tk HT_ HW_ hHeld 6 128 127 (h := ?_)
               refine pu HT_ 7 129 255 (h := ?_)
               refine pu HT_ 8 130 511 (h := ?_)
               refine off HT_ 9 131 1023 (h := ?_)
               refine off HT_ 10 132 2047 (h := ?_)
               refine off HT_ 11 133 4095 (h := ?_)
               refine off HT_ 12 134 8191 (h := ?_)
               refine off HT_ 13 135 16383 (h := ?_)
               refine off HT_ 14 136 32767 (h := ?_)
               refine off HT_ 15 137 65535 (h := ?_)
               refine off HT_ 16 138 131071 (h := ?_)
               refine pu HT_ 17 139 262143 (h := ?_)
               refine pu HT_ 18 140 524287 (h := ?_)
               refine pu HT_ 19 141 1048575 (h := ?_)
               refine pu HT_ 20 142 2097151 (h := ?_)
               refine pu HT_ 21 143 4194303 (h := ?_)
               refine off HT_ 22 144 8388607 (h := ?_)
               refine off HT_ 23 145 16777215 (h := ?_)
               refine off HT_ 24 146 33554431 (h := ?_)
               refine off HT_ 25 147 67108863 (h := ?_)
               refine off HT_ 26 148 134217727 (h := ?_)
               refine off HT_ 27 149 268435455 (h := ?_)
               refine off HT_ 28 150 536870911 (h := ?_)
               refine off HT_ 29 151 1073741823 (h := ?_)
               refine off HT_ 30 152 2147483647 (h := ?_)
               refine off HT_ 31 153 4294967295 (h := ?_)
               refine off HT_ 32 154 8589934591 (h := ?_)
               refine pu HT_ 33 155 17179869183 (h := ?_)
               refine pu HT_ 34 156 34359738367 (h := ?_)
               refine dn HT_ (h := ?_)
               try go_wp2
               go_meet
               case rel => exact ⟨_,(false),rf,H',⟨by have:=HK1.out; have:=HJ9.out; have:=HJ21.out; have:=HK4.out; have:=HK5.out; first | omega | exact Nat.le_refl _⟩,⟨rk HO_7⟩,⟨kk BK202⟩,⟨kk BK205⟩,⟨bw HB⟩⟩
              show (let G_ : Prop:=_; G_)
              intro G_
              exact (let_tmp i_ : Nonempty G_:=(((⟨by
              subst G_
              rw [if_pos c90] at H
              have c90b0:=Zd c90
              clear c90
              obtain ⟨ji91,hji91⟩ : ∃ j_ : Int,(wrap64 (x12_5 - 1)) = j_:=⟨_,rfl⟩
              replace H : (if 0 <= (ji91) then (if (ji91) < (t212.length : Int) then ((op_Less.f k5 ((Qaa t212 (ji91)).f0) ((Qaa t212 (ji91)).f1) ((Qaa t212 (ji91)).f2) ((Qaa t212 x12_5).f0) ((Qaa t212 x12_5).f1) ((Qaa t212 x12_5).f2)).bind fun t235 => (w4_OpOwn.j6 k5 x3_1 t212 x12_5 (!t235) l0_0 l0_1 l0_2 ((Qab l0_0 x3_1).f0) ((Qab l0_0 x3_1).f1) ((Qab l0_0 x3_1).f2) ((Qab l0_0 x3_1).f3.f0) ((Qab l0_0 x3_1).f3.f1) ((Qab l0_0 x3_1).f3.f2) ((Qab l0_0 x3_1).f4) ((Qab l0_0 x3_1).f5) ((Qab l0_0 x3_1).f6) ((Qab l0_0 x3_1).f7) ((Qab l0_0 x3_1).f8))) else (none)) else (none)) = some r:=by first | (rw [hji91] at H; exact H) | (simp only [hji91] at H ⊢; exact H)
              have hji91w : (IntKind.i64.wrap (x12_5 - 1)) = ji91:=(i64_w _).trans hji91
              by_cases c92 : 0 <= (ji91); rotate_left
              ·rw [if_neg c92] at H
               exact absurd H (by simp)
              show (let G_ : Prop:=_; G_)
              intro G_
              exact (let_tmp i_ : Nonempty G_:=(((⟨by
              subst G_
              rw [if_pos c92] at H
              have c92b0:=Zd c92
              clear c92
              by_cases c93 : (ji91) < (t212.length : Int); rotate_left
              ·rw [if_neg c93] at H
               exact absurd H (by simp)
              show (let G_ : Prop:=_; G_)
              intro G_
              exact (let_tmp i_ : Nonempty G_:=(((⟨by
              subst G_
              rw [if_pos c93] at H
              have c93b0:=Zd c93
              clear c93
              obtain ⟨t235,A94,H⟩:=bE H
              have H':=Zz.k H
              clear H
              try go_wp2
              have n0_:=Zz.k (Kd.R_drew HO_7.out)
              have n1_:=Zz.k (Qag BK202.out)
              have n2_:=Zz.k (Qag BK205.out)
              have n3_:=Zz.k (Qah HB.out)
              clear HO_7
              clear BK202
              clear BK205
              clear HB
              have HO_7:=n0_
              have BK202:=n1_
              have BK205:=n2_
              have HB:=n3_
              clear n0_ n1_ n2_ n3_
              have p228 : 0 <= (x12_5 : Int):=od
              have q228 : x12_5 < (t212.length : Int):=od
              obtain ⟨ad228,e228,hx228_0,hx228_1,hx228_2⟩:=Qap (Kd.R_reads' HO_7.out).2.2 x12_5 p228 q228
              cases e228
              replace p228:=eq_true p228
              replace q228:=eq_true q228
              have p233 : 0 <= ((ji91) : Int):=od
              have q233 : (ji91) < (t212.length : Int):=od
              obtain ⟨ad233,e233,hx233_0,hx233_1,hx233_2⟩:=Qap (Kd.R_reads' HO_7.out).2.2 (ji91) p233 q233
              obtain rfl : ad228 = ad233:=(by injection e233)
              replace p233:=eq_true p233
              replace q233:=eq_true q233
              refine stP (fun w' => B11 w' gb205 (.int .i64 ((Qab l0_0 x3_1).f0)) (.int .i64 ((Qab l0_0 x3_1).f1)) (.int .i64 ((Qab l0_0 x3_1).f2)) (.int .i64 ((Qab l0_0 x3_1).f3.f0)) (.int .i64 ((Qab l0_0 x3_1).f3.f1)) (.int .i64 ((Qab l0_0 x3_1).f3.f2)) (.string ((Qab l0_0 x3_1).f4)) (.slice A204_7 ((Qab l0_0 x3_1).f5).length c204_7) (.int .i64 ((Qab l0_0 x3_1).f6)) (.int .i64 ((Qab l0_0 x3_1).f7)) (.int .i64 ((Qab l0_0 x3_1).f8)) (w'.cell? (ad228.add ((x12_5).toNat * 3)) = some (.int .i64 ((Qaa t212 x12_5).f0)) /\ w'.cell? ⟨(ad228.add ((x12_5).toNat * 3)).block,(ad228.add ((x12_5).toNat * 3)).off + 1,none⟩ = some (.int .i64 ((Qaa t212 x12_5).f1)) /\ w'.cell? ⟨(ad228.add ((x12_5).toNat * 3)).block,(ad228.add ((x12_5).toNat * 3)).off + 2,none⟩ = some (.int .i64 ((Qaa t212 x12_5).f2)) /\ w'.cell? (ad228.add (((ji91)).toNat * 3)) = some (.int .i64 ((Qaa t212 (ji91)).f0)) /\ w'.cell? ⟨(ad228.add (((ji91)).toNat * 3)).block,(ad228.add (((ji91)).toNat * 3)).off + 1,none⟩ = some (.int .i64 ((Qaa t212 (ji91)).f1)) /\ w'.cell? ⟨(ad228.add (((ji91)).toNat * 3)).block,(ad228.add (((ji91)).toNat * 3)).off + 2,none⟩ = some (.int .i64 ((Qaa t212 (ji91)).f2)))) 35 (b11 BK205 ⟨hx228_0,hx228_1,hx228_2,hx233_0,hx233_1,hx233_2⟩) (h:=fun hHeld => ?_); refine Qal w4_OpOwn.tab21 w4_OpOwn.bits21 (fun HT_ HW_ => ?_)
              generalize wr.drew = w95 at HO_7 BK202 BK205 HB hx228_0 hx228_1 hx228_2 hx233_0 hx233_1 hx233_2 hx228_0 hx228_1 hx228_2 hHeld ⊢
              refine pu HT_ 0 122 1 (h := ?_)
              refine pu HT_ 1 123 3 (h := ?_)
              refine pu HT_ 2 124 7 (h := ?_)
              refine pu HT_ 3 125 15 (h := ?_)
              refine pu HT_ 5 127 47 (h := ?_)
              refine tk HT_ HW_ hHeld 4 126 63 (h := ?_)
              refine tk HT_ HW_ hHeld 6 128 127 (h := ?_)
              refine pu HT_ 7 129 255 (h := ?_)
              refine pu HT_ 8 130 511 (h := ?_)
              refine off HT_ 9 131 1023 (h := ?_)
              refine off HT_ 10 132 2047 (h := ?_)
              refine off HT_ 11 133 4095 (h := ?_)
              refine off HT_ 12 134 8191 (h := ?_)
              refine off HT_ 13 135 16383 (h := ?_)
              refine off HT_ 14 136 32767 (h := ?_)
              refine off HT_ 15 137 65535 (h := ?_)
              refine off HT_ 16 138 131071 (h := ?_)
              refine pu HT_ 17 139 262143 (h := ?_)
              refine pu HT_ 18 140 524287 (h := ?_)
              refine pu HT_ 19 141 1048575 (h := ?_)
              refine pu HT_ 20 142 2097151 (h := ?_)
              refine pu HT_ 21 143 4194303 (h := ?_)
              refine pu HT_ 22 144 8388607 (h := ?_)
              refine pu HT_ 23 145 16777215 (h := ?_)
              refine pu HT_ 24 146 33554431 (h := ?_)
              refine pu HT_ 25 147 67108863 (h := ?_)
              refine pu HT_ 27 149 201326591 (h := ?_)
              refine pu HT_ 28 150 469762047 (h := ?_)
              refine pu HT_ 29 151 1006632959 (h := ?_)
              refine tk HT_ HW_ hHeld 26 148 1073741823 (h := ?_)
              refine tk HT_ HW_ hHeld 30 152 2147483647 (h := ?_)
              refine on HT_ 31 (some 153) 4294967295 (h:=fun K hK => ?_)
              refine goes_ Try.func24 (by kernel_rfl) rfl #[.agg #[.int .i64 ((Qaa t212 (ji91)).f0), .int .i64 ((Qaa t212 (ji91)).f1), .int .i64 ((Qaa t212 (ji91)).f2)], .agg #[.int .i64 ((Qaa t212 x12_5).f0), .int .i64 ((Qaa t212 x12_5).f1), .int .i64 ((Qaa t212 x12_5).f2)]] (by rfl) rfl rfl (by (try simp only [List.map_toArray,List.map_cons,List.map_nil]); first | done | (simp only [hji91]; rfl) | rfl | (simp only [List.length_drop,List.length_take]; rfl)) ?_
              with_reducible refine (op_Less.calls k5 ((Qaa t212 (ji91)).f0) ((Qaa t212 (ji91)).f1) ((Qaa t212 (ji91)).f2) ((Qaa t212 x12_5).f0) ((Qaa t212 x12_5).f1) ((Qaa t212 x12_5).f2) t235 _ A94.out).mono ?_
              rintro e w96 ⟨rfl,hb⟩
              have HS11_:=(hb.cell (World.block_lt_of_cell? _ _ (hHeld.2.2.2.2.2.2.2.2.2.2.2.1))).trans (hHeld.2.2.2.2.2.2.2.2.2.2.2.1)
              have HS12_:=(hb.cell (World.block_lt_of_cell? _ _ (hHeld.2.2.2.2.2.2.2.2.2.2.2.2.1))).trans (hHeld.2.2.2.2.2.2.2.2.2.2.2.2.1)
              have HS13_:=(hb.cell (World.block_lt_of_cell? _ _ (hHeld.2.2.2.2.2.2.2.2.2.2.2.2.2.1))).trans (hHeld.2.2.2.2.2.2.2.2.2.2.2.2.2.1)
              have HS14_:=(hb.cell (World.block_lt_of_cell? _ _ (hHeld.2.2.2.2.2.2.2.2.2.2.2.2.2.2.1))).trans (hHeld.2.2.2.2.2.2.2.2.2.2.2.2.2.2.1)
              have HS15_:=(hb.cell (World.block_lt_of_cell? _ _ (hHeld.2.2.2.2.2.2.2.2.2.2.2.2.2.2.2.1))).trans (hHeld.2.2.2.2.2.2.2.2.2.2.2.2.2.2.2.1)
              have HS16_:=(hb.cell (World.block_lt_of_cell? _ _ (hHeld.2.2.2.2.2.2.2.2.2.2.2.2.2.2.2.2))).trans (hHeld.2.2.2.2.2.2.2.2.2.2.2.2.2.2.2.2)
              have HS17_:=(hb.cell (World.block_lt_of_cell? _ _ (hHeld.2.2.2.2.2.2.2.2.2.2.2.1))).trans (hHeld.2.2.2.2.2.2.2.2.2.2.2.1)
              have HS18_:=(hb.cell (World.block_lt_of_cell? _ _ (hHeld.2.2.2.2.2.2.2.2.2.2.2.2.1))).trans (hHeld.2.2.2.2.2.2.2.2.2.2.2.2.1)
              have HS19_:=(hb.cell (World.block_lt_of_cell? _ _ (hHeld.2.2.2.2.2.2.2.2.2.2.2.2.2.1))).trans (hHeld.2.2.2.2.2.2.2.2.2.2.2.2.2.1)
              refine ⟨_,rfl, ?_⟩
              have n0_:=rb HO_7 hb
              have n1_:=bl BK202 hb
              have n2_:=bl BK205 hb
              have n3_:=bs HB hb
              clear HO_7
              clear BK202
              clear BK205
              clear HB
              have HO_7:=n0_
              have BK202:=n1_
              have BK205:=n2_
              have HB:=n3_
              clear n0_ n1_ n2_ n3_
              (try clear hb)
              (try clear hb2)
              (try clear hk)
              (try clear hi)
              refine hK.out _ _ (b11 BK205 ⟨HS11_,HS12_,HS13_,HS14_,HS15_,HS16_⟩) (fun hHeld => ?_)
              clear hK K
              refine nn 153 (h := ?_)
              refine pu HT_ 32 154 8589934591 (h := ?_)
              refine pu HT_ 33 155 17179869183 (h := ?_)
              refine pu HT_ 34 156 34359738367 (h := ?_)
              refine dn HT_ (h := ?_)
              try go_wp2
              go_meet
              case rel => exact ⟨_,(!t235),rf,H',⟨by have:=HK1.out; have:=HJ9.out; have:=HJ21.out; have:=HK4.out; have:=HK5.out; first | omega | exact Nat.le_refl _⟩,⟨rk HO_7⟩,⟨kk BK202⟩,⟨kk BK205⟩,⟨bw HB⟩⟩⟩ : Nonempty G_)) :); w4_OpOwn.bxo (G:=G_) (inferInstanceAs (Nonempty G_)))⟩ : Nonempty G_)) :); w4_OpOwn.bxo (G:=G_) (inferInstanceAs (Nonempty G_)))⟩ : Nonempty G_)) :); w4_OpOwn.bxo (G:=G_) (inferInstanceAs (Nonempty G_)))
             show (let G_ : Prop:=_; G_)
             intro G_
             exact (let_tmp i_ : Nonempty G_:=(((⟨by
             subst G_
             rw [if_pos c79] at H
             obtain ⟨c79b0,c79b1⟩:=bT c79
             clear c79
             by_cases c80 : ((Qaa t212 x12_5).f1) = ((Qab l0_0 x3_1).f1)
             ·show (let G_ : Prop:=_; G_)
              intro G_
              exact (let_tmp i_ : Nonempty G_:=(((⟨by
              subst G_
              rw [if_pos c80] at H
              obtain ⟨c80b0,c80b1⟩:=bT c80
              clear c80
              have H':=Zz.k H
              clear H
              try go_wp2
              have n0_:=Zz.k (Kd.R_drew HO_7.out)
              have n1_:=Zz.k (Qag BK202.out)
              have n2_:=Zz.k (Qag BK205.out)
              have n3_:=Zz.k (Qah HB.out)
              clear HO_7
              clear BK202
              clear BK205
              clear HB
              have HO_7:=n0_
              have BK202:=n1_
              have BK205:=n2_
              have HB:=n3_
              clear n0_ n1_ n2_ n3_
              have p228 : 0 <= (x12_5 : Int):=od
              have q228 : x12_5 < (t212.length : Int):=od
              obtain ⟨ad228,e228,hx228_0,hx228_1,hx228_2⟩:=Qap (Kd.R_reads' HO_7.out).2.2 x12_5 p228 q228
              cases e228
              replace p228:=eq_true p228
              replace q228:=eq_true q228
              refine stP (fun w' => B11 w' gb205 (.int .i64 ((Qab l0_0 x3_1).f0)) (.int .i64 ((Qab l0_0 x3_1).f1)) (.int .i64 ((Qab l0_0 x3_1).f2)) (.int .i64 ((Qab l0_0 x3_1).f3.f0)) (.int .i64 ((Qab l0_0 x3_1).f3.f1)) (.int .i64 ((Qab l0_0 x3_1).f3.f2)) (.string ((Qab l0_0 x3_1).f4)) (.slice A204_7 ((Qab l0_0 x3_1).f5).length c204_7) (.int .i64 ((Qab l0_0 x3_1).f6)) (.int .i64 ((Qab l0_0 x3_1).f7)) (.int .i64 ((Qab l0_0 x3_1).f8)) (w'.cell? (ad228.add ((x12_5).toNat * 3)) = some (.int .i64 ((Qaa t212 x12_5).f0)) /\ w'.cell? ⟨(ad228.add ((x12_5).toNat * 3)).block,(ad228.add ((x12_5).toNat * 3)).off + 1,none⟩ = some (.int .i64 ((Qaa t212 x12_5).f1)) /\ w'.cell? ⟨(ad228.add ((x12_5).toNat * 3)).block,(ad228.add ((x12_5).toNat * 3)).off + 2,none⟩ = some (.int .i64 ((Qaa t212 x12_5).f2)))) 35 (b11 BK205 ⟨hx228_0,hx228_1,hx228_2⟩) (h:=fun hHeld => ?_); refine Qal w4_OpOwn.tab21 w4_OpOwn.bits21 (fun HT_ HW_ => ?_)
              generalize wr.drew = w81 at HO_7 BK202 BK205 HB hx228_0 hx228_1 hx228_2 hx228_0 hx228_1 hx228_2 hHeld ⊢
              refine pu HT_ 0 122 1 (h := ?_)
              refine pu HT_ 1 123 3 (h := ?_)
              refine pu HT_ 2 124 7 (h := ?_)
              refine pu HT_ 3 125 15 (h := ?_)
              refine pu HT_ 5 127 47 (h := ?_)
              refine tk HT_ HW_ hHeld 4 126 63 (h := ?_)
              refine tk HT_ HW_ hHeld 6 128 127 (h := ?_)
              refine pu HT_ 7 129 255 (h := ?_)
              refine pu HT_ 8 130 511 (h := ?_)
              refine pu HT_ 9 131 1023 (h := ?_)
              refine pu HT_ 10 132 2047 (h := ?_)
              refine pu HT_ 11 133 4095 (h := ?_)
              refine pu HT_ 12 134 8191 (h := ?_)
              refine pu HT_ 14 136 24575 (h := ?_)
              refine tk HT_ HW_ hHeld 13 135 32767 (h := ?_)
              refine tk HT_ HW_ hHeld 15 137 65535 (h := ?_)
              refine pu HT_ 16 138 131071 (h := ?_)
              refine pu HT_ 17 139 262143 (h := ?_)
              refine pu HT_ 18 140 524287 (h := ?_)
              refine off HT_ 19 141 1048575 (h := ?_)
              refine off HT_ 20 142 2097151 (h := ?_)
              refine off HT_ 21 143 4194303 (h := ?_)
              refine off HT_ 22 144 8388607 (h := ?_)
              refine off HT_ 23 145 16777215 (h := ?_)
              refine off HT_ 24 146 33554431 (h := ?_)
              refine off HT_ 25 147 67108863 (h := ?_)
              refine off HT_ 26 148 134217727 (h := ?_)
              refine off HT_ 27 149 268435455 (h := ?_)
              refine off HT_ 28 150 536870911 (h := ?_)
              refine off HT_ 29 151 1073741823 (h := ?_)
              refine off HT_ 30 152 2147483647 (h := ?_)
              refine off HT_ 31 153 4294967295 (h := ?_)
              refine off HT_ 32 154 8589934591 (h := ?_)
              refine off HT_ 33 155 17179869183 (h := ?_)
              refine pu HT_ 34 156 34359738367 (h := ?_)
              refine dn HT_ (h := ?_)
              try go_wp2
              go_meet
              case rel => exact ⟨_,(true),rf,H',⟨by have:=HK1.out; have:=HJ9.out; have:=HJ21.out; have:=HK4.out; have:=HK5.out; first | omega | exact Nat.le_refl _⟩,⟨rk HO_7⟩,⟨kk BK202⟩,⟨kk BK205⟩,⟨bw HB⟩⟩⟩ : Nonempty G_)) :); w4_OpOwn.bxo (G:=G_) (inferInstanceAs (Nonempty G_)))
             rw [if_neg c80] at H
             obtain ⟨c80b0,c80b1⟩:=bF c80
             by_cases c82 : x12_5 > 0; rotate_left
             ·rw [if_neg c82] at H
              have c82b0:=Ze c82
              clear c82
              have H':=Zz.k H
              clear H
              try go_wp2
              have n0_:=Zz.k (Kd.R_drew HO_7.out)
              have n1_:=Zz.k (Qag BK202.out)
              have n2_:=Zz.k (Qag BK205.out)
              have n3_:=Zz.k (Qah HB.out)
              clear HO_7
              clear BK202
              clear BK205
              clear HB
              have HO_7:=n0_
              have BK202:=n1_
              have BK205:=n2_
              have HB:=n3_
              clear n0_ n1_ n2_ n3_
              have p228 : 0 <= (x12_5 : Int):=od
              have q228 : x12_5 < (t212.length : Int):=od
              obtain ⟨ad228,e228,hx228_0,hx228_1,hx228_2⟩:=Qap (Kd.R_reads' HO_7.out).2.2 x12_5 p228 q228
              cases e228
              replace p228:=eq_true p228
              replace q228:=eq_true q228
              refine stP (fun w' => B11 w' gb205 (.int .i64 ((Qab l0_0 x3_1).f0)) (.int .i64 ((Qab l0_0 x3_1).f1)) (.int .i64 ((Qab l0_0 x3_1).f2)) (.int .i64 ((Qab l0_0 x3_1).f3.f0)) (.int .i64 ((Qab l0_0 x3_1).f3.f1)) (.int .i64 ((Qab l0_0 x3_1).f3.f2)) (.string ((Qab l0_0 x3_1).f4)) (.slice A204_7 ((Qab l0_0 x3_1).f5).length c204_7) (.int .i64 ((Qab l0_0 x3_1).f6)) (.int .i64 ((Qab l0_0 x3_1).f7)) (.int .i64 ((Qab l0_0 x3_1).f8)) (w'.cell? (ad228.add ((x12_5).toNat * 3)) = some (.int .i64 ((Qaa t212 x12_5).f0)) /\ w'.cell? ⟨(ad228.add ((x12_5).toNat * 3)).block,(ad228.add ((x12_5).toNat * 3)).off + 1,none⟩ = some (.int .i64 ((Qaa t212 x12_5).f1)) /\ w'.cell? ⟨(ad228.add ((x12_5).toNat * 3)).block,(ad228.add ((x12_5).toNat * 3)).off + 2,none⟩ = some (.int .i64 ((Qaa t212 x12_5).f2)))) 35 (b11 BK205 ⟨hx228_0,hx228_1,hx228_2⟩) (h:=fun hHeld => ?_); refine Qal w4_OpOwn.tab21 w4_OpOwn.bits21 (fun HT_ HW_ => ?_)
              generalize wr.drew = w89 at HO_7 BK202 BK205 HB hx228_0 hx228_1 hx228_2 hx228_0 hx228_1 hx228_2 hHeld ⊢
              refine pu HT_ 0 122 1 (h := ?_)
              refine pu HT_ 1 123 3 (h := ?_)
              refine pu HT_ 2 124 7 (h := ?_)
              refine pu HT_ 3 125 15 (h := ?_)
              refine pu HT_ 5 127 47 (h := ?_)
              refine tk HT_ HW_ hHeld 4 126 63 (h := ?_)
              refine tk HT_ HW_ hHeld 6 128 127 (h := ?_)
              refine pu HT_ 7 129 255 (h := ?_)
              refine pu HT_ 8 130 511 (h := ?_)
              refine pu HT_ 9 131 1023 (h := ?_)
              refine pu HT_ 10 132 2047 (h := ?_)
              refine pu HT_ 11 133 4095 (h := ?_)
              refine pu HT_ 12 134 8191 (h := ?_)
              refine pu HT_ 14 136 24575 (h := ?_)
              refine tk HT_ HW_ hHeld 13 135 32767 (h := ?_)
              refine tk HT_ HW_ hHeld 15 137 65535 (h := ?_)
              refine pu HT_ 16 138 131071 (h := ?_)
              refine pu HT_ 17 139 262143 (h := ?_)
              refine pu HT_ 18 140 524287 (h := ?_)
              refine pu HT_ 19 141 1048575 (h := ?_)
              refine pu HT_ 20 142 2097151 (h := ?_)
              refine pu HT_ 21 143 4194303 (h := ?_)
              refine off HT_ 22 144 8388607 (h := ?_)
              refine off HT_ 23 145 16777215 (h := ?_)
              refine off HT_ 24 146 33554431 (h := ?_)
              refine off HT_ 25 147 67108863 (h := ?_)
              refine off HT_ 26 148 134217727 (h := ?_)
              refine off HT_ 27 149 268435455 (h := ?_)
              refine off HT_ 28 150 536870911 (h := ?_)
              refine off HT_ 29 151 1073741823 (h := ?_)
              refine off HT_ 30 152 2147483647 (h := ?_)
              refine off HT_ 31 153 4294967295 (h := ?_)
              refine off HT_ 32 154 8589934591 (h := ?_)
              refine pu HT_ 33 155 17179869183 (h := ?_)
              refine pu HT_ 34 156 34359738367 (h := ?_)
              refine dn HT_ (h := ?_)
              try go_wp2
              go_meet
              case rel => exact ⟨_,(false),rf,H',⟨by have:=HK1.out; have:=HJ9.out; have:=HJ21.out; have:=HK4.out; have:=HK5.out; first | omega | exact Nat.le_refl _⟩,⟨rk HO_7⟩,⟨kk BK202⟩,⟨kk BK205⟩,⟨bw HB⟩⟩
             show (let G_ : Prop:=_; G_)
             intro G_
             exact (let_tmp i_ : Nonempty G_:=(((⟨by
             subst G_
             rw [if_pos c82] at H
             have c82b0:=Zd c82
             clear c82
             obtain ⟨ji83,hji83⟩ : ∃ j_ : Int,(wrap64 (x12_5 - 1)) = j_:=⟨_,rfl⟩
             replace H : (if 0 <= (ji83) then (if (ji83) < (t212.length : Int) then ((op_Less.f k5 ((Qaa t212 (ji83)).f0) ((Qaa t212 (ji83)).f1) ((Qaa t212 (ji83)).f2) ((Qaa t212 x12_5).f0) ((Qaa t212 x12_5).f1) ((Qaa t212 x12_5).f2)).bind fun t232 => (w4_OpOwn.j6 k5 x3_1 t212 x12_5 (!t232) l0_0 l0_1 l0_2 ((Qab l0_0 x3_1).f0) ((Qab l0_0 x3_1).f1) ((Qab l0_0 x3_1).f2) ((Qab l0_0 x3_1).f3.f0) ((Qab l0_0 x3_1).f3.f1) ((Qab l0_0 x3_1).f3.f2) ((Qab l0_0 x3_1).f4) ((Qab l0_0 x3_1).f5) ((Qab l0_0 x3_1).f6) ((Qab l0_0 x3_1).f7) ((Qab l0_0 x3_1).f8))) else (none)) else (none)) = some r:=by first | (rw [hji83] at H; exact H) | (simp only [hji83] at H ⊢; exact H)
             have hji83w : (IntKind.i64.wrap (x12_5 - 1)) = ji83:=(i64_w _).trans hji83
             by_cases c84 : 0 <= (ji83); rotate_left
             ·rw [if_neg c84] at H
              exact absurd H (by simp)
             show (let G_ : Prop:=_; G_)
             intro G_
             exact (let_tmp i_ : Nonempty G_:=(((⟨by
             subst G_
             rw [if_pos c84] at H
             have c84b0:=Zd c84
             clear c84
             by_cases c85 : (ji83) < (t212.length : Int); rotate_left
             ·rw [if_neg c85] at H
              exact absurd H (by simp)
             show (let G_ : Prop:=_; G_)
             intro G_
             exact (let_tmp i_ : Nonempty G_:=(((⟨by
             subst G_
             rw [if_pos c85] at H
             have c85b0:=Zd c85
             clear c85
             obtain ⟨t232,A86,H⟩:=bE H
             have H':=Zz.k H
             clear H
             try go_wp2
             have n0_:=Zz.k (Kd.R_drew HO_7.out)
             have n1_:=Zz.k (Qag BK202.out)
             have n2_:=Zz.k (Qag BK205.out)
             have n3_:=Zz.k (Qah HB.out)
             clear HO_7
             clear BK202
             clear BK205
             clear HB
             have HO_7:=n0_
             have BK202:=n1_
             have BK205:=n2_
             have HB:=n3_
             clear n0_ n1_ n2_ n3_
             have p228 : 0 <= (x12_5 : Int):=od
             have q228 : x12_5 < (t212.length : Int):=od
             obtain ⟨ad228,e228,hx228_0,hx228_1,hx228_2⟩:=Qap (Kd.R_reads' HO_7.out).2.2 x12_5 p228 q228
             cases e228
             replace p228:=eq_true p228
             replace q228:=eq_true q228
             have p230 : 0 <= ((ji83) : Int):=od
             have q230 : (ji83) < (t212.length : Int):=od
             obtain ⟨ad230,e230,hx230_0,hx230_1,hx230_2⟩:=Qap (Kd.R_reads' HO_7.out).2.2 (ji83) p230 q230
             obtain rfl : ad228 = ad230:=(by injection e230)
             replace p230:=eq_true p230
             replace q230:=eq_true q230
             refine stP (fun w' => B11 w' gb205 (.int .i64 ((Qab l0_0 x3_1).f0)) (.int .i64 ((Qab l0_0 x3_1).f1)) (.int .i64 ((Qab l0_0 x3_1).f2)) (.int .i64 ((Qab l0_0 x3_1).f3.f0)) (.int .i64 ((Qab l0_0 x3_1).f3.f1)) (.int .i64 ((Qab l0_0 x3_1).f3.f2)) (.string ((Qab l0_0 x3_1).f4)) (.slice A204_7 ((Qab l0_0 x3_1).f5).length c204_7) (.int .i64 ((Qab l0_0 x3_1).f6)) (.int .i64 ((Qab l0_0 x3_1).f7)) (.int .i64 ((Qab l0_0 x3_1).f8)) (w'.cell? (ad228.add ((x12_5).toNat * 3)) = some (.int .i64 ((Qaa t212 x12_5).f0)) /\ w'.cell? ⟨(ad228.add ((x12_5).toNat * 3)).block,(ad228.add ((x12_5).toNat * 3)).off + 1,none⟩ = some (.int .i64 ((Qaa t212 x12_5).f1)) /\ w'.cell? ⟨(ad228.add ((x12_5).toNat * 3)).block,(ad228.add ((x12_5).toNat * 3)).off + 2,none⟩ = some (.int .i64 ((Qaa t212 x12_5).f2)) /\ w'.cell? (ad228.add (((ji83)).toNat * 3)) = some (.int .i64 ((Qaa t212 (ji83)).f0)) /\ w'.cell? ⟨(ad228.add (((ji83)).toNat * 3)).block,(ad228.add (((ji83)).toNat * 3)).off + 1,none⟩ = some (.int .i64 ((Qaa t212 (ji83)).f1)) /\ w'.cell? ⟨(ad228.add (((ji83)).toNat * 3)).block,(ad228.add (((ji83)).toNat * 3)).off + 2,none⟩ = some (.int .i64 ((Qaa t212 (ji83)).f2)))) 35 (b11 BK205 ⟨hx228_0,hx228_1,hx228_2,hx230_0,hx230_1,hx230_2⟩) (h:=fun hHeld => ?_); refine Qal w4_OpOwn.tab21 w4_OpOwn.bits21 (fun HT_ HW_ => ?_)
             generalize wr.drew = w87 at HO_7 BK202 BK205 HB hx228_0 hx228_1 hx228_2 hx228_0 hx228_1 hx228_2 hx230_0 hx230_1 hx230_2 hx228_0 hx228_1 hx228_2 hHeld ⊢
             refine pu HT_ 0 122 1 (h := ?_)
             refine pu HT_ 1 123 3 (h := ?_)
             refine pu HT_ 2 124 7 (h := ?_)
             refine pu HT_ 3 125 15 (h := ?_)
             refine pu HT_ 5 127 47 (h := ?_)
             refine tk HT_ HW_ hHeld 4 126 63 (h := ?_)
             refine tk HT_ HW_ hHeld 6 128 127 (h := ?_)
             refine pu HT_ 7 129 255 (h := ?_)
             refine pu HT_ 8 130 511 (h := ?_)
             refine pu HT_ 9 131 1023 (h := ?_)
             refine pu HT_ 10 132 2047 (h := ?_)
             refine pu HT_ 11 133 4095 (h := ?_)
             refine pu HT_ 12 134 8191 (h := ?_)
             refine pu HT_ 14 136 24575 (h := ?_)
             refine tk HT_ HW_ hHeld 13 135 32767 (h := ?_)
             refine tk HT_ HW_ hHeld 15 137 65535 (h := ?_)
             refine pu HT_ 16 138 131071 (h := ?_)
             refine pu HT_ 17 139 262143 (h := ?_)
             refine pu HT_ 18 140 524287 (h := ?_)
             refine pu HT_ 19 141 1048575 (h := ?_)
             refine pu HT_ 20 142 2097151 (h := ?_)
             refine pu HT_ 21 143 4194303 (h := ?_)
             refine pu HT_ 22 144 8388607 (h := ?_)
             refine pu HT_ 23 145 16777215 (h := ?_)
             refine pu HT_ 24 146 33554431 (h := ?_)
             refine pu HT_ 25 147 67108863 (h := ?_)
             refine pu HT_ 27 149 201326591 (h := ?_)
             refine pu HT_ 28 150 469762047 (h := ?_)
             refine pu HT_ 29 151 1006632959 (h := ?_)
             refine tk HT_ HW_ hHeld 26 148 1073741823 (h := ?_)
             refine tk HT_ HW_ hHeld 30 152 2147483647 (h := ?_)
             refine on HT_ 31 (some 153) 4294967295 (h:=fun K hK => ?_)
             refine goes_ Try.func24 (by kernel_rfl) rfl #[.agg #[.int .i64 ((Qaa t212 (ji83)).f0), .int .i64 ((Qaa t212 (ji83)).f1), .int .i64 ((Qaa t212 (ji83)).f2)], .agg #[.int .i64 ((Qaa t212 x12_5).f0), .int .i64 ((Qaa t212 x12_5).f1), .int .i64 ((Qaa t212 x12_5).f2)]] (by rfl) rfl rfl (by (try simp only [List.map_toArray,List.map_cons,List.map_nil]); first | done | (simp only [hji83]; rfl) | rfl | (simp only [List.length_drop,List.length_take]; rfl)) ?_
             with_reducible refine (op_Less.calls k5 ((Qaa t212 (ji83)).f0) ((Qaa t212 (ji83)).f1) ((Qaa t212 (ji83)).f2) ((Qaa t212 x12_5).f0) ((Qaa t212 x12_5).f1) ((Qaa t212 x12_5).f2) t232 _ A86.out).mono ?_
             rintro e w88 ⟨rfl,hb⟩
             have HS11_:=(hb.cell (World.block_lt_of_cell? _ _ (hHeld.2.2.2.2.2.2.2.2.2.2.2.1))).trans (hHeld.2.2.2.2.2.2.2.2.2.2.2.1)
             have HS12_:=(hb.cell (World.block_lt_of_cell? _ _ (hHeld.2.2.2.2.2.2.2.2.2.2.2.2.1))).trans (hHeld.2.2.2.2.2.2.2.2.2.2.2.2.1)
             have HS13_:=(hb.cell (World.block_lt_of_cell? _ _ (hHeld.2.2.2.2.2.2.2.2.2.2.2.2.2.1))).trans (hHeld.2.2.2.2.2.2.2.2.2.2.2.2.2.1)
             have HS14_:=(hb.cell (World.block_lt_of_cell? _ _ (hHeld.2.2.2.2.2.2.2.2.2.2.2.1))).trans (hHeld.2.2.2.2.2.2.2.2.2.2.2.1)
             have HS15_:=(hb.cell (World.block_lt_of_cell? _ _ (hHeld.2.2.2.2.2.2.2.2.2.2.2.2.1))).trans (hHeld.2.2.2.2.2.2.2.2.2.2.2.2.1)
             have HS16_:=(hb.cell (World.block_lt_of_cell? _ _ (hHeld.2.2.2.2.2.2.2.2.2.2.2.2.2.1))).trans (hHeld.2.2.2.2.2.2.2.2.2.2.2.2.2.1)
             have HS17_:=(hb.cell (World.block_lt_of_cell? _ _ (hHeld.2.2.2.2.2.2.2.2.2.2.2.2.2.2.1))).trans (hHeld.2.2.2.2.2.2.2.2.2.2.2.2.2.2.1)
             have HS18_:=(hb.cell (World.block_lt_of_cell? _ _ (hHeld.2.2.2.2.2.2.2.2.2.2.2.2.2.2.2.1))).trans (hHeld.2.2.2.2.2.2.2.2.2.2.2.2.2.2.2.1)
             have HS19_:=(hb.cell (World.block_lt_of_cell? _ _ (hHeld.2.2.2.2.2.2.2.2.2.2.2.2.2.2.2.2))).trans (hHeld.2.2.2.2.2.2.2.2.2.2.2.2.2.2.2.2)
             have HS20_:=(hb.cell (World.block_lt_of_cell? _ _ (hHeld.2.2.2.2.2.2.2.2.2.2.2.1))).trans (hHeld.2.2.2.2.2.2.2.2.2.2.2.1)
             have HS21_:=(hb.cell (World.block_lt_of_cell? _ _ (hHeld.2.2.2.2.2.2.2.2.2.2.2.2.1))).trans (hHeld.2.2.2.2.2.2.2.2.2.2.2.2.1)
             have HS22_:=(hb.cell (World.block_lt_of_cell? _ _ (hHeld.2.2.2.2.2.2.2.2.2.2.2.2.2.1))).trans (hHeld.2.2.2.2.2.2.2.2.2.2.2.2.2.1)
             refine ⟨_,rfl, ?_⟩
             have n0_:=rb HO_7 hb
             have n1_:=bl BK202 hb
             have n2_:=bl BK205 hb
             have n3_:=bs HB hb
             clear HO_7
             clear BK202
             clear BK205
             clear HB
             have HO_7:=n0_
             have BK202:=n1_
             have BK205:=n2_
             have HB:=n3_
             clear n0_ n1_ n2_ n3_
             (try clear hb)
             (try clear hb2)
             (try clear hk)
             (try clear hi)
             refine hK.out _ _ (b11 BK205 ⟨HS11_,HS12_,HS13_,HS17_,HS18_,HS19_⟩) (fun hHeld => ?_)
             clear hK K
             refine nn 153 (h := ?_)
             refine pu HT_ 32 154 8589934591 (h := ?_)
             refine pu HT_ 33 155 17179869183 (h := ?_)
             refine pu HT_ 34 156 34359738367 (h := ?_)
             refine dn HT_ (h := ?_)
             try go_wp2
             go_meet
             case rel => exact ⟨_,(!t232),rf,H',⟨by have:=HK1.out; have:=HJ9.out; have:=HJ21.out; have:=HK4.out; have:=HK5.out; first | omega | exact Nat.le_refl _⟩,⟨rk HO_7⟩,⟨kk BK202⟩,⟨kk BK205⟩,⟨bw HB⟩⟩⟩ : Nonempty G_)) :); w4_OpOwn.bxo (G:=G_) (inferInstanceAs (Nonempty G_)))⟩ : Nonempty G_)) :); w4_OpOwn.bxo (G:=G_) (inferInstanceAs (Nonempty G_)))⟩ : Nonempty G_)) :); w4_OpOwn.bxo (G:=G_) (inferInstanceAs (Nonempty G_)))⟩ : Nonempty G_)) :); w4_OpOwn.bxo (G:=G_) (inferInstanceAs (Nonempty G_)))⟩ : Nonempty G_)) :); w4_OpOwn.bxo (G:=G_) (inferInstanceAs (Nonempty G_)))
            case rest =>
             show (let G_ : Prop:=_; G_)
             intro G_
             exact (let_tmp i_ : Nonempty G_:=(((⟨by
             subst G_
             clear HC76
             obtain ⟨kq,x156_75,rfl,HA,HJ75,HO_7,BK202,BK205,HB⟩:=hcut
             cases kq with
             | zero => exact absurd HA.out (by simp [w4_OpOwn.j6])
             | succ kj75 =>
              have H:=HA.out
              clear HA
              simp only [w4_OpOwn.j6] at H
              by_cases c98 : x156_75 = true
              ·show (let G_ : Prop:=_; G_)
               intro G_
               exact (let_tmp i_ : Nonempty G_:=(((⟨by
               subst G_
               subst c98
               rw [if_pos rfl] at H
               obtain rfl:=Zo H
               go_wp2
               go_ret
               exact ⟨re,bw HB⟩⟩ : Nonempty G_)) :); w4_OpOwn.bxo (G:=G_) (inferInstanceAs (Nonempty G_)))
              replace c98:=Zf c98
              subst c98
              rw [if_neg nft] at H
              have H':=Zz.k H
              clear H
              go_wp2
              go_roundg kj75
              case measure => have:=HK1.out; have:=HJ9.out; have:=HJ21.out; have:=HK4.out; have:=HK5.out; have:=HJ75.out; omega
              case rel => exact ⟨(wrap64 (x12_5 + 1)),rf,H',⟨by have:=HK1.out; have:=HJ9.out; have:=HJ21.out; have:=HK4.out; have:=HK5.out; have:=HJ75.out; omega⟩,⟨rk HO_7⟩,⟨kk BK202⟩,⟨kk BK205⟩,⟨bw HB⟩⟩⟩ : Nonempty G_)) :); w4_OpOwn.bxo (G:=G_) (inferInstanceAs (Nonempty G_)))⟩ : Nonempty G_)) :); w4_OpOwn.bxo (G:=G_) (inferInstanceAs (Nonempty G_)))⟩ : Nonempty G_)) :); w4_OpOwn.bxo (G:=G_) (inferInstanceAs (Nonempty G_)))
         show (let G_ : Prop:=_; G_)
         intro G_
         exact (let_tmp i_ : Nonempty G_:=(((⟨by
         subst G_
         rw [if_pos c38] at H
         have c38b0:=Zd c38
         clear c38
         obtain ⟨⟨t218,t219,t220,t221⟩,A39,H⟩:=bE H
         try dsimp only at H
         have HC40:=Zz.k H
         clear H
         obtain ⟨Ao41,co41,eo41⟩:=Kd.R_slice HO_5.out
         subst eo41
         have hnb42:=NB205_202.out
         have hnc42:=NB202_205.out
         obtain ⟨_,_,_,_,_,_,_,_,_,_,_,_,_,_,_,_,_,_,_,_,_,_⟩:=kc11 BK205
         go_upto_region 16 with (first | ((with_reducible refine Qac (f:=23) rfl ?_); refine gl (some 71) Try.func23 #[.agg #[.int .i64 ((Qab l0_0 x3_1).f0), .int .i64 ((Qab l0_0 x3_1).f1), .int .i64 ((Qab l0_0 x3_1).f2), .int .i64 ((Qab l0_0 x3_1).f3.f0), .int .i64 ((Qab l0_0 x3_1).f3.f1), .int .i64 ((Qab l0_0 x3_1).f3.f2), .string ((Qab l0_0 x3_1).f4), .slice A204_7 ((Qab l0_0 x3_1).f5).length c204_7, .int .i64 ((Qab l0_0 x3_1).f6), .int .i64 ((Qab l0_0 x3_1).f7), .int .i64 ((Qab l0_0 x3_1).f8)], .int .i64 x9_4] (h := ?_); (with_reducible refine (op_Own.calls k4 ((Qab l0_0 x3_1).f0) ((Qab l0_0 x3_1).f1) ((Qab l0_0 x3_1).f2) ((Qab l0_0 x3_1).f3.f0) ((Qab l0_0 x3_1).f3.f1) ((Qab l0_0 x3_1).f3.f2) ((Qab l0_0 x3_1).f4) _ _ ((Qab l0_0 x3_1).f5) ((Qab l0_0 x3_1).f6) ((Qab l0_0 x3_1).f7) ((Qab l0_0 x3_1).f8) x9_4 t218 t219 t220 t221 _ ?side1 ?side2 A39.out).mono ?_); (case side1 => exact cb HR204_7 HB); (case side2 => exact HC204_7.out); rintro e w44 ⟨rfl,hb⟩; refine ⟨_,rfl, ?_⟩; replace HO_5:=rb HO_5 hb; replace HO_7:=rb HO_7 hb; replace BK202:=bl BK202 hb; replace BK205:=bl BK205 hb; replace HB:=bs HB hb; clear hb) | ((with_reducible refine Qad (N:=10) rfl ?_); (try (refine Qai (by rfl) ?_; dsimp only)); refine bx 10 #[.int .i64 0, .int .i64 0, .int .i64 0] 36 (h := ?_); intro gb222 hg w45 hbox hb; have BK222:=Zz.k (hbox); have GW222:=bz HB hg; have GE222:=bz HB hg; have NB202_222:=bn BK202 hg; have NB222_202:=bm BK202 hg; have NB205_222:=bn BK205 hg; have NB222_205:=bm BK205 hg; replace HO_5:=Zz.k (Kd.R_below (Kd.R_elderB (rk HO_5) gb222 (Nat.le_of_eq hg.symm)) hb); replace HO_7:=Zz.k (Kd.R_below (Kd.R_elderB (rk HO_7) gb222 (Nat.le_of_eq hg.symm)) hb); replace BK202:=bl BK202 hb; replace BK205:=bl BK205 hb; replace HB:=bs HB hb; clear hb hbox hg; have hnb46:=NB222_202.out; have hnc46:=NB202_222.out; have hnb47:=NB222_205.out; have hnc47:=NB205_222.out; obtain ⟨_,_,_,_,_,_⟩:=kc3 BK222))
         (try simp only [Act.put,List.setIfInBounds_toArray,List.set_cons_zero,List.set_cons_succ])
         go_cut [115] (fun v115 wc => ∃ (kq : Nat) (x115_39 : Bool),v115 = .bool x115_39 /\ Zz (w4_OpOwn.j4 kq x3_1 t208 t212 x9_4 x115_39 l0_0 l0_1 l0_2 ((Qab l0_0 x3_1).f0) ((Qab l0_0 x3_1).f1) ((Qab l0_0 x3_1).f2) ((Qab l0_0 x3_1).f3.f0) ((Qab l0_0 x3_1).f3.f1) ((Qab l0_0 x3_1).f3.f2) ((Qab l0_0 x3_1).f4) ((Qab l0_0 x3_1).f5) ((Qab l0_0 x3_1).f6) ((Qab l0_0 x3_1).f7) ((Qab l0_0 x3_1).f8) = some r) /\ Zz (kq <= k4) /\ Zz (Kd.R Qao 36 wc w.heap.size (fun k_ => some k_ ≠ (v213 : Value).ownBlock /\ k_ ≠ gb222) (.slice Ao41 t208.length co41) t208) /\ Zz (Kd.R Qao 36 wc w.heap.size (fun k_ => some k_ ≠ ((.slice Ao41 t208.length co41) : Value).ownBlock /\ k_ ≠ gb222) v213 t212) /\ Zz (wc.heap[gb202]? = some (.cells #[(.slice (some ad204) l0_0.length c0_0),(.slice A0_1 l0_1.length c0_1),(.slice A0_2 l0_2.length c0_2)] 51 (0,0))) /\ Zz (wc.heap[gb205]? = some (.cells #[.int .i64 ((Qab l0_0 x3_1).f0), .int .i64 ((Qab l0_0 x3_1).f1), .int .i64 ((Qab l0_0 x3_1).f2), .int .i64 ((Qab l0_0 x3_1).f3.f0), .int .i64 ((Qab l0_0 x3_1).f3.f1), .int .i64 ((Qab l0_0 x3_1).f3.f2), .string ((Qab l0_0 x3_1).f4),(.slice A204_7 ((Qab l0_0 x3_1).f5).length c204_7), .int .i64 ((Qab l0_0 x3_1).f6), .int .i64 ((Qab l0_0 x3_1).f7), .int .i64 ((Qab l0_0 x3_1).f8)] 38 (0,0))) /\ Zz (wc.heap[gb222]? = some (.cells #[.int .i64 t218, .int .i64 t219, .int .i64 t220] 36 (0,0))) /\ Zz (Below w.heap.size w wc))
         case first =>
          have H:=HC40.out
          clear HC40
          obtain ⟨t223,A49,H⟩:=bE H
          by_cases c50 : t223 = 0; rotate_left
          ·rw [if_neg c50] at H
           obtain ⟨c50b0,c50b1⟩:=bF c50
           (first | rw [c50b0] | (simp only [i64_w,i32_w]; rw [c50b0]) | skip)
           have H':=Zz.k H
           clear H
           try go_wp2
           generalize hgz : (((w45.setCell ⟨gb222,0,none⟩ (.int .i64 t218)).setCell ⟨gb222,1,none⟩ (.int .i64 t219)).setCell ⟨gb222,2,none⟩ (.int .i64 t220)) = w71
           have n0_ : Zz (Kd.R Qao 36 w71 w.heap.size (fun k_ => some k_ ≠ (v213 : Value).ownBlock /\ k_ ≠ gb222) (.slice Ao41 t208.length co41) t208):=by rw [<- hgz]; exact ⟨by (with_reducible repeat (first | apply Kd.R_alloc | apply Kd.R_drewN | apply Kd.R_drew)); exact Kd.R_mono (Kd.R_far (p:=⟨gb222,2,none⟩) (Kd.R_far (p:=⟨gb222,1,none⟩) (Kd.R_far (p:=⟨gb222,0,none⟩) (Kd.R_mono HO_5.out (fun k_ hk => (⟨hk,hk.2⟩ : _ /\ k_ ≠ gb222))) (fun _ hk => hk.2) (.int .i64 t218)) (fun _ hk => hk.2) (.int .i64 t219)) (fun _ hk => hk.2) (.int .i64 t220)) (fun _ hk => ⟨hk.1.1,hk.1.2⟩)⟩
           have n1_ : Zz (Kd.R Qao 36 w71 w.heap.size (fun k_ => some k_ ≠ (.slice Ao41 t208.length co41 : Value).ownBlock /\ k_ ≠ gb222) v213 t212):=by rw [<- hgz]; exact ⟨by (with_reducible repeat (first | apply Kd.R_alloc | apply Kd.R_drewN | apply Kd.R_drew)); exact Kd.R_mono (Kd.R_far (p:=⟨gb222,2,none⟩) (Kd.R_far (p:=⟨gb222,1,none⟩) (Kd.R_far (p:=⟨gb222,0,none⟩) (Kd.R_mono HO_7.out (fun k_ hk => (⟨hk,hk.2⟩ : _ /\ k_ ≠ gb222))) (fun _ hk => hk.2) (.int .i64 t218)) (fun _ hk => hk.2) (.int .i64 t219)) (fun _ hk => hk.2) (.int .i64 t220)) (fun _ hk => ⟨hk.1.1,hk.1.2⟩)⟩
           have n2_ : Zz (w71.heap[gb202]? = some (.cells #[.slice (some ad204) l0_0.length c0_0, .slice A0_1 l0_1.length c0_1, .slice A0_2 l0_2.length c0_2] 51 (0,0))):=by rw [<- hgz]; exact ⟨kk BK202⟩
           have n3_ : Zz (w71.heap[gb205]? = some (.cells #[.int .i64 ((Qab l0_0 x3_1).f0), .int .i64 ((Qab l0_0 x3_1).f1), .int .i64 ((Qab l0_0 x3_1).f2), .int .i64 ((Qab l0_0 x3_1).f3.f0), .int .i64 ((Qab l0_0 x3_1).f3.f1), .int .i64 ((Qab l0_0 x3_1).f3.f2), .string ((Qab l0_0 x3_1).f4), .slice A204_7 ((Qab l0_0 x3_1).f5).length c204_7, .int .i64 ((Qab l0_0 x3_1).f6), .int .i64 ((Qab l0_0 x3_1).f7), .int .i64 ((Qab l0_0 x3_1).f8)] 38 (0,0))):=by rw [<- hgz]; exact ⟨kk BK205⟩
           have n4_ : Zz (w71.heap[gb222]? = some (.cells #[.int .i64 t218, .int .i64 t219, .int .i64 t220] 36 (0,0))):=by rw [<- hgz]; exact ⟨bp (bp (bp (kk BK222) 0) 1) 2⟩
           have n5_ : Zz (Below w.heap.size w w71):=by rw [<- hgz]; exact ⟨bw HB⟩
           (try clear HO_5)
           (try clear HO_7)
           (try clear BK202)
           (try clear BK205)
           (try clear BK222)
           (try clear HB)
           clear hgz
           have HO_5:=n0_
           have HO_7:=n1_
           have BK202:=n2_
           have BK205:=n3_
           have BK222:=n4_
           have HB:=n5_
           clear n0_ n1_ n2_ n3_ n4_ n5_
           have n0_:=Zz.k (Kd.R_drew HO_5.out)
           have n1_:=Zz.k (Kd.R_drew HO_7.out)
           have n2_:=Zz.k (Qag BK202.out)
           have n3_:=Zz.k (Qag BK205.out)
           have n4_:=Zz.k (Qag BK222.out)
           have n5_:=Zz.k (Qah HB.out)
           clear HO_5
           clear HO_7
           clear BK202
           clear BK205
           clear BK222
           clear HB
           have HO_5:=n0_
           have HO_7:=n1_
           have BK202:=n2_
           have BK205:=n3_
           have BK222:=n4_
           have HB:=n5_
           clear n0_ n1_ n2_ n3_ n4_ n5_
           refine stP (fun w' => True) 42 trivial (h:=fun hHeld => ?_); refine Qal w4_OpOwn.tab16 w4_OpOwn.bits16 (fun HT_ HW_ => ?_)
           generalize w71.drew = w72 at HO_5 HO_7 BK202 BK205 BK222 HB hHeld ⊢
           refine pu HT_ 0 74 1 (h := ?_)
           refine on HT_ 1 (some 75) 3 (h:=fun K hK => ?_)
           refine gS Try.func19 #[.int .i64 t221] (h := ?_)
           with_reducible refine (w4_num.calls t221 t223 _ A49.out).mono ?_
           rintro e w' ⟨rfl,⟨nd,rfl⟩⟩
           refine ⟨_,rfl, ?_⟩
           refine hK.out _ _ trivial (fun hHeld => ?_)
           clear hK K
           refine nn 75 (h := ?_)
           refine pu HT_ 2 76 7 (h := ?_)
           refine pu HT_ 3 77 15 (h := ?_)
           refine off HT_ 4 78 31 (h := ?_)
           refine off HT_ 5 79 63 (h := ?_)
           refine off HT_ 6 80 127 (h := ?_)
           refine off HT_ 7 81 255 (h := ?_)
           refine off HT_ 8 82 511 (h := ?_)
           refine off HT_ 9 83 1023 (h := ?_)
           refine pu HT_ 10 84 2047 (h := ?_)
           refine pu HT_ 11 85 4095 (h := ?_)
           refine off HT_ 12 86 8191 (h := ?_)
           refine off HT_ 13 87 16383 (h := ?_)
           refine off HT_ 14 88 32767 (h := ?_)
           refine off HT_ 15 89 65535 (h := ?_)
           refine off HT_ 16 90 131071 (h := ?_)
           refine pu HT_ 17 91 262143 (h := ?_)
           refine pu HT_ 18 92 524287 (h := ?_)
           refine off HT_ 19 93 1048575 (h := ?_)
           refine off HT_ 20 94 2097151 (h := ?_)
           refine off HT_ 21 95 4194303 (h := ?_)
           refine off HT_ 22 96 8388607 (h := ?_)
           refine off HT_ 23 97 16777215 (h := ?_)
           refine pu HT_ 24 98 33554431 (h := ?_)
           refine pu HT_ 25 99 67108863 (h := ?_)
           refine off HT_ 26 100 134217727 (h := ?_)
           refine off HT_ 27 101 268435455 (h := ?_)
           refine off HT_ 28 102 536870911 (h := ?_)
           refine off HT_ 29 103 1073741823 (h := ?_)
           refine off HT_ 30 104 2147483647 (h := ?_)
           refine off HT_ 31 105 4294967295 (h := ?_)
           refine off HT_ 32 106 8589934591 (h := ?_)
           refine off HT_ 33 107 17179869183 (h := ?_)
           refine off HT_ 34 108 34359738367 (h := ?_)
           refine off HT_ 35 109 68719476735 (h := ?_)
           refine off HT_ 36 110 137438953471 (h := ?_)
           refine off HT_ 37 111 274877906943 (h := ?_)
           refine off HT_ 38 112 549755813887 (h := ?_)
           refine off HT_ 39 113 1099511627775 (h := ?_)
           refine off HT_ 40 114 2199023255551 (h := ?_)
           refine pu HT_ 41 115 4398046511103 (h := ?_)
           refine dn HT_ (h := ?_)
           try go_wp2
           go_meet
           case rel => exact ⟨_,(true),rf,H',⟨by have:=HK1.out; have:=HJ9.out; have:=HJ21.out; have:=HK4.out; first | omega | exact Nat.le_refl _⟩,⟨rk HO_5⟩,⟨rk HO_7⟩,⟨kk BK202⟩,⟨kk BK205⟩,⟨kk BK222⟩,⟨bw HB⟩⟩
          show (let G_ : Prop:=_; G_)
          intro G_
          exact (let_tmp i_ : Nonempty G_:=(((⟨by
          subst G_
          rw [if_pos c50] at H
          obtain ⟨c50b0,c50b1⟩:=bT c50
          clear c50
          (first | rw [c50b0] | (simp only [i64_w,i32_w]; rw [c50b0]) | skip)
          by_cases c51 : 0 <= x9_4; rotate_left
          ·rw [if_neg c51] at H
           exact absurd H (by simp)
          show (let G_ : Prop:=_; G_)
          intro G_
          exact (let_tmp i_ : Nonempty G_:=(((⟨by
          subst G_
          rw [if_pos c51] at H
          have c51b0:=Zd c51
          clear c51
          by_cases c52 : (!(t218 == ((Qaa t208 x9_4).f0)) || (!(t219 == ((Qaa t208 x9_4).f1)) || (!(t220 == ((Qaa t208 x9_4).f2))))) = true
          ·show (let G_ : Prop:=_; G_)
           intro G_
           exact (let_tmp i_ : Nonempty G_:=(((⟨by
           subst G_
           rw [if_pos c52] at H
           have c52b0 : (!(t218 == ((Qaa t208 x9_4).f0)) || (!(t219 == ((Qaa t208 x9_4).f1)) || (!(t220 == ((Qaa t208 x9_4).f2))))) = true:=c52
           clear c52
           have H':=Zz.k H
           clear H
           try go_wp2
           generalize hgz : (((w45.setCell ⟨gb222,0,none⟩ (.int .i64 t218)).setCell ⟨gb222,1,none⟩ (.int .i64 t219)).setCell ⟨gb222,2,none⟩ (.int .i64 t220)) = w53
           have n0_ : Zz (Kd.R Qao 36 w53 w.heap.size (fun k_ => some k_ ≠ (v213 : Value).ownBlock /\ k_ ≠ gb222) (.slice Ao41 t208.length co41) t208):=by rw [<- hgz]; exact ⟨by (with_reducible repeat (first | apply Kd.R_alloc | apply Kd.R_drewN | apply Kd.R_drew)); exact Kd.R_mono (Kd.R_far (p:=⟨gb222,2,none⟩) (Kd.R_far (p:=⟨gb222,1,none⟩) (Kd.R_far (p:=⟨gb222,0,none⟩) (Kd.R_mono HO_5.out (fun k_ hk => (⟨hk,hk.2⟩ : _ /\ k_ ≠ gb222))) (fun _ hk => hk.2) (.int .i64 t218)) (fun _ hk => hk.2) (.int .i64 t219)) (fun _ hk => hk.2) (.int .i64 t220)) (fun _ hk => ⟨hk.1.1,hk.1.2⟩)⟩
           have n1_ : Zz (Kd.R Qao 36 w53 w.heap.size (fun k_ => some k_ ≠ (.slice Ao41 t208.length co41 : Value).ownBlock /\ k_ ≠ gb222) v213 t212):=by rw [<- hgz]; exact ⟨by (with_reducible repeat (first | apply Kd.R_alloc | apply Kd.R_drewN | apply Kd.R_drew)); exact Kd.R_mono (Kd.R_far (p:=⟨gb222,2,none⟩) (Kd.R_far (p:=⟨gb222,1,none⟩) (Kd.R_far (p:=⟨gb222,0,none⟩) (Kd.R_mono HO_7.out (fun k_ hk => (⟨hk,hk.2⟩ : _ /\ k_ ≠ gb222))) (fun _ hk => hk.2) (.int .i64 t218)) (fun _ hk => hk.2) (.int .i64 t219)) (fun _ hk => hk.2) (.int .i64 t220)) (fun _ hk => ⟨hk.1.1,hk.1.2⟩)⟩
           have n2_ : Zz (w53.heap[gb202]? = some (.cells #[.slice (some ad204) l0_0.length c0_0, .slice A0_1 l0_1.length c0_1, .slice A0_2 l0_2.length c0_2] 51 (0,0))):=by rw [<- hgz]; exact ⟨kk BK202⟩
           have n3_ : Zz (w53.heap[gb205]? = some (.cells #[.int .i64 ((Qab l0_0 x3_1).f0), .int .i64 ((Qab l0_0 x3_1).f1), .int .i64 ((Qab l0_0 x3_1).f2), .int .i64 ((Qab l0_0 x3_1).f3.f0), .int .i64 ((Qab l0_0 x3_1).f3.f1), .int .i64 ((Qab l0_0 x3_1).f3.f2), .string ((Qab l0_0 x3_1).f4), .slice A204_7 ((Qab l0_0 x3_1).f5).length c204_7, .int .i64 ((Qab l0_0 x3_1).f6), .int .i64 ((Qab l0_0 x3_1).f7), .int .i64 ((Qab l0_0 x3_1).f8)] 38 (0,0))):=by rw [<- hgz]; exact ⟨kk BK205⟩
           have n4_ : Zz (w53.heap[gb222]? = some (.cells #[.int .i64 t218, .int .i64 t219, .int .i64 t220] 36 (0,0))):=by rw [<- hgz]; exact ⟨bp (bp (bp (kk BK222) 0) 1) 2⟩
           have n5_ : Zz (Below w.heap.size w w53):=by rw [<- hgz]; exact ⟨bw HB⟩
           (try clear HO_5)
           (try clear HO_7)
           (try clear BK202)
           (try clear BK205)
           (try clear BK222)
           (try clear HB)
           clear hgz
           have HO_5:=n0_
           have HO_7:=n1_
           have BK202:=n2_
           have BK205:=n3_
           have BK222:=n4_
           have HB:=n5_
           clear n0_ n1_ n2_ n3_ n4_ n5_
           have n0_:=Zz.k (Kd.R_drew HO_5.out)
           have n1_:=Zz.k (Kd.R_drew HO_7.out)
           have n2_:=Zz.k (Qag BK202.out)
           have n3_:=Zz.k (Qag BK205.out)
           have n4_:=Zz.k (Qag BK222.out)
           have n5_:=Zz.k (Qah HB.out)
           clear HO_5
           clear HO_7
           clear BK202
           clear BK205
           clear BK222
           clear HB
           have HO_5:=n0_
           have HO_7:=n1_
           have BK202:=n2_
           have BK205:=n3_
           have BK222:=n4_
           have HB:=n5_
           clear n0_ n1_ n2_ n3_ n4_ n5_
           have p224 : 0 <= (x9_4 : Int):=od
           have q224 : x9_4 < (t208.length : Int):=od
           obtain ⟨ad224,e224,hx224_0,hx224_1,hx224_2⟩:=Qap (Kd.R_reads' HO_5.out).2.2 x9_4 p224 q224
           cases e224
           replace p224:=eq_true p224
           replace q224:=eq_true q224
           refine stP (fun w' => B3 w' gb222 (.int .i64 t218) (.int .i64 t219) (.int .i64 t220) (w'.cell? (ad224.add ((x9_4).toNat * 3)) = some (.int .i64 ((Qaa t208 x9_4).f0)) /\ w'.cell? ⟨(ad224.add ((x9_4).toNat * 3)).block,(ad224.add ((x9_4).toNat * 3)).off + 1,none⟩ = some (.int .i64 ((Qaa t208 x9_4).f1)) /\ w'.cell? ⟨(ad224.add ((x9_4).toNat * 3)).block,(ad224.add ((x9_4).toNat * 3)).off + 2,none⟩ = some (.int .i64 ((Qaa t208 x9_4).f2)))) 42 (b3 BK222 ⟨hx224_0,hx224_1,hx224_2⟩) (h:=fun hHeld => ?_); refine Qal w4_OpOwn.tab16 w4_OpOwn.bits16 (fun HT_ HW_ => ?_)
           generalize w53.drew = w54 at HO_5 HO_7 BK202 BK205 BK222 HB hx224_0 hx224_1 hx224_2 hHeld ⊢
           refine pu HT_ 0 74 1 (h := ?_)
           refine on HT_ 1 (some 75) 3 (h:=fun K hK => ?_)
           refine gS Try.func19 #[.int .i64 t221] (h := ?_)
           with_reducible refine (w4_num.calls t221 t223 _ A49.out).mono ?_
           rintro e w' ⟨rfl,⟨nd,rfl⟩⟩
           refine ⟨_,rfl, ?_⟩
           refine hK.out _ _ (b3 BK222 ⟨hHeld.2.2.2.1,hHeld.2.2.2.2.1,hHeld.2.2.2.2.2⟩) (fun hHeld => ?_)
           clear hK K
           refine nn 75 (h := ?_)
           refine pu HT_ 2 76 7 (h := ?_)
           refine pu HT_ 3 77 15 (h := ?_)
           refine pu HT_ 5 79 47 (h := ?_)
           refine pu HT_ 6 80 111 (h := ?_)
           refine pu HT_ 7 81 239 (h := ?_)
           refine tk HT_ HW_ hHeld 4 78 255 (h := ?_)
           refine tk HT_ HW_ hHeld 8 82 511 (h := ?_)
           refine pu HT_ 9 83 1023 (h := ?_)
           refine pu HT_ 10 84 2047 (h := ?_)
           refine pu HT_ 11 85 4095 (h := ?_)
           refine off HT_ 12 86 8191 (h := ?_)
           refine off HT_ 13 87 16383 (h := ?_)
           refine off HT_ 14 88 32767 (h := ?_)
           refine off HT_ 15 89 65535 (h := ?_)
           refine off HT_ 16 90 131071 (h := ?_)
           refine pu HT_ 17 91 262143 (h := ?_)
           refine pu HT_ 18 92 524287 (h := ?_)
           refine off HT_ 19 93 1048575 (h := ?_)
           refine off HT_ 20 94 2097151 (h := ?_)
           refine off HT_ 21 95 4194303 (h := ?_)
           refine off HT_ 22 96 8388607 (h := ?_)
           refine off HT_ 23 97 16777215 (h := ?_)
           refine pu HT_ 24 98 33554431 (h := ?_)
           refine pu HT_ 25 99 67108863 (h := ?_)
           refine off HT_ 26 100 134217727 (h := ?_)
           refine off HT_ 27 101 268435455 (h := ?_)
           refine off HT_ 28 102 536870911 (h := ?_)
           refine off HT_ 29 103 1073741823 (h := ?_)
           refine off HT_ 30 104 2147483647 (h := ?_)
           refine off HT_ 31 105 4294967295 (h := ?_)
           refine off HT_ 32 106 8589934591 (h := ?_)
           refine off HT_ 33 107 17179869183 (h := ?_)
           refine off HT_ 34 108 34359738367 (h := ?_)
           refine off HT_ 35 109 68719476735 (h := ?_)
           refine off HT_ 36 110 137438953471 (h := ?_)
           refine off HT_ 37 111 274877906943 (h := ?_)
           refine off HT_ 38 112 549755813887 (h := ?_)
           refine off HT_ 39 113 1099511627775 (h := ?_)
           refine off HT_ 40 114 2199023255551 (h := ?_)
           refine pu HT_ 41 115 4398046511103 (h := ?_)
           refine dn HT_ (h := ?_)
           try go_wp2
           go_meet
           case rel => exact ⟨_,(true),rf,H',⟨by have:=HK1.out; have:=HJ9.out; have:=HJ21.out; have:=HK4.out; first | omega | exact Nat.le_refl _⟩,⟨rk HO_5⟩,⟨rk HO_7⟩,⟨kk BK202⟩,⟨kk BK205⟩,⟨kk BK222⟩,⟨bw HB⟩⟩⟩ : Nonempty G_)) :); w4_OpOwn.bxo (G:=G_) (inferInstanceAs (Nonempty G_)))
          rw [if_neg c52] at H
          have c52b0 : (!(t218 == ((Qaa t208 x9_4).f0)) || (!(t219 == ((Qaa t208 x9_4).f1)) || (!(t220 == ((Qaa t208 x9_4).f2))))) = false:=by simpa using c52
          clear c52
          by_cases c55 : t218 = ((Qab l0_0 x3_1).f0); rotate_left
          ·rw [if_neg c55] at H
           obtain ⟨c55b0,c55b1⟩:=bF c55
           have H':=Zz.k H
           clear H
           try go_wp2
           generalize hgz : (((w45.setCell ⟨gb222,0,none⟩ (.int .i64 t218)).setCell ⟨gb222,1,none⟩ (.int .i64 t219)).setCell ⟨gb222,2,none⟩ (.int .i64 t220)) = w69
           have n0_ : Zz (Kd.R Qao 36 w69 w.heap.size (fun k_ => some k_ ≠ (v213 : Value).ownBlock /\ k_ ≠ gb222) (.slice Ao41 t208.length co41) t208):=by rw [<- hgz]; exact ⟨by (with_reducible repeat (first | apply Kd.R_alloc | apply Kd.R_drewN | apply Kd.R_drew)); exact Kd.R_mono (Kd.R_far (p:=⟨gb222,2,none⟩) (Kd.R_far (p:=⟨gb222,1,none⟩) (Kd.R_far (p:=⟨gb222,0,none⟩) (Kd.R_mono HO_5.out (fun k_ hk => (⟨hk,hk.2⟩ : _ /\ k_ ≠ gb222))) (fun _ hk => hk.2) (.int .i64 t218)) (fun _ hk => hk.2) (.int .i64 t219)) (fun _ hk => hk.2) (.int .i64 t220)) (fun _ hk => ⟨hk.1.1,hk.1.2⟩)⟩
           have n1_ : Zz (Kd.R Qao 36 w69 w.heap.size (fun k_ => some k_ ≠ (.slice Ao41 t208.length co41 : Value).ownBlock /\ k_ ≠ gb222) v213 t212):=by rw [<- hgz]; exact ⟨by (with_reducible repeat (first | apply Kd.R_alloc | apply Kd.R_drewN | apply Kd.R_drew)); exact Kd.R_mono (Kd.R_far (p:=⟨gb222,2,none⟩) (Kd.R_far (p:=⟨gb222,1,none⟩) (Kd.R_far (p:=⟨gb222,0,none⟩) (Kd.R_mono HO_7.out (fun k_ hk => (⟨hk,hk.2⟩ : _ /\ k_ ≠ gb222))) (fun _ hk => hk.2) (.int .i64 t218)) (fun _ hk => hk.2) (.int .i64 t219)) (fun _ hk => hk.2) (.int .i64 t220)) (fun _ hk => ⟨hk.1.1,hk.1.2⟩)⟩
           have n2_ : Zz (w69.heap[gb202]? = some (.cells #[.slice (some ad204) l0_0.length c0_0, .slice A0_1 l0_1.length c0_1, .slice A0_2 l0_2.length c0_2] 51 (0,0))):=by rw [<- hgz]; exact ⟨kk BK202⟩
           have n3_ : Zz (w69.heap[gb205]? = some (.cells #[.int .i64 ((Qab l0_0 x3_1).f0), .int .i64 ((Qab l0_0 x3_1).f1), .int .i64 ((Qab l0_0 x3_1).f2), .int .i64 ((Qab l0_0 x3_1).f3.f0), .int .i64 ((Qab l0_0 x3_1).f3.f1), .int .i64 ((Qab l0_0 x3_1).f3.f2), .string ((Qab l0_0 x3_1).f4), .slice A204_7 ((Qab l0_0 x3_1).f5).length c204_7, .int .i64 ((Qab l0_0 x3_1).f6), .int .i64 ((Qab l0_0 x3_1).f7), .int .i64 ((Qab l0_0 x3_1).f8)] 38 (0,0))):=by rw [<- hgz]; exact ⟨kk BK205⟩
           have n4_ : Zz (w69.heap[gb222]? = some (.cells #[.int .i64 t218, .int .i64 t219, .int .i64 t220] 36 (0,0))):=by rw [<- hgz]; exact ⟨bp (bp (bp (kk BK222) 0) 1) 2⟩
           have n5_ : Zz (Below w.heap.size w w69):=by rw [<- hgz]; exact ⟨bw HB⟩
           (try clear HO_5)
           (try clear HO_7)
           (try clear BK202)
           (try clear BK205)
           (try clear BK222)
           (try clear HB)
           clear hgz
           have HO_5:=n0_
           have HO_7:=n1_
           have BK202:=n2_
           have BK205:=n3_
           have BK222:=n4_
           have HB:=n5_
           clear n0_ n1_ n2_ n3_ n4_ n5_
           have n0_:=Zz.k (Kd.R_drew HO_5.out)
           have n1_:=Zz.k (Kd.R_drew HO_7.out)
           have n2_:=Zz.k (Qag BK202.out)
           have n3_:=Zz.k (Qag BK205.out)
           have n4_:=Zz.k (Qag BK222.out)
           have n5_:=Zz.k (Qah HB.out)
           clear HO_5
           clear HO_7
           clear BK202
           clear BK205
           clear BK222
           clear HB
           have HO_5:=n0_
           have HO_7:=n1_
           have BK202:=n2_
           have BK205:=n3_
           have BK222:=n4_
           have HB:=n5_
           clear n0_ n1_ n2_ n3_ n4_ n5_
           have p224 : 0 <= (x9_4 : Int):=od
           have q224 : x9_4 < (t208.length : Int):=od
           obtain ⟨ad224,e224,hx224_0,hx224_1,hx224_2⟩:=Qap (Kd.R_reads' HO_5.out).2.2 x9_4 p224 q224
           cases e224
           replace p224:=eq_true p224
           replace q224:=eq_true q224
           refine stP (fun w' => B3 w' gb222 (.int .i64 t218) (.int .i64 t219) (.int .i64 t220) (B11 w' gb205 (.int .i64 ((Qab l0_0 x3_1).f0)) (.int .i64 ((Qab l0_0 x3_1).f1)) (.int .i64 ((Qab l0_0 x3_1).f2)) (.int .i64 ((Qab l0_0 x3_1).f3.f0)) (.int .i64 ((Qab l0_0 x3_1).f3.f1)) (.int .i64 ((Qab l0_0 x3_1).f3.f2)) (.string ((Qab l0_0 x3_1).f4)) (.slice A204_7 ((Qab l0_0 x3_1).f5).length c204_7) (.int .i64 ((Qab l0_0 x3_1).f6)) (.int .i64 ((Qab l0_0 x3_1).f7)) (.int .i64 ((Qab l0_0 x3_1).f8)) (w'.cell? (ad224.add ((x9_4).toNat * 3)) = some (.int .i64 ((Qaa t208 x9_4).f0)) /\ w'.cell? ⟨(ad224.add ((x9_4).toNat * 3)).block,(ad224.add ((x9_4).toNat * 3)).off + 1,none⟩ = some (.int .i64 ((Qaa t208 x9_4).f1)) /\ w'.cell? ⟨(ad224.add ((x9_4).toNat * 3)).block,(ad224.add ((x9_4).toNat * 3)).off + 2,none⟩ = some (.int .i64 ((Qaa t208 x9_4).f2))))) 42 (b3 BK222 (b11 BK205 ⟨hx224_0,hx224_1,hx224_2⟩)) (h:=fun hHeld => ?_); refine Qal w4_OpOwn.tab16 w4_OpOwn.bits16 (fun HT_ HW_ => ?_)
           generalize w69.drew = w70 at HO_5 HO_7 BK202 BK205 BK222 HB hx224_0 hx224_1 hx224_2 hHeld ⊢
           refine pu HT_ 0 74 1 (h := ?_)
           refine on HT_ 1 (some 75) 3 (h:=fun K hK => ?_)
           refine gS Try.func19 #[.int .i64 t221] (h := ?_)
           with_reducible refine (w4_num.calls t221 t223 _ A49.out).mono ?_
           rintro e w' ⟨rfl,⟨nd,rfl⟩⟩
           refine ⟨_,rfl, ?_⟩
           refine hK.out _ _ (b3 BK222 (b11 BK205 ⟨hHeld.2.2.2.2.2.2.2.2.2.2.2.2.2.2.1,hHeld.2.2.2.2.2.2.2.2.2.2.2.2.2.2.2.1,hHeld.2.2.2.2.2.2.2.2.2.2.2.2.2.2.2.2⟩)) (fun hHeld => ?_)
           clear hK K
           refine nn 75 (h := ?_)
           refine pu HT_ 2 76 7 (h := ?_)
           refine pu HT_ 3 77 15 (h := ?_)
           refine pu HT_ 5 79 47 (h := ?_)
           refine pu HT_ 6 80 111 (h := ?_)
           refine pu HT_ 7 81 239 (h := ?_)
           refine tk HT_ HW_ hHeld 4 78 255 (h := ?_)
           refine tk HT_ HW_ hHeld 8 82 511 (h := ?_)
           refine pu HT_ 9 83 1023 (h := ?_)
           refine pu HT_ 10 84 2047 (h := ?_)
           refine pu HT_ 11 85 4095 (h := ?_)
           refine pu HT_ 12 86 8191 (h := ?_)
           refine pu HT_ 14 88 24575 (h := ?_)
           refine tk HT_ HW_ hHeld 13 87 32767 (h := ?_)
           refine tk HT_ HW_ hHeld 15 89 65535 (h := ?_)
           refine pu HT_ 16 90 131071 (h := ?_)
           refine pu HT_ 17 91 262143 (h := ?_)
           refine pu HT_ 18 92 524287 (h := ?_)
           refine off HT_ 19 93 1048575 (h := ?_)
           refine off HT_ 20 94 2097151 (h := ?_)
           refine off HT_ 21 95 4194303 (h := ?_)
           refine off HT_ 22 96 8388607 (h := ?_)
           refine off HT_ 23 97 16777215 (h := ?_)
           refine pu HT_ 24 98 33554431 (h := ?_)
           refine pu HT_ 25 99 67108863 (h := ?_)
           refine off HT_ 26 100 134217727 (h := ?_)
           refine off HT_ 27 101 268435455 (h := ?_)
           refine off HT_ 28 102 536870911 (h := ?_)
           refine off HT_ 29 103 1073741823 (h := ?_)
           refine off HT_ 30 104 2147483647 (h := ?_)
           refine off HT_ 31 105 4294967295 (h := ?_)
           refine off HT_ 32 106 8589934591 (h := ?_)
           refine off HT_ 33 107 17179869183 (h := ?_)
           refine off HT_ 34 108 34359738367 (h := ?_)
           refine off HT_ 35 109 68719476735 (h := ?_)
           refine off HT_ 36 110 137438953471 (h := ?_)
           refine off HT_ 37 111 274877906943 (h := ?_)
           refine off HT_ 38 112 549755813887 (h := ?_)
           refine off HT_ 39 113 1099511627775 (h := ?_)
           refine off HT_ 40 114 2199023255551 (h := ?_)
           refine pu HT_ 41 115 4398046511103 (h := ?_)
           refine dn HT_ (h := ?_)
           try go_wp2
           go_meet
           case rel => exact ⟨_,(true),rf,H',⟨by have:=HK1.out; have:=HJ9.out; have:=HJ21.out; have:=HK4.out; first | omega | exact Nat.le_refl _⟩,⟨rk HO_5⟩,⟨rk HO_7⟩,⟨kk BK202⟩,⟨kk BK205⟩,⟨kk BK222⟩,⟨bw HB⟩⟩
          show (let G_ : Prop:=_; G_)
          intro G_
          exact (let_tmp i_ : Nonempty G_:=(((⟨by
          subst G_
          rw [if_pos c55] at H
          obtain ⟨c55b0,c55b1⟩:=bT c55
          clear c55
          by_cases c56 : t219 = ((Qab l0_0 x3_1).f1); rotate_left
          ·rw [if_neg c56] at H
           obtain ⟨c56b0,c56b1⟩:=bF c56
           have H':=Zz.k H
           clear H
           try go_wp2
           generalize hgz : (((w45.setCell ⟨gb222,0,none⟩ (.int .i64 t218)).setCell ⟨gb222,1,none⟩ (.int .i64 t219)).setCell ⟨gb222,2,none⟩ (.int .i64 t220)) = w67
           have n0_ : Zz (Kd.R Qao 36 w67 w.heap.size (fun k_ => some k_ ≠ (v213 : Value).ownBlock /\ k_ ≠ gb222) (.slice Ao41 t208.length co41) t208):=by rw [<- hgz]; exact ⟨by (with_reducible repeat (first | apply Kd.R_alloc | apply Kd.R_drewN | apply Kd.R_drew)); exact Kd.R_mono (Kd.R_far (p:=⟨gb222,2,none⟩) (Kd.R_far (p:=⟨gb222,1,none⟩) (Kd.R_far (p:=⟨gb222,0,none⟩) (Kd.R_mono HO_5.out (fun k_ hk => (⟨hk,hk.2⟩ : _ /\ k_ ≠ gb222))) (fun _ hk => hk.2) (.int .i64 t218)) (fun _ hk => hk.2) (.int .i64 t219)) (fun _ hk => hk.2) (.int .i64 t220)) (fun _ hk => ⟨hk.1.1,hk.1.2⟩)⟩
           have n1_ : Zz (Kd.R Qao 36 w67 w.heap.size (fun k_ => some k_ ≠ (.slice Ao41 t208.length co41 : Value).ownBlock /\ k_ ≠ gb222) v213 t212):=by rw [<- hgz]; exact ⟨by (with_reducible repeat (first | apply Kd.R_alloc | apply Kd.R_drewN | apply Kd.R_drew)); exact Kd.R_mono (Kd.R_far (p:=⟨gb222,2,none⟩) (Kd.R_far (p:=⟨gb222,1,none⟩) (Kd.R_far (p:=⟨gb222,0,none⟩) (Kd.R_mono HO_7.out (fun k_ hk => (⟨hk,hk.2⟩ : _ /\ k_ ≠ gb222))) (fun _ hk => hk.2) (.int .i64 t218)) (fun _ hk => hk.2) (.int .i64 t219)) (fun _ hk => hk.2) (.int .i64 t220)) (fun _ hk => ⟨hk.1.1,hk.1.2⟩)⟩
           have n2_ : Zz (w67.heap[gb202]? = some (.cells #[.slice (some ad204) l0_0.length c0_0, .slice A0_1 l0_1.length c0_1, .slice A0_2 l0_2.length c0_2] 51 (0,0))):=by rw [<- hgz]; exact ⟨kk BK202⟩
           have n3_ : Zz (w67.heap[gb205]? = some (.cells #[.int .i64 ((Qab l0_0 x3_1).f0), .int .i64 ((Qab l0_0 x3_1).f1), .int .i64 ((Qab l0_0 x3_1).f2), .int .i64 ((Qab l0_0 x3_1).f3.f0), .int .i64 ((Qab l0_0 x3_1).f3.f1), .int .i64 ((Qab l0_0 x3_1).f3.f2), .string ((Qab l0_0 x3_1).f4), .slice A204_7 ((Qab l0_0 x3_1).f5).length c204_7, .int .i64 ((Qab l0_0 x3_1).f6), .int .i64 ((Qab l0_0 x3_1).f7), .int .i64 ((Qab l0_0 x3_1).f8)] 38 (0,0))):=by rw [<- hgz]; exact ⟨kk BK205⟩
           have n4_ : Zz (w67.heap[gb222]? = some (.cells #[.int .i64 t218, .int .i64 t219, .int .i64 t220] 36 (0,0))):=by rw [<- hgz]; exact ⟨bp (bp (bp (kk BK222) 0) 1) 2⟩
           have n5_ : Zz (Below w.heap.size w w67):=by rw [<- hgz]; exact ⟨bw HB⟩
           (try clear HO_5)
           (try clear HO_7)
           (try clear BK202)
           (try clear BK205)
           (try clear BK222)
           (try clear HB)
           clear hgz
           have HO_5:=n0_
           have HO_7:=n1_
           have BK202:=n2_
           have BK205:=n3_
           have BK222:=n4_
           have HB:=n5_
           clear n0_ n1_ n2_ n3_ n4_ n5_
           have n0_:=Zz.k (Kd.R_drew HO_5.out)
           have n1_:=Zz.k (Kd.R_drew HO_7.out)
           have n2_:=Zz.k (Qag BK202.out)
           have n3_:=Zz.k (Qag BK205.out)
           have n4_:=Zz.k (Qag BK222.out)
           have n5_:=Zz.k (Qah HB.out)
           clear HO_5
           clear HO_7
           clear BK202
           clear BK205
           clear BK222
           clear HB
           have HO_5:=n0_
           have HO_7:=n1_
           have BK202:=n2_
           have BK205:=n3_
           have BK222:=n4_
           have HB:=n5_
           clear n0_ n1_ n2_ n3_ n4_ n5_
           have p224 : 0 <= (x9_4 : Int):=od
           have q224 : x9_4 < (t208.length : Int):=od
           obtain ⟨ad224,e224,hx224_0,hx224_1,hx224_2⟩:=Qap (Kd.R_reads' HO_5.out).2.2 x9_4 p224 q224
           cases e224
           replace p224:=eq_true p224
           replace q224:=eq_true q224
           refine stP (fun w' => B3 w' gb222 (.int .i64 t218) (.int .i64 t219) (.int .i64 t220) (B11 w' gb205 (.int .i64 ((Qab l0_0 x3_1).f0)) (.int .i64 ((Qab l0_0 x3_1).f1)) (.int .i64 ((Qab l0_0 x3_1).f2)) (.int .i64 ((Qab l0_0 x3_1).f3.f0)) (.int .i64 ((Qab l0_0 x3_1).f3.f1)) (.int .i64 ((Qab l0_0 x3_1).f3.f2)) (.string ((Qab l0_0 x3_1).f4)) (.slice A204_7 ((Qab l0_0 x3_1).f5).length c204_7) (.int .i64 ((Qab l0_0 x3_1).f6)) (.int .i64 ((Qab l0_0 x3_1).f7)) (.int .i64 ((Qab l0_0 x3_1).f8)) (w'.cell? (ad224.add ((x9_4).toNat * 3)) = some (.int .i64 ((Qaa t208 x9_4).f0)) /\ w'.cell? ⟨(ad224.add ((x9_4).toNat * 3)).block,(ad224.add ((x9_4).toNat * 3)).off + 1,none⟩ = some (.int .i64 ((Qaa t208 x9_4).f1)) /\ w'.cell? ⟨(ad224.add ((x9_4).toNat * 3)).block,(ad224.add ((x9_4).toNat * 3)).off + 2,none⟩ = some (.int .i64 ((Qaa t208 x9_4).f2))))) 42 (b3 BK222 (b11 BK205 ⟨hx224_0,hx224_1,hx224_2⟩)) (h:=fun hHeld => ?_); refine Qal w4_OpOwn.tab16 w4_OpOwn.bits16 (fun HT_ HW_ => ?_)
           generalize w67.drew = w68 at HO_5 HO_7 BK202 BK205 BK222 HB hx224_0 hx224_1 hx224_2 hHeld ⊢
           refine pu HT_ 0 74 1 (h := ?_)
           refine on HT_ 1 (some 75) 3 (h:=fun K hK => ?_)
           refine gS Try.func19 #[.int .i64 t221] (h := ?_)
           with_reducible refine (w4_num.calls t221 t223 _ A49.out).mono ?_
           rintro e w' ⟨rfl,⟨nd,rfl⟩⟩
           refine ⟨_,rfl, ?_⟩
           refine hK.out _ _ (b3 BK222 (b11 BK205 ⟨hHeld.2.2.2.2.2.2.2.2.2.2.2.2.2.2.1,hHeld.2.2.2.2.2.2.2.2.2.2.2.2.2.2.2.1,hHeld.2.2.2.2.2.2.2.2.2.2.2.2.2.2.2.2⟩)) (fun hHeld => ?_)
           clear hK K
           refine nn 75 (h := ?_)
           refine pu HT_ 2 76 7 (h := ?_)
           refine pu HT_ 3 77 15 (h := ?_)
           refine pu HT_ 5 79 47 (h := ?_)
           refine pu HT_ 6 80 111 (h := ?_)
           refine pu HT_ 7 81 239 (h := ?_)
           refine tk HT_ HW_ hHeld 4 78 255 (h := ?_)
           refine tk HT_ HW_ hHeld 8 82 511 (h := ?_)
           refine pu HT_ 9 83 1023 (h := ?_)
           refine pu HT_ 10 84 2047 (h := ?_)
           refine pu HT_ 11 85 4095 (h := ?_)
           refine pu HT_ 12 86 8191 (h := ?_)
           refine pu HT_ 14 88 24575 (h := ?_)
           refine tk HT_ HW_ hHeld 13 87 32767 (h := ?_)
           refine tk HT_ HW_ hHeld 15 89 65535 (h := ?_)
           refine pu HT_ 16 90 131071 (h := ?_)
           refine pu HT_ 17 91 262143 (h := ?_)
           refine pu HT_ 18 92 524287 (h := ?_)
           refine pu HT_ 19 93 1048575 (h := ?_)
           refine pu HT_ 21 95 3145727 (h := ?_)
           refine tk HT_ HW_ hHeld 20 94 4194303 (h := ?_)
           refine tk HT_ HW_ hHeld 22 96 8388607 (h := ?_)
           refine pu HT_ 23 97 16777215 (h := ?_)
           refine pu HT_ 24 98 33554431 (h := ?_)
           refine pu HT_ 25 99 67108863 (h := ?_)
           refine off HT_ 26 100 134217727 (h := ?_)
           refine off HT_ 27 101 268435455 (h := ?_)
           refine off HT_ 28 102 536870911 (h := ?_)
           refine off HT_ 29 103 1073741823 (h := ?_)
           refine off HT_ 30 104 2147483647 (h := ?_)
           refine off HT_ 31 105 4294967295 (h := ?_)
           refine off HT_ 32 106 8589934591 (h := ?_)
           refine off HT_ 33 107 17179869183 (h := ?_)
           refine off HT_ 34 108 34359738367 (h := ?_)
           refine off HT_ 35 109 68719476735 (h := ?_)
           refine off HT_ 36 110 137438953471 (h := ?_)
           refine off HT_ 37 111 274877906943 (h := ?_)
           refine off HT_ 38 112 549755813887 (h := ?_)
           refine off HT_ 39 113 1099511627775 (h := ?_)
           refine off HT_ 40 114 2199023255551 (h := ?_)
           refine pu HT_ 41 115 4398046511103 (h := ?_)
           refine dn HT_ (h := ?_)
           try go_wp2
           go_meet
           case rel => exact ⟨_,(true),rf,H',⟨by have:=HK1.out; have:=HJ9.out; have:=HJ21.out; have:=HK4.out; first | omega | exact Nat.le_refl _⟩,⟨rk HO_5⟩,⟨rk HO_7⟩,⟨kk BK202⟩,⟨kk BK205⟩,⟨kk BK222⟩,⟨bw HB⟩⟩
          show (let G_ : Prop:=_; G_)
          intro G_
          exact (let_tmp i_ : Nonempty G_:=(((⟨by
          subst G_
          rw [if_pos c56] at H
          obtain ⟨c56b0,c56b1⟩:=bT c56
          clear c56
          by_cases c57 : x9_4 > 0; rotate_left
          ·rw [if_neg c57] at H
           have c57b0:=Ze c57
           clear c57
           have H':=Zz.k H
           clear H
           try go_wp2
           generalize hgz : (((w45.setCell ⟨gb222,0,none⟩ (.int .i64 t218)).setCell ⟨gb222,1,none⟩ (.int .i64 t219)).setCell ⟨gb222,2,none⟩ (.int .i64 t220)) = w65
           have n0_ : Zz (Kd.R Qao 36 w65 w.heap.size (fun k_ => some k_ ≠ (v213 : Value).ownBlock /\ k_ ≠ gb222) (.slice Ao41 t208.length co41) t208):=by rw [<- hgz]; exact ⟨by (with_reducible repeat (first | apply Kd.R_alloc | apply Kd.R_drewN | apply Kd.R_drew)); exact Kd.R_mono (Kd.R_far (p:=⟨gb222,2,none⟩) (Kd.R_far (p:=⟨gb222,1,none⟩) (Kd.R_far (p:=⟨gb222,0,none⟩) (Kd.R_mono HO_5.out (fun k_ hk => (⟨hk,hk.2⟩ : _ /\ k_ ≠ gb222))) (fun _ hk => hk.2) (.int .i64 t218)) (fun _ hk => hk.2) (.int .i64 t219)) (fun _ hk => hk.2) (.int .i64 t220)) (fun _ hk => ⟨hk.1.1,hk.1.2⟩)⟩
           have n1_ : Zz (Kd.R Qao 36 w65 w.heap.size (fun k_ => some k_ ≠ (.slice Ao41 t208.length co41 : Value).ownBlock /\ k_ ≠ gb222) v213 t212):=by rw [<- hgz]; exact ⟨by (with_reducible repeat (first | apply Kd.R_alloc | apply Kd.R_drewN | apply Kd.R_drew)); exact Kd.R_mono (Kd.R_far (p:=⟨gb222,2,none⟩) (Kd.R_far (p:=⟨gb222,1,none⟩) (Kd.R_far (p:=⟨gb222,0,none⟩) (Kd.R_mono HO_7.out (fun k_ hk => (⟨hk,hk.2⟩ : _ /\ k_ ≠ gb222))) (fun _ hk => hk.2) (.int .i64 t218)) (fun _ hk => hk.2) (.int .i64 t219)) (fun _ hk => hk.2) (.int .i64 t220)) (fun _ hk => ⟨hk.1.1,hk.1.2⟩)⟩
           have n2_ : Zz (w65.heap[gb202]? = some (.cells #[.slice (some ad204) l0_0.length c0_0, .slice A0_1 l0_1.length c0_1, .slice A0_2 l0_2.length c0_2] 51 (0,0))):=by rw [<- hgz]; exact ⟨kk BK202⟩
           have n3_ : Zz (w65.heap[gb205]? = some (.cells #[.int .i64 ((Qab l0_0 x3_1).f0), .int .i64 ((Qab l0_0 x3_1).f1), .int .i64 ((Qab l0_0 x3_1).f2), .int .i64 ((Qab l0_0 x3_1).f3.f0), .int .i64 ((Qab l0_0 x3_1).f3.f1), .int .i64 ((Qab l0_0 x3_1).f3.f2), .string ((Qab l0_0 x3_1).f4), .slice A204_7 ((Qab l0_0 x3_1).f5).length c204_7, .int .i64 ((Qab l0_0 x3_1).f6), .int .i64 ((Qab l0_0 x3_1).f7), .int .i64 ((Qab l0_0 x3_1).f8)] 38 (0,0))):=by rw [<- hgz]; exact ⟨kk BK205⟩
           have n4_ : Zz (w65.heap[gb222]? = some (.cells #[.int .i64 t218, .int .i64 t219, .int .i64 t220] 36 (0,0))):=by rw [<- hgz]; exact ⟨bp (bp (bp (kk BK222) 0) 1) 2⟩
           have n5_ : Zz (Below w.heap.size w w65):=by rw [<- hgz]; exact ⟨bw HB⟩
           (try clear HO_5)
           (try clear HO_7)
           (try clear BK202)
           (try clear BK205)
           (try clear BK222)
           (try clear HB)
           clear hgz
           have HO_5:=n0_
           have HO_7:=n1_
           have BK202:=n2_
           have BK205:=n3_
           have BK222:=n4_
           have HB:=n5_
           clear n0_ n1_ n2_ n3_ n4_ n5_
           have n0_:=Zz.k (Kd.R_drew HO_5.out)
           have n1_:=Zz.k (Kd.R_drew HO_7.out)
           have n2_:=Zz.k (Qag BK202.out)
           have n3_:=Zz.k (Qag BK205.out)
           have n4_:=Zz.k (Qag BK222.out)
           have n5_:=Zz.k (Qah HB.out)
           clear HO_5
           clear HO_7
           clear BK202
           clear BK205
           clear BK222
           clear HB
           have HO_5:=n0_
           have HO_7:=n1_
           have BK202:=n2_
           have BK205:=n3_
           have BK222:=n4_
           have HB:=n5_
           clear n0_ n1_ n2_ n3_ n4_ n5_
           have p224 : 0 <= (x9_4 : Int):=od
           have q224 : x9_4 < (t208.length : Int):=od
           obtain ⟨ad224,e224,hx224_0,hx224_1,hx224_2⟩:=Qap (Kd.R_reads' HO_5.out).2.2 x9_4 p224 q224
           cases e224
           replace p224:=eq_true p224
           replace q224:=eq_true q224
           refine stP (fun w' => B3 w' gb222 (.int .i64 t218) (.int .i64 t219) (.int .i64 t220) (B11 w' gb205 (.int .i64 ((Qab l0_0 x3_1).f0)) (.int .i64 ((Qab l0_0 x3_1).f1)) (.int .i64 ((Qab l0_0 x3_1).f2)) (.int .i64 ((Qab l0_0 x3_1).f3.f0)) (.int .i64 ((Qab l0_0 x3_1).f3.f1)) (.int .i64 ((Qab l0_0 x3_1).f3.f2)) (.string ((Qab l0_0 x3_1).f4)) (.slice A204_7 ((Qab l0_0 x3_1).f5).length c204_7) (.int .i64 ((Qab l0_0 x3_1).f6)) (.int .i64 ((Qab l0_0 x3_1).f7)) (.int .i64 ((Qab l0_0 x3_1).f8)) (w'.cell? (ad224.add ((x9_4).toNat * 3)) = some (.int .i64 ((Qaa t208 x9_4).f0)) /\ w'.cell? ⟨(ad224.add ((x9_4).toNat * 3)).block,(ad224.add ((x9_4).toNat * 3)).off + 1,none⟩ = some (.int .i64 ((Qaa t208 x9_4).f1)) /\ w'.cell? ⟨(ad224.add ((x9_4).toNat * 3)).block,(ad224.add ((x9_4).toNat * 3)).off + 2,none⟩ = some (.int .i64 ((Qaa t208 x9_4).f2))))) 42 (b3 BK222 (b11 BK205 ⟨hx224_0,hx224_1,hx224_2⟩)) (h:=fun hHeld => ?_); refine Qal w4_OpOwn.tab16 w4_OpOwn.bits16 (fun HT_ HW_ => ?_)
           generalize w65.drew = w66 at HO_5 HO_7 BK202 BK205 BK222 HB hx224_0 hx224_1 hx224_2 hHeld ⊢
           refine pu HT_ 0 74 1 (h := ?_)
           refine on HT_ 1 (some 75) 3 (h:=fun K hK => ?_)
           refine gS Try.func19 #[.int .i64 t221] (h := ?_)
           with_reducible refine (w4_num.calls t221 t223 _ A49.out).mono ?_
           rintro e w' ⟨rfl,⟨nd,rfl⟩⟩
           refine ⟨_,rfl, ?_⟩
           refine hK.out _ _ (b3 BK222 (b11 BK205 ⟨hHeld.2.2.2.2.2.2.2.2.2.2.2.2.2.2.1,hHeld.2.2.2.2.2.2.2.2.2.2.2.2.2.2.2.1,hHeld.2.2.2.2.2.2.2.2.2.2.2.2.2.2.2.2⟩)) (fun hHeld => ?_)
           clear hK K
           refine nn 75 (h := ?_)
           refine pu HT_ 2 76 7 (h := ?_)
           refine pu HT_ 3 77 15 (h := ?_)
           refine pu HT_ 5 79 47 (h := ?_)
           refine pu HT_ 6 80 111 (h := ?_)
           refine pu HT_ 7 81 239 (h := ?_)
           refine tk HT_ HW_ hHeld 4 78 255 (h := ?_)
           refine tk HT_ HW_ hHeld 8 82 511 (h := ?_)
           refine pu HT_ 9 83 1023 (h := ?_)
           refine pu HT_ 10 84 2047 (h := ?_)
           refine pu HT_ 11 85 4095 (h := ?_)
           refine pu HT_ 12 86 8191 (h := ?_)
           refine pu HT_ 14 88 24575 (h := ?_)
           refine tk HT_ HW_ hHeld 13 87 32767 (h := ?_)
           refine tk HT_ HW_ hHeld 15 89 65535 (h := ?_)
           refine pu HT_ 16 90 131071 (h := ?_)
           refine pu HT_ 17 91 262143 (h := ?_)
           refine pu HT_ 18 92 524287 (h := ?_)
           refine pu HT_ 19 93 1048575 (h := ?_)
           refine pu HT_ 21 95 3145727 (h := ?_)
           refine tk HT_ HW_ hHeld 20 94 4194303 (h := ?_)
           refine tk HT_ HW_ hHeld 22 96 8388607 (h := ?_)
           refine pu HT_ 23 97 16777215 (h := ?_)
           refine pu HT_ 24 98 33554431 (h := ?_)
           refine pu HT_ 25 99 67108863 (h := ?_)
           refine pu HT_ 26 100 134217727 (h := ?_)
           refine pu HT_ 27 101 268435455 (h := ?_)
           refine pu HT_ 28 102 536870911 (h := ?_)
           refine off HT_ 29 103 1073741823 (h := ?_)
           refine off HT_ 30 104 2147483647 (h := ?_)
           refine off HT_ 31 105 4294967295 (h := ?_)
           refine off HT_ 32 106 8589934591 (h := ?_)
           refine off HT_ 33 107 17179869183 (h := ?_)
           refine off HT_ 34 108 34359738367 (h := ?_)
           refine off HT_ 35 109 68719476735 (h := ?_)
           refine off HT_ 36 110 137438953471 (h := ?_)
           refine off HT_ 37 111 274877906943 (h := ?_)
           refine off HT_ 38 112 549755813887 (h := ?_)
           refine off HT_ 39 113 1099511627775 (h := ?_)
           refine pu HT_ 40 114 2199023255551 (h := ?_)
           refine pu HT_ 41 115 4398046511103 (h := ?_)
           refine dn HT_ (h := ?_)
           try go_wp2
           go_meet
           case rel => exact ⟨_,(false),rf,H',⟨by have:=HK1.out; have:=HJ9.out; have:=HJ21.out; have:=HK4.out; first | omega | exact Nat.le_refl _⟩,⟨rk HO_5⟩,⟨rk HO_7⟩,⟨kk BK202⟩,⟨kk BK205⟩,⟨kk BK222⟩,⟨bw HB⟩⟩
          show (let G_ : Prop:=_; G_)
          intro G_
          exact (let_tmp i_ : Nonempty G_:=(((⟨by
          subst G_
          rw [if_pos c57] at H
          have c57b0:=Zd c57
          clear c57
          obtain ⟨ji58,hji58⟩ : ∃ j_ : Int,(wrap64 (x9_4 - 1)) = j_:=⟨_,rfl⟩
          replace H : (if 0 <= (ji58) then (if (ji58) < (t208.length : Int) then ((op_Less.f k4 ((Qaa t208 (ji58)).f0) ((Qaa t208 (ji58)).f1) ((Qaa t208 (ji58)).f2) ((Qaa t208 x9_4).f0) ((Qaa t208 x9_4).f1) ((Qaa t208 x9_4).f2)).bind fun t227 => (w4_OpOwn.j4 k4 x3_1 t208 t212 x9_4 (!t227) l0_0 l0_1 l0_2 ((Qab l0_0 x3_1).f0) ((Qab l0_0 x3_1).f1) ((Qab l0_0 x3_1).f2) ((Qab l0_0 x3_1).f3.f0) ((Qab l0_0 x3_1).f3.f1) ((Qab l0_0 x3_1).f3.f2) ((Qab l0_0 x3_1).f4) ((Qab l0_0 x3_1).f5) ((Qab l0_0 x3_1).f6) ((Qab l0_0 x3_1).f7) ((Qab l0_0 x3_1).f8))) else (none)) else (none)) = some r:=by first | (rw [hji58] at H; exact H) | (simp only [hji58] at H ⊢; exact H)
          (try rw [hji58] at A49)
          have hji58w : (IntKind.i64.wrap (x9_4 - 1)) = ji58:=(i64_w _).trans hji58
          by_cases c59 : 0 <= (ji58); rotate_left
          ·rw [if_neg c59] at H
           exact absurd H (by simp)
          show (let G_ : Prop:=_; G_)
          intro G_
          exact (let_tmp i_ : Nonempty G_:=(((⟨by
          subst G_
          rw [if_pos c59] at H
          have c59b0:=Zd c59
          clear c59
          by_cases c60 : (ji58) < (t208.length : Int); rotate_left
          ·rw [if_neg c60] at H
           exact absurd H (by simp)
          show (let G_ : Prop:=_; G_)
          intro G_
          exact (let_tmp i_ : Nonempty G_:=(((⟨by
          subst G_
          rw [if_pos c60] at H
          have c60b0:=Zd c60
          clear c60
          obtain ⟨t227,A61,H⟩:=bE H
          have H':=Zz.k H
          clear H
          try go_wp2
          generalize hgz : (((w45.setCell ⟨gb222,0,none⟩ (.int .i64 t218)).setCell ⟨gb222,1,none⟩ (.int .i64 t219)).setCell ⟨gb222,2,none⟩ (.int .i64 t220)) = w62
          have n0_ : Zz (Kd.R Qao 36 w62 w.heap.size (fun k_ => some k_ ≠ (v213 : Value).ownBlock /\ k_ ≠ gb222) (.slice Ao41 t208.length co41) t208):=by rw [<- hgz]; exact ⟨by (with_reducible repeat (first | apply Kd.R_alloc | apply Kd.R_drewN | apply Kd.R_drew)); exact Kd.R_mono (Kd.R_far (p:=⟨gb222,2,none⟩) (Kd.R_far (p:=⟨gb222,1,none⟩) (Kd.R_far (p:=⟨gb222,0,none⟩) (Kd.R_mono HO_5.out (fun k_ hk => (⟨hk,hk.2⟩ : _ /\ k_ ≠ gb222))) (fun _ hk => hk.2) (.int .i64 t218)) (fun _ hk => hk.2) (.int .i64 t219)) (fun _ hk => hk.2) (.int .i64 t220)) (fun _ hk => ⟨hk.1.1,hk.1.2⟩)⟩
          have n1_ : Zz (Kd.R Qao 36 w62 w.heap.size (fun k_ => some k_ ≠ (.slice Ao41 t208.length co41 : Value).ownBlock /\ k_ ≠ gb222) v213 t212):=by rw [<- hgz]; exact ⟨by (with_reducible repeat (first | apply Kd.R_alloc | apply Kd.R_drewN | apply Kd.R_drew)); exact Kd.R_mono (Kd.R_far (p:=⟨gb222,2,none⟩) (Kd.R_far (p:=⟨gb222,1,none⟩) (Kd.R_far (p:=⟨gb222,0,none⟩) (Kd.R_mono HO_7.out (fun k_ hk => (⟨hk,hk.2⟩ : _ /\ k_ ≠ gb222))) (fun _ hk => hk.2) (.int .i64 t218)) (fun _ hk => hk.2) (.int .i64 t219)) (fun _ hk => hk.2) (.int .i64 t220)) (fun _ hk => ⟨hk.1.1,hk.1.2⟩)⟩
          have n2_ : Zz (w62.heap[gb202]? = some (.cells #[.slice (some ad204) l0_0.length c0_0, .slice A0_1 l0_1.length c0_1, .slice A0_2 l0_2.length c0_2] 51 (0,0))):=by rw [<- hgz]; exact ⟨kk BK202⟩
          have n3_ : Zz (w62.heap[gb205]? = some (.cells #[.int .i64 ((Qab l0_0 x3_1).f0), .int .i64 ((Qab l0_0 x3_1).f1), .int .i64 ((Qab l0_0 x3_1).f2), .int .i64 ((Qab l0_0 x3_1).f3.f0), .int .i64 ((Qab l0_0 x3_1).f3.f1), .int .i64 ((Qab l0_0 x3_1).f3.f2), .string ((Qab l0_0 x3_1).f4), .slice A204_7 ((Qab l0_0 x3_1).f5).length c204_7, .int .i64 ((Qab l0_0 x3_1).f6), .int .i64 ((Qab l0_0 x3_1).f7), .int .i64 ((Qab l0_0 x3_1).f8)] 38 (0,0))):=by rw [<- hgz]; exact ⟨kk BK205⟩
          have n4_ : Zz (w62.heap[gb222]? = some (.cells #[.int .i64 t218, .int .i64 t219, .int .i64 t220] 36 (0,0))):=by rw [<- hgz]; exact ⟨bp (bp (bp (kk BK222) 0) 1) 2⟩
          have n5_ : Zz (Below w.heap.size w w62):=by rw [<- hgz]; exact ⟨bw HB⟩
          (try clear HO_5)
          (try clear HO_7)
          (try clear BK202)
          (try clear BK205)
          (try clear BK222)
          (try clear HB)
          clear hgz
          have HO_5:=n0_
          have HO_7:=n1_
          have BK202:=n2_
          have BK205:=n3_
          have BK222:=n4_
          have HB:=n5_
          clear n0_ n1_ n2_ n3_ n4_ n5_
          have n0_:=Zz.k (Kd.R_drew HO_5.out)
          have n1_:=Zz.k (Kd.R_drew HO_7.out)
          have n2_:=Zz.k (Qag BK202.out)
          have n3_:=Zz.k (Qag BK205.out)
          have n4_:=Zz.k (Qag BK222.out)
          have n5_:=Zz.k (Qah HB.out)
          clear HO_5
          clear HO_7
          clear BK202
          clear BK205
          clear BK222
          clear HB
          have HO_5:=n0_
          have HO_7:=n1_
          have BK202:=n2_
          have BK205:=n3_
          have BK222:=n4_
          have HB:=n5_
          clear n0_ n1_ n2_ n3_ n4_ n5_
          have p224 : 0 <= (x9_4 : Int):=od
          have q224 : x9_4 < (t208.length : Int):=od
          obtain ⟨ad224,e224,hx224_0,hx224_1,hx224_2⟩:=Qap (Kd.R_reads' HO_5.out).2.2 x9_4 p224 q224
          cases e224
          replace p224:=eq_true p224
          replace q224:=eq_true q224
          have p225 : 0 <= ((ji58) : Int):=od
          have q225 : (ji58) < (t208.length : Int):=od
          obtain ⟨ad225,e225,hx225_0,hx225_1,hx225_2⟩:=Qap (Kd.R_reads' HO_5.out).2.2 (ji58) p225 q225
          obtain rfl : ad224 = ad225:=(by injection e225)
          replace p225:=eq_true p225
          replace q225:=eq_true q225
          refine stP (fun w' => B3 w' gb222 (.int .i64 t218) (.int .i64 t219) (.int .i64 t220) (B11 w' gb205 (.int .i64 ((Qab l0_0 x3_1).f0)) (.int .i64 ((Qab l0_0 x3_1).f1)) (.int .i64 ((Qab l0_0 x3_1).f2)) (.int .i64 ((Qab l0_0 x3_1).f3.f0)) (.int .i64 ((Qab l0_0 x3_1).f3.f1)) (.int .i64 ((Qab l0_0 x3_1).f3.f2)) (.string ((Qab l0_0 x3_1).f4)) (.slice A204_7 ((Qab l0_0 x3_1).f5).length c204_7) (.int .i64 ((Qab l0_0 x3_1).f6)) (.int .i64 ((Qab l0_0 x3_1).f7)) (.int .i64 ((Qab l0_0 x3_1).f8)) (w'.cell? (ad224.add ((x9_4).toNat * 3)) = some (.int .i64 ((Qaa t208 x9_4).f0)) /\ w'.cell? ⟨(ad224.add ((x9_4).toNat * 3)).block,(ad224.add ((x9_4).toNat * 3)).off + 1,none⟩ = some (.int .i64 ((Qaa t208 x9_4).f1)) /\ w'.cell? ⟨(ad224.add ((x9_4).toNat * 3)).block,(ad224.add ((x9_4).toNat * 3)).off + 2,none⟩ = some (.int .i64 ((Qaa t208 x9_4).f2)) /\ w'.cell? (ad224.add (((ji58)).toNat * 3)) = some (.int .i64 ((Qaa t208 (ji58)).f0)) /\ w'.cell? ⟨(ad224.add (((ji58)).toNat * 3)).block,(ad224.add (((ji58)).toNat * 3)).off + 1,none⟩ = some (.int .i64 ((Qaa t208 (ji58)).f1)) /\ w'.cell? ⟨(ad224.add (((ji58)).toNat * 3)).block,(ad224.add (((ji58)).toNat * 3)).off + 2,none⟩ = some (.int .i64 ((Qaa t208 (ji58)).f2))))) 42 (b3 BK222 (b11 BK205 ⟨hx224_0,hx224_1,hx224_2,hx225_0,hx225_1,hx225_2⟩)) (h:=fun hHeld => ?_); refine Qal w4_OpOwn.tab16 w4_OpOwn.bits16 (fun HT_ HW_ => ?_)
          generalize w62.drew = w63 at HO_5 HO_7 BK202 BK205 BK222 HB hx224_0 hx224_1 hx224_2 hx225_0 hx225_1 hx225_2 hx224_0 hx224_1 hx224_2 hHeld ⊢
          refine pu HT_ 0 74 1 (h := ?_)
          refine on HT_ 1 (some 75) 3 (h:=fun K hK => ?_)
          refine gS Try.func19 #[.int .i64 t221] (h := ?_)
          with_reducible refine (w4_num.calls t221 t223 _ A49.out).mono ?_
          rintro e w' ⟨rfl,⟨nd,rfl⟩⟩
          refine ⟨_,rfl, ?_⟩
          refine hK.out _ _ (b3 BK222 (b11 BK205 ⟨hHeld.2.2.2.2.2.2.2.2.2.2.2.2.2.2.1,hHeld.2.2.2.2.2.2.2.2.2.2.2.2.2.2.2.1,hHeld.2.2.2.2.2.2.2.2.2.2.2.2.2.2.2.2.1,hHeld.2.2.2.2.2.2.2.2.2.2.2.2.2.2.2.2.2.1,hHeld.2.2.2.2.2.2.2.2.2.2.2.2.2.2.2.2.2.2.1,hHeld.2.2.2.2.2.2.2.2.2.2.2.2.2.2.2.2.2.2.2⟩)) (fun hHeld => ?_)
          clear hK K
          refine nn 75 (h := ?_)
          refine pu HT_ 2 76 7 (h := ?_)
          refine pu HT_ 3 77 15 (h := ?_)
          refine pu HT_ 5 79 47 (h := ?_)
          refine pu HT_ 6 80 111 (h := ?_)
          refine pu HT_ 7 81 239 (h := ?_)
          refine tk HT_ HW_ hHeld 4 78 255 (h := ?_)
          refine tk HT_ HW_ hHeld 8 82 511 (h := ?_)
          refine pu HT_ 9 83 1023 (h := ?_)
          refine pu HT_ 10 84 2047 (h := ?_)
          refine pu HT_ 11 85 4095 (h := ?_)
          refine pu HT_ 12 86 8191 (h := ?_)
          refine pu HT_ 14 88 24575 (h := ?_)
          refine tk HT_ HW_ hHeld 13 87 32767 (h := ?_)
          refine tk HT_ HW_ hHeld 15 89 65535 (h := ?_)
          refine pu HT_ 16 90 131071 (h := ?_)
          refine pu HT_ 17 91 262143 (h := ?_)
          refine pu HT_ 18 92 524287 (h := ?_)
          refine pu HT_ 19 93 1048575 (h := ?_)
          refine pu HT_ 21 95 3145727 (h := ?_)
          refine tk HT_ HW_ hHeld 20 94 4194303 (h := ?_)
          refine tk HT_ HW_ hHeld 22 96 8388607 (h := ?_)
          refine pu HT_ 23 97 16777215 (h := ?_)
          refine pu HT_ 24 98 33554431 (h := ?_)
          refine pu HT_ 25 99 67108863 (h := ?_)
          refine pu HT_ 26 100 134217727 (h := ?_)
          refine pu HT_ 27 101 268435455 (h := ?_)
          refine pu HT_ 28 102 536870911 (h := ?_)
          refine pu HT_ 29 103 1073741823 (h := ?_)
          refine pu HT_ 30 104 2147483647 (h := ?_)
          refine pu HT_ 31 105 4294967295 (h := ?_)
          refine pu HT_ 32 106 8589934591 (h := ?_)
          refine pu HT_ 34 108 25769803775 (h := ?_)
          refine pu HT_ 35 109 60129542143 (h := ?_)
          refine pu HT_ 36 110 128849018879 (h := ?_)
          refine tk HT_ HW_ hHeld 33 107 137438953471 (h := ?_)
          refine tk HT_ HW_ hHeld 37 111 274877906943 (h := ?_)
          refine on HT_ 38 (some 112) 549755813887 (h:=fun K hK => ?_)
          refine goes_ Try.func24 (by kernel_rfl) rfl #[.agg #[.int .i64 ((Qaa t208 (ji58)).f0), .int .i64 ((Qaa t208 (ji58)).f1), .int .i64 ((Qaa t208 (ji58)).f2)], .agg #[.int .i64 ((Qaa t208 x9_4).f0), .int .i64 ((Qaa t208 x9_4).f1), .int .i64 ((Qaa t208 x9_4).f2)]] (by rfl) rfl rfl (by (try simp only [List.map_toArray,List.map_cons,List.map_nil]); first | done | (simp only [hji58]; rfl) | rfl | (simp only [List.length_drop,List.length_take]; rfl)) ?_
          with_reducible refine (op_Less.calls k4 ((Qaa t208 (ji58)).f0) ((Qaa t208 (ji58)).f1) ((Qaa t208 (ji58)).f2) ((Qaa t208 x9_4).f0) ((Qaa t208 x9_4).f1) ((Qaa t208 x9_4).f2) t227 _ A61.out).mono ?_
          rintro e w64 ⟨rfl,hb⟩
          have HS14_:=(hb.cell (World.block_lt_of_cell? _ _ (hHeld.2.2.2.2.2.2.2.2.2.2.2.2.2.2.1))).trans (hHeld.2.2.2.2.2.2.2.2.2.2.2.2.2.2.1)
          have HS15_:=(hb.cell (World.block_lt_of_cell? _ _ (hHeld.2.2.2.2.2.2.2.2.2.2.2.2.2.2.2.1))).trans (hHeld.2.2.2.2.2.2.2.2.2.2.2.2.2.2.2.1)
          have HS16_:=(hb.cell (World.block_lt_of_cell? _ _ (hHeld.2.2.2.2.2.2.2.2.2.2.2.2.2.2.2.2.1))).trans (hHeld.2.2.2.2.2.2.2.2.2.2.2.2.2.2.2.2.1)
          have HS17_:=(hb.cell (World.block_lt_of_cell? _ _ (hHeld.2.2.2.2.2.2.2.2.2.2.2.2.2.2.2.2.2.1))).trans (hHeld.2.2.2.2.2.2.2.2.2.2.2.2.2.2.2.2.2.1)
          have HS18_:=(hb.cell (World.block_lt_of_cell? _ _ (hHeld.2.2.2.2.2.2.2.2.2.2.2.2.2.2.2.2.2.2.1))).trans (hHeld.2.2.2.2.2.2.2.2.2.2.2.2.2.2.2.2.2.2.1)
          have HS19_:=(hb.cell (World.block_lt_of_cell? _ _ (hHeld.2.2.2.2.2.2.2.2.2.2.2.2.2.2.2.2.2.2.2))).trans (hHeld.2.2.2.2.2.2.2.2.2.2.2.2.2.2.2.2.2.2.2)
          have HS20_:=(hb.cell (World.block_lt_of_cell? _ _ (hHeld.2.2.2.2.2.2.2.2.2.2.2.2.2.2.1))).trans (hHeld.2.2.2.2.2.2.2.2.2.2.2.2.2.2.1)
          have HS21_:=(hb.cell (World.block_lt_of_cell? _ _ (hHeld.2.2.2.2.2.2.2.2.2.2.2.2.2.2.2.1))).trans (hHeld.2.2.2.2.2.2.2.2.2.2.2.2.2.2.2.1)
          have HS22_:=(hb.cell (World.block_lt_of_cell? _ _ (hHeld.2.2.2.2.2.2.2.2.2.2.2.2.2.2.2.2.1))).trans (hHeld.2.2.2.2.2.2.2.2.2.2.2.2.2.2.2.2.1)
          refine ⟨_,rfl, ?_⟩
          have n0_:=rb HO_5 hb
          have n1_:=rb HO_7 hb
          have n2_:=bl BK202 hb
          have n3_:=bl BK205 hb
          have n4_:=bl BK222 hb
          have n5_:=bs HB hb
          clear HO_5
          clear HO_7
          clear BK202
          clear BK205
          clear BK222
          clear HB
          have HO_5:=n0_
          have HO_7:=n1_
          have BK202:=n2_
          have BK205:=n3_
          have BK222:=n4_
          have HB:=n5_
          clear n0_ n1_ n2_ n3_ n4_ n5_
          (try clear hb)
          (try clear hb2)
          (try clear hk)
          (try clear hi)
          refine hK.out _ _ (b3 BK222 (b11 BK205 ⟨HS14_,HS15_,HS16_,HS17_,HS18_,HS19_⟩)) (fun hHeld => ?_)
          clear hK K
          refine nn 112 (h := ?_)
          refine pu HT_ 39 113 1099511627775 (h := ?_)
          refine pu HT_ 40 114 2199023255551 (h := ?_)
          refine pu HT_ 41 115 4398046511103 (h := ?_)
          refine dn HT_ (h := ?_)
          try go_wp2
          go_meet
          case rel => exact ⟨_,(!t227),rf,H',⟨by have:=HK1.out; have:=HJ9.out; have:=HJ21.out; have:=HK4.out; first | omega | exact Nat.le_refl _⟩,⟨rk HO_5⟩,⟨rk HO_7⟩,⟨kk BK202⟩,⟨kk BK205⟩,⟨kk BK222⟩,⟨bw HB⟩⟩⟩ : Nonempty G_)) :); w4_OpOwn.bxo (G:=G_) (inferInstanceAs (Nonempty G_)))⟩ : Nonempty G_)) :); w4_OpOwn.bxo (G:=G_) (inferInstanceAs (Nonempty G_)))⟩ : Nonempty G_)) :); w4_OpOwn.bxo (G:=G_) (inferInstanceAs (Nonempty G_)))⟩ : Nonempty G_)) :); w4_OpOwn.bxo (G:=G_) (inferInstanceAs (Nonempty G_)))⟩ : Nonempty G_)) :); w4_OpOwn.bxo (G:=G_) (inferInstanceAs (Nonempty G_)))⟩ : Nonempty G_)) :); w4_OpOwn.bxo (G:=G_) (inferInstanceAs (Nonempty G_)))⟩ : Nonempty G_)) :); w4_OpOwn.bxo (G:=G_) (inferInstanceAs (Nonempty G_)))
         case rest =>
          show (let G_ : Prop:=_; G_)
          intro G_
          exact (let_tmp i_ : Nonempty G_:=(((⟨by
          subst G_
          clear HC40
          obtain ⟨kq,x115_39,rfl,HA,HJ39,HO_5,HO_7,BK202,BK205,BK222,HB⟩:=hcut
          cases kq with
          | zero => exact absurd HA.out (by simp [w4_OpOwn.j4])
          | succ kj39 =>
           have H:=HA.out
           clear HA
           simp only [w4_OpOwn.j4] at H
           by_cases c73 : x115_39 = true
           ·show (let G_ : Prop:=_; G_)
            intro G_
            exact (let_tmp i_ : Nonempty G_:=(((⟨by
            subst G_
            subst c73
            rw [if_pos rfl] at H
            obtain rfl:=Zo H
            go_wp2
            go_ret
            exact ⟨re,bw HB⟩⟩ : Nonempty G_)) :); w4_OpOwn.bxo (G:=G_) (inferInstanceAs (Nonempty G_)))
           replace c73:=Zf c73
           subst c73
           rw [if_neg nft] at H
           have H':=Zz.k H
           clear H
           go_wp2
           go_roundg kj39
           case measure => have:=HK1.out; have:=HJ9.out; have:=HJ21.out; have:=HK4.out; have:=HJ39.out; omega
           case rel => exact ⟨(wrap64 (x9_4 + 1)),rf,H',⟨by have:=HK1.out; have:=HJ9.out; have:=HJ21.out; have:=HK4.out; have:=HJ39.out; omega⟩,⟨by (with_reducible repeat (first | apply Kd.R_alloc | apply Kd.R_drewN | apply Kd.R_drew)); exact Kd.R_mono HO_5.out (fun _ hk => hk.1)⟩,⟨by (with_reducible repeat (first | apply Kd.R_alloc | apply Kd.R_drewN | apply Kd.R_drew)); exact Kd.R_mono HO_7.out (fun _ hk => hk.1)⟩,⟨kk BK202⟩,⟨kk BK205⟩,⟨bw HB⟩⟩⟩ : Nonempty G_)) :); w4_OpOwn.bxo (G:=G_) (inferInstanceAs (Nonempty G_)))⟩ : Nonempty G_)) :); w4_OpOwn.bxo (G:=G_) (inferInstanceAs (Nonempty G_)))⟩ : Nonempty G_)) :); w4_OpOwn.bxo (G:=G_) (inferInstanceAs (Nonempty G_)))⟩ : Nonempty G_)) :); w4_OpOwn.bxo (G:=G_) (inferInstanceAs (Nonempty G_)))⟩ : Nonempty G_)) :); w4_OpOwn.bxo (G:=G_) (inferInstanceAs (Nonempty G_)))⟩ : Nonempty G_)) :); w4_OpOwn.bxo (G:=G_) (inferInstanceAs (Nonempty G_)))⟩ : Nonempty G_)) :); w4_OpOwn.bxo (G:=G_) (inferInstanceAs (Nonempty G_)))⟩ : Nonempty G_)) :); w4_OpOwn.bxo (G:=G_) (inferInstanceAs (Nonempty G_)))⟩ : Nonempty G_)) :); w4_OpOwn.bxo (G:=G_) (inferInstanceAs (Nonempty G_)))⟩ : Nonempty G_)) :); w4_OpOwn.bxo (G:=G_) (inferInstanceAs (Nonempty G_)))
end
end Go.Proofs.Ytonoaflfobajcaa.L
end
