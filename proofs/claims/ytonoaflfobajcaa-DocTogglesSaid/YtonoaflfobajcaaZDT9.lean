/- Part 9 of the proof that for every argument the law DocToggles answers true: with a toggle that does not count the text is as it was, with two of one edit too, with one what it wrote is visible no more, or again. -/
import Derived.Test.YtonoaflfobajcaaZDT8
section
namespace Go.Proofs.Ytonoaflfobajcaa.L
open Go.RowKit Go.Proofs.YtonoaflfobajcaaW.PrintWords Go.Proofs.YtonoaflfobajcaaW.PrintLast Go.Proofs.YtonoaflfobajcaaW.PrintMore
attribute [local go_sem] max2_int min2_int max_two min_two max_three min_three max_four min_four
set_option linter.unusedVariables false
set_option linter.unusedSimpArgs false
theorem dup11 {w : World} {a : Addr} {o : SOp} {A : Option Addr} {c : Nat} (h : Q11 w a o A c) : P11 w a o A c (Q11 w a o A c):=by
 obtain ⟨h0,h1,h2,h3,h4,h5,h6,h7,h8,h9,h10⟩:=h
 exact ⟨h0,h1,h2,h3,h4,h5,h6,h7,h8,h9,h10,h0,h1,h2,h3,h4,h5,h6,h7,h8,h9,h10⟩
theorem w6_DocToggles.bxo {G : Prop} (h : Nonempty G) : G:=h.elim id
mutual
def w6_DocToggles.l0 : Nat → Int → List (List (SOp)) → List (SElem) → List (SOp) → List Int → Option (Bool)
 | 0,_,_,_,_,_ => none
 | k + 1,x3,x239000,x239001,x239002,x239003 => if x3 < (x239000.length : Int) then (w6_DocToggles.j1 k x3 (decide (x3 < 4)) x239000 x239001 x239002 x239003) else (w6_DocToggles.j1 k x3 false x239000 x239001 x239002 x239003)
def w6_DocToggles.j1 : Nat → Int → Bool → List (List (SOp)) → List (SElem) → List (SOp) → List Int → Option (Bool)
 | 0,_,_,_,_,_,_ => none
 | k + 1,x3,x38,x239000,x239001,x239002,x239003 => if x38 = true then (if 0 ≤ x3 then (if x3 < (x239000.length : Int) then ((doc_Text.f (rd_LOp x239000 x3)).bind fun bt241 => ((w6_num.f bt241.2).bind fun t243 => (if t243 = 0 then (w6_DocToggles.l1 k x3 (rd_LOp x239000 x3) bt241.1 0 x239000 x239001 x239002 x239003) else (w6_DocToggles.l0 k (wrap64 (x3 + 1)) x239000 x239001 x239002 x239003)))) else (none)) else (none)) else ((r1_Rune.f 97).bind fun t309 => (if t309 = true then ((w6_wakes.f).bind fun t310 => (some t310)) else (some false)))
def w6_DocToggles.l1 : Nat → Int → List (SOp) → ByteArray → Int → List (List (SOp)) → List (SElem) → List (SOp) → List Int → Option (Bool)
 | 0,_,_,_,_,_,_,_,_ => none
 | k + 1,x3,x4,x5,x7,x239000,x239001,x239002,x239003 => if x7 < (x4.length : Int) then (if 0 ≤ x7 then ((doc_Count.f k x4 ((rd_Op x4 x7).f0) ((rd_Op x4 x7).f1)).bind fun bt246 => ((w6_num.f bt246.2).bind fun t248 => (if t248 = 0 then (w6_DocToggles.l2 k x3 x4 x5 x7 bt246.1 (wrap64 (1 + (Int.tmod (wrap64 (x3 + x7)) 8))) 1 0 x239000 x239001 x239002 x239003) else (w6_DocToggles.l1 k x3 x4 x5 (wrap64 (x7 + 1)) x239000 x239001 x239002 x239003)))) else (none)) else (w6_DocToggles.l0 k (wrap64 (x3 + 1)) x239000 x239001 x239002 x239003)
def w6_DocToggles.l2 : Nat → Int → List (SOp) → ByteArray → Int → Int → Int → Int → Int → List (List (SOp)) → List (SElem) → List (SOp) → List Int → Option (Bool)
 | 0,_,_,_,_,_,_,_,_,_,_,_,_ => none
 | k + 1,x3,x4,x5,x7,x8,x10,x11,x12,x239000,x239001,x239002,x239003 => if x12 < (x4.length : Int) then (if 0 ≤ x12 then (if ((rd_Op x4 x12).f0) = x10 then (w6_DocToggles.l2 k x3 x4 x5 x7 x8 x10 (wrap64 (x11 + 1)) (wrap64 (x12 + 1)) x239000 x239001 x239002 x239003) else (w6_DocToggles.l2 k x3 x4 x5 x7 x8 x10 x11 (wrap64 (x12 + 1)) x239000 x239001 x239002 x239003)) else (none)) else (if 0 ≤ x7 then (if x7 < (x4.length : Int) then (if x10 = ((rd_Op x4 x7).f0) then (w6_DocToggles.j4 k x3 x4 x5 x7 x8 x10 x11 (x11 == ((rd_Op x4 x7).f1)) x239000 x239001 x239002 x239003) else (w6_DocToggles.j4 k x3 x4 x5 x7 x8 x10 x11 false x239000 x239001 x239002 x239003)) else (none)) else (none))
def w6_DocToggles.j4 : Nat → Int → List (SOp) → ByteArray → Int → Int → Int → Int → Bool → List (List (SOp)) → List (SElem) → List (SOp) → List Int → Option (Bool)
 | 0,_,_,_,_,_,_,_,_,_,_,_,_ => none
 | k + 1,x3,x4,x5,x7,x8,x10,x11,x113,x239000,x239001,x239002,x239003 => if x113 = true then (w6_DocToggles.l1 k x3 x4 x5 (wrap64 (x7 + 1)) x239000 x239001 x239002 x239003) else ((r0_CopyOps.f k x4).bind fun t252 => (if 0 ≤ x7 then (if x7 < (x4.length : Int) then ((some (([(⟨x10,x11,2,(⟨0,0,0⟩ : SElem),(⟨#[]⟩ : ByteArray),([] : List (SElem)),(rd_Op x4 x7).f0,(rd_Op x4 x7).f1,wrap64 ((wrap64 (x8 + 1)) + (Int.tmod x7 3))⟩ : SOp)] : List (SOp)) : List (SOp))).bind fun y257 => (if t252.length + y257.length < 1256584717458 then ((some (t252 ++ y257 : List (SOp))).bind fun y260 => ((r0_CopyOps.f k x4).bind fun t263 => ((some (([(⟨x10,x11,2,(⟨0,0,0⟩ : SElem),(⟨#[]⟩ : ByteArray),([] : List (SElem)),(rd_Op x4 x7).f0,(rd_Op x4 x7).f1,x8⟩ : SOp)] : List (SOp)) : List (SOp))).bind fun y268 => (if t263.length + y268.length < 1256584717458 then ((some (t263 ++ y268 : List (SOp))).bind fun y271 => ((r0_CopyOps.f k y271).bind fun t274 => ((some (([(⟨x10,wrap64 (x11 + 1),2,(⟨0,0,0⟩ : SElem),(⟨#[]⟩ : ByteArray),([] : List (SElem)),(rd_Op x4 x7).f0,(rd_Op x4 x7).f1,wrap64 (x8 + 1)⟩ : SOp)] : List (SOp)) : List (SOp))).bind fun y279 => (if t274.length + y279.length < 1256584717458 then ((some (t274 ++ y279 : List (SOp))).bind fun y282 => (if (y282.length : Int) > 40 then (w6_DocToggles.l1 k x3 x4 x5 (wrap64 (x7 + 1)) x239000 x239001 x239002 x239003) else ((doc_Text.f y260).bind fun bt285 => ((doc_Text.f y282).bind fun bt287 => ((doc_Effective.f k x4 ((rd_Op x4 x7).f0) ((rd_Op x4 x7).f1)).bind fun bt291 => ((doc_Effective.f k y271 ((rd_Op x4 x7).f0) ((rd_Op x4 x7).f1)).bind fun bt295 => (if 0 ≤ (x4.length : Int) then (if (x4.length : Int) < (y260.length : Int) then ((doc_Idle.f x4 ((rd_Op y260 (x4.length : Int)).f0) ((rd_Op y260 (x4.length : Int)).f1) ((rd_Op y260 (x4.length : Int)).f2) ((rd_Op y260 (x4.length : Int)).f3.f0) ((rd_Op y260 (x4.length : Int)).f3.f1) ((rd_Op y260 (x4.length : Int)).f3.f2) ((rd_Op y260 (x4.length : Int)).f4) ((rd_Op y260 (x4.length : Int)).f5) ((rd_Op y260 (x4.length : Int)).f6) ((rd_Op y260 (x4.length : Int)).f7) ((rd_Op y260 (x4.length : Int)).f8)).bind fun bt298 => (if (x4.length : Int) < (y271.length : Int) then ((doc_Idle.f x4 ((rd_Op y271 (x4.length : Int)).f0) ((rd_Op y271 (x4.length : Int)).f1) ((rd_Op y271 (x4.length : Int)).f2) ((rd_Op y271 (x4.length : Int)).f3.f0) ((rd_Op y271 (x4.length : Int)).f3.f1) ((rd_Op y271 (x4.length : Int)).f3.f2) ((rd_Op y271 (x4.length : Int)).f4) ((rd_Op y271 (x4.length : Int)).f5) ((rd_Op y271 (x4.length : Int)).f6) ((rd_Op y271 (x4.length : Int)).f7) ((rd_Op y271 (x4.length : Int)).f8)).bind fun bt301 => ((w6_num.f bt285.2).bind fun t303 => ((w6_num.f bt287.2).bind fun t304 => ((w6_num.f bt291.2).bind fun t305 => ((w6_num.f bt295.2).bind fun t306 => ((w6_num.f bt298.2).bind fun t307 => ((w6_num.f bt301.2).bind fun t308 => (if (wrap64 ((wrap64 ((wrap64 ((wrap64 ((wrap64 (t303 + t304)) + t305)) + t306)) + t307)) + t308)) = 0 then (if bt285.1.toList = x5.toList then (if bt287.1.toList = x5.toList then (if (bt291.1 == bt295.1) = true then (w6_DocToggles.j5 k x3 x4 x5 x7 true x239000 x239001 x239002 x239003) else (if bt298.1 = true then (w6_DocToggles.j5 k x3 x4 x5 x7 bt301.1 x239000 x239001 x239002 x239003) else (w6_DocToggles.j5 k x3 x4 x5 x7 true x239000 x239001 x239002 x239003))) else (w6_DocToggles.j5 k x3 x4 x5 x7 true x239000 x239001 x239002 x239003)) else (w6_DocToggles.j5 k x3 x4 x5 x7 true x239000 x239001 x239002 x239003)) else (w6_DocToggles.j5 k x3 x4 x5 x7 true x239000 x239001 x239002 x239003))))))))) else (none))) else (none)) else (none)))))))) else (none))))) else (none))))) else (none))) else (none)) else (none)))
def w6_DocToggles.j5 : Nat → Int → List (SOp) → ByteArray → Int → Bool → List (List (SOp)) → List (SElem) → List (SOp) → List Int → Option (Bool)
 | 0,_,_,_,_,_,_,_,_,_ => none
 | k + 1,x3,x4,x5,x7,x276,x239000,x239001,x239002,x239003 => if x276 = true then (some false) else (w6_DocToggles.l1 k x3 x4 x5 (wrap64 (x7 + 1)) x239000 x239001 x239002 x239003)
end
def w6_DocToggles.f (k : Nat) (l0_0 : List (List (SOp))) (l0_1 : List (SElem)) (l0_2 : List (SOp)) (l0_3 : List Int) : Option (Bool):=(w5_Heavy.f k l0_0 l0_1 l0_2 l0_3).bind fun t239 => (if t239 = true then (some true) else (w6_DocToggles.l0 k 0 l0_0 l0_1 l0_2 l0_3))
def w6_DocToggles.T12 : Bool × List (List Nat × List Nat):=(true,[([],[]),([],[]),([],[]),([1,2],[1,2]),([3],[3]),([4],[4]),([],[]),([],[]),([6,7],[6,7]),([8],[8]),([9],[9]),([0,5,10],[0,5,10]),([11],[11]),([12],[12]),([12],[12]),([13,11,0,1,2,3,4,5,6,7,8,9,10,11,12,13],[13]),([14,15,0,1,2,3,4,5,6,7,8,9,10,11,12,13,14,15],[14])])
def w6_DocToggles.B12 : List Nat:=[0,0,0,6,14,30,0,0,192,448,960,2047,4095,8191,8191,16383,65535]
theorem w6_DocToggles.tab12 : rtab .any (opsOf Try.f3 12) = w6_DocToggles.T12:=by kernel_rfl
theorem w6_DocToggles.bits12 : waitsOk w6_DocToggles.T12.2 w6_DocToggles.B12 = true:=by kernel_rfl
def w6_DocToggles.T22 : Bool × List (List Nat × List Nat):=(true,[([],[]),([0],[0]),([],[]),([],[]),([],[]),([],[]),([4,5],[4,5]),([6],[6]),([7],[7]),([],[]),([],[]),([9,10],[9,10]),([11],[11]),([12],[12]),([],[]),([14],[14]),([],[]),([16],[16]),([15,17],[15,17]),([2,3,8,13,18],[2,3,8,13,18]),([19],[19]),([1,20,1],[1,20]),([21,21,0,1,2,3,4,5,6,7,8,9,10,11,12,13,14,15,16,17,18,19,20,21],[21])])
def w6_DocToggles.B22 : List Nat:=[0,1,0,0,0,0,48,112,240,0,0,1536,3584,7680,0,16384,0,65536,245760,524284,1048572,2097151,4194303]
theorem w6_DocToggles.tab22 : rtab .any (opsOf Try.f3 22) = w6_DocToggles.T22:=by kernel_rfl
theorem w6_DocToggles.bits22 : waitsOk w6_DocToggles.T22.2 w6_DocToggles.B22 = true:=by kernel_rfl
def w6_DocToggles.T23 : Bool × List (List Nat × List Nat):=(true,[([],[]),([0],[0]),([],[]),([],[]),([],[]),([],[]),([4,5],[4,5]),([6],[6]),([7],[7]),([],[]),([],[]),([9,10],[9,10]),([11],[11]),([12],[12]),([],[]),([2,3,8,13,14],[2,3,8,13,14]),([15],[15]),([1,16,1],[1,16]),([17,17,0,1,2,3,4,5,6,7,8,9,10,11,12,13,14,15,16,17],[17])])
def w6_DocToggles.B23 : List Nat:=[0,1,0,0,0,0,48,112,240,0,0,1536,3584,7680,0,32764,65532,131071,262143]
theorem w6_DocToggles.tab23 : rtab .any (opsOf Try.f3 23) = w6_DocToggles.T23:=by kernel_rfl
theorem w6_DocToggles.bits23 : waitsOk w6_DocToggles.T23.2 w6_DocToggles.B23 = true:=by kernel_rfl
def w6_DocToggles.T24 : Bool × List (List Nat × List Nat):=(true,[([],[]),([0],[0]),([],[]),([],[]),([3],[3]),([],[]),([],[]),([5,6],[5,6]),([7],[7]),([8],[8]),([],[]),([],[]),([10,11],[10,11]),([12],[12]),([13],[13]),([],[]),([15],[15]),([2,4,9,14,16],[2,4,9,14,16]),([17],[17]),([1,18,1],[1,18]),([19,19,0,1,2,3,4,5,6,7,8,9,10,11,12,13,14,15,16,17,18,19],[19])])
def w6_DocToggles.B24 : List Nat:=[0,1,0,0,8,0,0,96,224,480,0,0,3072,7168,15360,0,32768,131068,262140,524287,1048575]
theorem w6_DocToggles.tab24 : rtab .any (opsOf Try.f3 24) = w6_DocToggles.T24:=by kernel_rfl
theorem w6_DocToggles.bits24 : waitsOk w6_DocToggles.T24.2 w6_DocToggles.B24 = true:=by kernel_rfl
def w6_DocToggles.T28 : Bool × List (List Nat × List Nat):=(true,[([],[]),([],[]),([],[]),([1,2],[1,2]),([3],[3]),([4],[4]),([],[]),([],[]),([6,7],[6,7]),([8],[8]),([9],[9]),([0,5,10],[0,5,10]),([11],[11]),([12],[12]),([12],[12]),([13,11,0,1,2,3,4,5,6,7,8,9,10,11,12,13],[13]),([14,15,0,1,2,3,4,5,6,7,8,9,10,11,12,13,14,15],[14])])
def w6_DocToggles.B28 : List Nat:=[0,0,0,6,14,30,0,0,192,448,960,2047,4095,8191,8191,16383,65535]
theorem w6_DocToggles.tab28 : rtab .any (opsOf Try.f3 28) = w6_DocToggles.T28:=by kernel_rfl
theorem w6_DocToggles.bits28 : waitsOk w6_DocToggles.T28.2 w6_DocToggles.B28 = true:=by kernel_rfl
def w6_DocToggles.T29 : Bool × List (List Nat × List Nat):=(true,[([],[]),([],[]),([],[]),([1,2],[1,2]),([3],[3]),([4],[4]),([],[]),([],[]),([6,7],[6,7]),([8],[8]),([9],[9]),([0,5,10],[0,5,10]),([11],[11]),([12],[12]),([12],[12]),([13,11,0,1,2,3,4,5,6,7,8,9,10,11,12,13],[13]),([14,15,0,1,2,3,4,5,6,7,8,9,10,11,12,13,14,15],[14])])
def w6_DocToggles.B29 : List Nat:=[0,0,0,6,14,30,0,0,192,448,960,2047,4095,8191,8191,16383,65535]
theorem w6_DocToggles.tab29 : rtab .any (opsOf Try.f3 29) = w6_DocToggles.T29:=by kernel_rfl
theorem w6_DocToggles.bits29 : waitsOk w6_DocToggles.T29.2 w6_DocToggles.B29 = true:=by kernel_rfl
set_option maxHeartbeats 40000000 in
set_option maxRecDepth 100000 in
theorem w6_DocToggles.calls (k : Nat) (A0_0 : Option Addr) (c0_0 : Nat) (l0_0 : List (List (SOp))) (A0_1 : Option Addr) (c0_1 : Nat) (l0_1 : List (SElem)) (A0_2 : Option Addr) (c0_2 : Nat) (l0_2 : List (SOp)) (A0_3 : Option Addr) (c0_3 : Nat) (l0_3 : List Int) (r : Bool) (w : World) (hr0_0 : Kd.C (Kd.slice 38 kOp) w A0_0 l0_0.length l0_0) (hc0_0 : l0_0.length ≤ c0_0) (hr0_1 : Kd.C kElem w A0_1 l0_1.length l0_1) (hc0_1 : l0_1.length ≤ c0_1) (hr0_2 : Kd.C kOp w A0_2 l0_2.length l0_2) (hc0_2 : l0_2.length ≤ c0_2) (hr0_3 : Kd.C (Kd.int .i64) w A0_3 l0_3.length l0_3) (hc0_3 : l0_3.length ≤ c0_3) (h : w6_DocToggles.f k l0_0 l0_1 l0_2 l0_3 = some r) :
  Calls Try.prog 3 #[.agg #[.slice A0_0 l0_0.length c0_0, .slice A0_1 l0_1.length c0_1, .slice A0_2 l0_2.length c0_2, .slice A0_3 l0_3.length c0_3]] w fun e w' => e = .returned (.bool r) ∧ Below w.heap.size w w':=by
 have hu27:=Try.underlying27
 have hu38:=Try.underlying38
 have HR0_0:=Aside0.mk hr0_0
 have HC0_0:=Aside0.mk hc0_0
 clear hr0_0 hc0_0
 have HR0_1:=Aside0.mk hr0_1
 have HC0_1:=Aside0.mk hc0_1
 clear hr0_1 hc0_1
 have HR0_2:=Aside0.mk hr0_2
 have HC0_2:=Aside0.mk hc0_2
 clear hr0_2 hc0_2
 have HR0_3:=Aside0.mk hr0_3
 have HC0_3:=Aside0.mk hc0_3
 clear hr0_3 hc0_3
 have HB:=Aside0.mk (Below.refl w.heap.size w)
 unfold w6_DocToggles.f at h; have H:=h
 clear h
 obtain ⟨t239,A2,H⟩:=bE H
 by_cases c3 : t239 = true
 ·subst c3
  rw [if_pos rfl] at H
  obtain rfl:=Option.some.inj H
  go_enter Try.func3,Try.ntmps3
  go_wp2_with (first | ((with_reducible refine gate_dst (N:=1) rfl ?_); refine bx 1 #[.slice A0_0 l0_0.length c0_0, .slice A0_1 l0_1.length c0_1, .slice A0_2 l0_2.length c0_2, .slice A0_3 l0_3.length c0_3] 27 (h := ?_); intro gb238 hg w4 hbox hb; have BK238:=Aside0.mk (hbox); have GW238:=bz HB hg; have GE238:=bz HB hg; replace HB:=bs HB hb; clear hb hbox hg; obtain ⟨_,_,_,_,_,_,_,_⟩:=kc4 BK238) | ((with_reducible refine gate_callee (f:=6) rfl ?_); refine gl (some 29) Try.func6 #[.agg #[.slice A0_0 l0_0.length c0_0, .slice A0_1 l0_1.length c0_1, .slice A0_2 l0_2.length c0_2, .slice A0_3 l0_3.length c0_3]] (h := ?_); (with_reducible refine (w5_Heavy.calls k _ _ l0_0 _ _ l0_1 _ _ l0_2 _ _ l0_3 true _ ?side1 ?side2 ?side3 ?side4 ?side5 ?side6 ?side7 ?side8 A2.out).mono ?_); (case side1 => exact cb HR0_0 HB); (case side2 => exact HC0_0.out); (case side3 => exact cb HR0_1 HB); (case side4 => exact HC0_1.out); (case side5 => exact cb HR0_2 HB); (case side6 => exact HC0_2.out); (case side7 => exact cb HR0_3 HB); (case side8 => exact HC0_3.out); rintro e w6 ⟨rfl,hb⟩; refine ⟨_,rfl, ?_⟩; replace BK238:=bl BK238 hb; replace HB:=bs HB hb; clear hb))
  go_ret
  exact ⟨re,bw HB⟩
 replace c3:=Bool.eq_false_iff.mpr c3
 subst c3
 rw [if_neg nft] at H
 have H':=Aside0.mk H
 clear H
 go_enter Try.func3,Try.ntmps3
 go_wp2_with (first | ((with_reducible refine gate_dst (N:=1) rfl ?_); refine bx 1 #[.slice A0_0 l0_0.length c0_0, .slice A0_1 l0_1.length c0_1, .slice A0_2 l0_2.length c0_2, .slice A0_3 l0_3.length c0_3] 27 (h := ?_); intro gb238 hg w7 hbox hb; have BK238:=Aside0.mk (hbox); have GW238:=bz HB hg; have GE238:=bz HB hg; replace HB:=bs HB hb; clear hb hbox hg; obtain ⟨_,_,_,_,_,_,_,_⟩:=kc4 BK238) | ((with_reducible refine gate_callee (f:=6) rfl ?_); refine gl (some 29) Try.func6 #[.agg #[.slice A0_0 l0_0.length c0_0, .slice A0_1 l0_1.length c0_1, .slice A0_2 l0_2.length c0_2, .slice A0_3 l0_3.length c0_3]] (h := ?_); (with_reducible refine (w5_Heavy.calls k _ _ l0_0 _ _ l0_1 _ _ l0_2 _ _ l0_3 false _ ?side1 ?side2 ?side3 ?side4 ?side5 ?side6 ?side7 ?side8 A2.out).mono ?_); (case side1 => exact cb HR0_0 HB); (case side2 => exact HC0_0.out); (case side3 => exact cb HR0_1 HB); (case side4 => exact HC0_1.out); (case side5 => exact cb HR0_2 HB); (case side6 => exact HC0_2.out); (case side7 => exact cb HR0_3 HB); (case side8 => exact HC0_3.out); rintro e w9 ⟨rfl,hb⟩; refine ⟨_,rfl, ?_⟩; replace BK238:=bl BK238 hb; replace HB:=bs HB hb; clear hb))
 go_loopg [3] k (fun kq v3 w' => ∃ (x3_1 : Int),v3 = .int .i64 x3_1 ∧ Aside0 (w6_DocToggles.l0 kq x3_1 l0_0 l0_1 l0_2 l0_3 = some r) ∧ Aside0 (kq ≤ k) ∧ Aside0 (w'.heap[gb238]? = some (.cells #[(.slice A0_0 l0_0.length c0_0),(.slice A0_1 l0_1.length c0_1),(.slice A0_2 l0_2.length c0_2),(.slice A0_3 l0_3.length c0_3)] 27 (0,0))) ∧ Aside0 (Below w.heap.size w w'))
 case atStart => exact ⟨(0),rf,H',⟨Nat.le_refl _⟩,⟨kk BK238⟩,⟨bw HB⟩⟩
 case round =>
  clear H'
  try clear c3
  obtain ⟨x3_1,rfl,HA,HK1,BK238,HB⟩:=hrel
  cases gk with
  | zero => exact absurd HA.out (by simp [w6_DocToggles.l0])
  | succ k1 =>
   have H:=HA.out
   clear HA
   simp only [w6_DocToggles.l0] at H
   have HC10:=Aside0.mk H
   clear H
   go_upto_region 4 with (fail)
   go_cut [38] (fun v38 wc => ∃ (kq : Nat) (x38_9 : Bool),v38 = .bool x38_9 ∧ Aside0 (w6_DocToggles.j1 kq x3_1 x38_9 l0_0 l0_1 l0_2 l0_3 = some r) ∧ Aside0 (kq ≤ k1) ∧ Aside0 (wc.heap[gb238]? = some (.cells #[(.slice A0_0 l0_0.length c0_0),(.slice A0_1 l0_1.length c0_1),(.slice A0_2 l0_2.length c0_2),(.slice A0_3 l0_3.length c0_3)] 27 (0,0))) ∧ Aside0 (Below w.heap.size w wc))
   case first =>
    have H:=HC10.out
    clear HC10
    by_cases c11 : x3_1 < (l0_0.length : Int)
    ·show (let G_ : Prop:=_; G_)
     intro G_
     exact (let_tmp i_ : Nonempty G_:=(((⟨by
      subst G_
      rw [if_pos c11] at H
      have c11b0:=decide_eq_true c11
      clear c11
      (first | rw [c11b0] | (simp only [i64_w,i32_w]; rw [c11b0]) | skip)
      have H':=Aside0.mk H
      clear H
      obtain ⟨_,_,_,_,_,_,_,_⟩:=kc4 BK238
      go_wp2
      go_meet
      case rel => exact ⟨_,(decide (x3_1 < 4)),rf,H',⟨by have:=HK1.out; first | omega | exact Nat.le_refl _⟩,⟨kk BK238⟩,⟨bw HB⟩⟩
      ⟩ : Nonempty G_)) :); w6_DocToggles.bxo (G:=G_) (inferInstanceAs (Nonempty G_)))
    rw [if_neg c11] at H
    have c11b0:=decide_eq_false c11
    clear c11
    (first | rw [c11b0] | (simp only [i64_w,i32_w]; rw [c11b0]) | skip)
    have H':=Aside0.mk H
    clear H
    obtain ⟨_,_,_,_,_,_,_,_⟩:=kc4 BK238
    go_wp2
    go_meet
    case rel => exact ⟨_,(false),rf,H',⟨by have:=HK1.out; first | omega | exact Nat.le_refl _⟩,⟨kk BK238⟩,⟨bw HB⟩⟩
   case rest =>
    clear HC10
    obtain ⟨kq,x38_9,rfl,HA,HJ9,BK238,HB⟩:=hcut
    cases kq with
    | zero => exact absurd HA.out (by simp [w6_DocToggles.j1])
    | succ kj9 =>
     have H:=HA.out
     clear HA
     simp only [w6_DocToggles.j1] at H
     by_cases c14 : x38_9 = true; rotate_left
     ·replace c14:=Bool.eq_false_iff.mpr c14
      subst c14
      rw [if_neg nft] at H
      obtain ⟨t309,A127,H⟩:=bE H
      by_cases c128 : t309 = true
      ·show (let G_ : Prop:=_; G_)
       intro G_
       exact (let_tmp i_ : Nonempty G_:=(((⟨by
        subst G_
        subst c128
        rw [if_pos rfl] at H
        obtain ⟨t310,A129,H⟩:=bE H
        obtain rfl:=Option.some.inj H
        go_wp2_with (first | ((with_reducible refine gate_callee (f:=13) rfl ?_); refine gl (some 277) Try.func13 #[.int .i32 97] (h := ?_); (with_reducible refine (r1_Rune.calls 97 true _ A127.out).mono ?_); rintro e w' ⟨rfl,⟨nd,rfl⟩⟩; refine ⟨_,rfl, ?_⟩) | (go_at_call 14; (with_reducible refine (w6_wakes.calls  t310 _ A129.out).mono ?_); rintro e w130 ⟨rfl,hb⟩; replace BK238:=bl BK238 hb; replace HB:=bs HB hb; clear hb))
        go_ret
        exact ⟨re,bw HB⟩
        ⟩ : Nonempty G_)) :); w6_DocToggles.bxo (G:=G_) (inferInstanceAs (Nonempty G_)))
      replace c128:=Bool.eq_false_iff.mpr c128
      subst c128
      rw [if_neg nft] at H
      obtain rfl:=Option.some.inj H
      go_wp2_with (first | ((with_reducible refine gate_callee (f:=13) rfl ?_); refine gl (some 277) Try.func13 #[.int .i32 97] (h := ?_); (with_reducible refine (r1_Rune.calls 97 false _ A127.out).mono ?_); rintro e w' ⟨rfl,⟨nd,rfl⟩⟩; refine ⟨_,rfl, ?_⟩))
      go_ret
      exact ⟨re,bw HB⟩
     show (let G_ : Prop:=_; G_)
     intro G_
     exact (let_tmp i_ : Nonempty G_:=(((⟨by
      subst G_
      subst c14
      rw [if_pos rfl] at H
      by_cases c15 : 0 ≤ x3_1; rotate_left
      ·rw [if_neg c15] at H
       exact absurd H (by simp)
      show (let G_ : Prop:=_; G_)
      intro G_
      exact (let_tmp i_ : Nonempty G_:=(((⟨by
       subst G_
       rw [if_pos c15] at H
       have c15b0:=decide_eq_true c15
       clear c15
       by_cases c16 : x3_1 < (l0_0.length : Int); rotate_left
       ·rw [if_neg c16] at H
        exact absurd H (by simp)
       show (let G_ : Prop:=_; G_)
       intro G_
       exact (let_tmp i_ : Nonempty G_:=(((⟨by
        subst G_
        rw [if_pos c16] at H
        have c16b0:=decide_eq_true c16
        clear c16
        obtain ⟨⟨t241,t242⟩,A17,H⟩:=bE H
        try dsimp only at H
        obtain ⟨t243,A18,H⟩:=bE H
        by_cases c19 : t243 = 0; rotate_left
        ·rw [if_neg c19] at H
         obtain ⟨c19b0,c19b1⟩:=bF c19
         have H':=Aside0.mk H
         clear H
         obtain ⟨_,_,_,_,_,_,_,_⟩:=kc4 BK238
         have p240 : 0 ≤ (x3_1 : Int):=od
         have q240 : x3_1 < (l0_0.length : Int):=od
         obtain ⟨ad240,A240_0,c240_0,e240,hx240_0,hl240_0,hi240_0⟩:=at_LOp HR0_0.out x3_1 p240 q240
         cases e240
         replace hx240_0:=cl HB hx240_0
         have HR240_0:=Aside0.mk hi240_0
         have HC240_0:=Aside0.mk hl240_0
         clear hi240_0 hl240_0
         replace p240:=eq_true p240
         replace q240:=eq_true q240
         go_wp2_with (first | ((with_reducible refine gate_callee (f:=7) rfl ?_); refine gl (some 48) Try.func7 #[.slice A240_0 (rd_LOp l0_0 x3_1).length c240_0] (h := ?_); (with_reducible refine (doc_Text.calls _ _ (rd_LOp l0_0 x3_1) t241 t242 _ ?side1 ?side2 A17.out).mono ?_); (case side1 => exact cb HR240_0 HB); (case side2 => exact HC240_0.out); rintro e w126 ⟨rfl,hb⟩; refine ⟨_,rfl, ?_⟩; replace BK238:=bl BK238 hb; replace HB:=bs HB hb; clear hb) | ((with_reducible refine gate_callee (f:=8) rfl ?_); refine gl (some 52) Try.func8 #[.int .i64 t242] (h := ?_); (with_reducible refine (w6_num.calls t242 t243 _ A18.out).mono ?_); rintro e w' ⟨rfl,⟨nd,rfl⟩⟩; refine ⟨_,rfl, ?_⟩))
         go_roundg kj9
         case measure => have:=HK1.out; have:=HJ9.out; omega
         case rel => exact ⟨(wrap64 (x3_1 + 1)),rf,H',⟨by have:=HK1.out; have:=HJ9.out; omega⟩,⟨kk BK238⟩,⟨bw HB⟩⟩
        show (let G_ : Prop:=_; G_)
        intro G_
        exact (let_tmp i_ : Nonempty G_:=(((⟨by
         subst G_
         rw [if_pos c19] at H
         obtain ⟨c19b0,c19b1⟩:=bT c19
         clear c19
         have H':=Aside0.mk H
         clear H
         obtain ⟨_,_,_,_,_,_,_,_⟩:=kc4 BK238
         have p240 : 0 ≤ (x3_1 : Int):=od
         have q240 : x3_1 < (l0_0.length : Int):=od
         obtain ⟨ad240,A240_0,c240_0,e240,hx240_0,hl240_0,hi240_0⟩:=at_LOp HR0_0.out x3_1 p240 q240
         cases e240
         replace hx240_0:=cl HB hx240_0
         have HR240_0:=Aside0.mk hi240_0
         have HC240_0:=Aside0.mk hl240_0
         clear hi240_0 hl240_0
         replace p240:=eq_true p240
         replace q240:=eq_true q240
         go_wp2_with (first | ((with_reducible refine gate_callee (f:=7) rfl ?_); refine gl (some 48) Try.func7 #[.slice A240_0 (rd_LOp l0_0 x3_1).length c240_0] (h := ?_); (with_reducible refine (doc_Text.calls _ _ (rd_LOp l0_0 x3_1) t241 t242 _ ?side1 ?side2 A17.out).mono ?_); (case side1 => exact cb HR240_0 HB); (case side2 => exact HC240_0.out); rintro e w21 ⟨rfl,hb⟩; refine ⟨_,rfl, ?_⟩; replace BK238:=bl BK238 hb; replace HB:=bs HB hb; clear hb) | ((with_reducible refine gate_callee (f:=8) rfl ?_); refine gl (some 52) Try.func8 #[.int .i64 t242] (h := ?_); (with_reducible refine (w6_num.calls t242 t243 _ A18.out).mono ?_); rintro e w' ⟨rfl,⟨nd,rfl⟩⟩; refine ⟨_,rfl, ?_⟩))
         go_loopg [7] kj9 (fun kq v7 w' => ∃ (x7_3 : Int),v7 = .int .i64 x7_3 ∧ Aside0 (w6_DocToggles.l1 kq x3_1 (rd_LOp l0_0 x3_1) t241 x7_3 l0_0 l0_1 l0_2 l0_3 = some r) ∧ Aside0 (kq ≤ kj9) ∧ Aside0 (w'.heap[gb238]? = some (.cells #[(.slice (some ad240) l0_0.length c0_0),(.slice A0_1 l0_1.length c0_1),(.slice A0_2 l0_2.length c0_2),(.slice A0_3 l0_3.length c0_3)] 27 (0,0))) ∧ Aside0 (Below w.heap.size w w'))
         case atStart => exact ⟨(0),rf,H',⟨Nat.le_refl _⟩,⟨kk BK238⟩,⟨bw HB⟩⟩
         case round =>
          clear H'
          try clear c14; try clear c15b0; try clear c16b0; try clear c19b0; try clear c19b1; try clear hx240_0; try clear p240; try clear q240
          obtain ⟨x7_3,rfl,HA,HK3,BK238,HB⟩:=hrel
          cases gk with
          | zero => exact absurd HA.out (by simp [w6_DocToggles.l1])
          | succ k3 =>
           have H:=HA.out
           clear HA
           simp only [w6_DocToggles.l1] at H
           by_cases c22 : x7_3 < ((rd_LOp l0_0 x3_1).length : Int); rotate_left
           ·rw [if_neg c22] at H
            have c22b0:=decide_eq_false c22
            clear c22
            have H':=Aside0.mk H
            clear H
            go_wp2
            go_roundg k3
            case measure => have:=HK1.out; have:=HJ9.out; have:=HK3.out; omega
            case rel => exact ⟨(wrap64 (x3_1 + 1)),rf,H',⟨by have:=HK1.out; have:=HJ9.out; have:=HK3.out; omega⟩,⟨kk BK238⟩,⟨bw HB⟩⟩
           show (let G_ : Prop:=_; G_)
           intro G_
           exact (let_tmp i_ : Nonempty G_:=(((⟨by
            subst G_
            rw [if_pos c22] at H
            have c22b0:=decide_eq_true c22
            clear c22
            by_cases c23 : 0 ≤ x7_3; rotate_left
            ·rw [if_neg c23] at H
             exact absurd H (by simp)
            show (let G_ : Prop:=_; G_)
            intro G_
            exact (let_tmp i_ : Nonempty G_:=(((⟨by
             subst G_
             rw [if_pos c23] at H
             have c23b0:=decide_eq_true c23
             clear c23
             obtain ⟨⟨t246,t247⟩,A24,H⟩:=bE H
             try dsimp only at H
             obtain ⟨t248,A25,H⟩:=bE H
             by_cases c26 : t248 = 0; rotate_left
             ·rw [if_neg c26] at H
              obtain ⟨c26b0,c26b1⟩:=bF c26
              have H':=Aside0.mk H
              clear H
              try go_wp2
              have n0_:=Aside0.mk (blk_drew BK238.out)
              have n1_:=Aside0.mk (below_drew1 HB.out)
              clear BK238
              clear HB
              have BK238:=n0_
              have HB:=n1_
              clear n0_ n1_
              have p244 : 0 ≤ (x7_3 : Int):=od
              have q244 : x7_3 < ((rd_LOp l0_0 x3_1).length : Int):=od
              obtain ⟨ad244,A244_7,c244_7,e244,hx244_0,hx244_1,hx244_2,hx244_3,hx244_4,hx244_5,hx244_6,hx244_7,hx244_8,hx244_9,hx244_10,hl244_7,hi244_7⟩:=at_Op HR240_0.out x7_3 p244 q244
              have hw244_10:=hx244_10
              have hw244_9:=hx244_9
              have hw244_8:=hx244_8
              have hw244_7:=hx244_7
              have hw244_6:=hx244_6
              have hw244_5:=hx244_5
              have hw244_4:=hx244_4
              have hw244_3:=hx244_3
              have hw244_2:=hx244_2
              have hw244_1:=hx244_1
              have hw244_0:=hx244_0
              cases e244
              replace hx244_0:=cl HB hx244_0
              replace hx244_1:=cl HB hx244_1
              replace hx244_2:=cl HB hx244_2
              replace hx244_3:=cl HB hx244_3
              replace hx244_4:=cl HB hx244_4
              replace hx244_5:=cl HB hx244_5
              replace hx244_6:=cl HB hx244_6
              replace hx244_7:=cl HB hx244_7
              replace hx244_8:=cl HB hx244_8
              replace hx244_9:=cl HB hx244_9
              replace hx244_10:=cl HB hx244_10
              have HR244_7:=Aside0.mk hi244_7
              have HC244_7:=Aside0.mk hl244_7
              clear hi244_7 hl244_7
              replace p244:=eq_true p244
              replace q244:=eq_true q244
              refine stP (fun w' => Q11 w' (ad244.add ((x7_3).toNat * 11)) (rd_Op (rd_LOp l0_0 x3_1) x7_3) A244_7 c244_7) 17 ⟨(cW HB hw244_0),(cW HB hw244_1),(cW HB hw244_2),(cW HB hw244_3),(cW HB hw244_4),(cW HB hw244_5),(cW HB hw244_6),(cW HB hw244_7),(cW HB hw244_8),(cW HB hw244_9),(cW HB hw244_10)⟩ (h:=fun hHeld => ?_); refine with_tabW w6_DocToggles.tab12 w6_DocToggles.bits12 (fun HT_ HW_ => ?_)
              generalize wr.drew = w123 at BK238 HB HR244_7 HR244_7 hx244_0 hx244_1 hx244_10 hx244_2 hx244_3 hx244_4 hx244_5 hx244_6 hx244_7 hx244_8 hx244_9 hx244_0 hx244_1 hx244_10 hx244_2 hx244_3 hx244_4 hx244_5 hx244_6 hx244_7 hx244_8 hx244_9 hHeld ⊢
              refine pu HT_ 0 61 1 (h := ?_)
              refine pu HT_ 1 62 3 (h := ?_)
              refine pu HT_ 2 63 7 (h := ?_)
              refine pu HT_ 3 64 15 (h := ?_)
              refine pu HT_ 4 65 31 (h := ?_)
              refine pu HT_ 6 67 95 (h := ?_)
              refine pu HT_ 7 68 223 (h := ?_)
              refine pu HT_ 8 69 479 (h := ?_)
              refine pu HT_ 9 70 991 (h := ?_)
              refine tk HT_ HW_ hHeld 5 66 1023 (h := ?_)
              refine tk HT_ HW_ hHeld 10 71 2047 (h := ?_)
              refine on HT_ 11 (some 72) 4095 (h:=fun K hK => ?_)
              refine gS Try.func9 #[.slice (some ad244) (rd_LOp l0_0 x3_1).length c240_0, .int .i64 ((rd_Op (rd_LOp l0_0 x3_1) x7_3).f0), .int .i64 ((rd_Op (rd_LOp l0_0 x3_1) x7_3).f1)] (h := ?_)
              with_reducible refine (doc_Count.calls k3 _ _ (rd_LOp l0_0 x3_1) ((rd_Op (rd_LOp l0_0 x3_1) x7_3).f0) ((rd_Op (rd_LOp l0_0 x3_1) x7_3).f1) t246 t247 _ ?side1 ?side2 A24.out).mono ?_
              (case side1 => exact cb HR240_0 HB)
              (case side2 => exact HC240_0.out)
              rintro e w124 ⟨rfl,hb⟩
              refine ⟨_,rfl, ?_⟩
              have n0_:=bl BK238 hb
              have n1_:=bs HB hb
              clear BK238
              clear HB
              have BK238:=n0_
              have HB:=n1_
              clear n0_ n1_
              (try clear hb)
              (try clear hb2)
              (try clear hk)
              (try clear hi)
              refine hK.out _ _ ⟨(cW HB hw244_0),(cW HB hw244_1),(cW HB hw244_2),(cW HB hw244_3),(cW HB hw244_4),(cW HB hw244_5),(cW HB hw244_6),(cW HB hw244_7),(cW HB hw244_8),(cW HB hw244_9),(cW HB hw244_10)⟩ (fun hHeld => ?_)
              clear hK K
              refine nn 72 (h := ?_)
              refine pu HT_ 12 60 8191 (h := ?_)
              refine pu HT_ 13 73 16383 (h := ?_)
              refine pu HT_ 14 74 32767 (h := ?_)
              refine pu HT_ 15 8 65535 (h := ?_)
              refine pu HT_ 16 9 131071 (h := ?_)
              refine dn HT_ (h := ?_)
              try go_wp2_with (first | ((with_reducible refine gate_callee (f:=8) rfl ?_); refine gl (some 76) Try.func8 #[.int .i64 t247] (h := ?_); (with_reducible refine (w6_num.calls t247 t248 _ A25.out).mono ?_); rintro e w' ⟨rfl,⟨nd,rfl⟩⟩; refine ⟨_,rfl, ?_⟩))
              go_roundg k3
              case measure => have:=HK1.out; have:=HJ9.out; have:=HK3.out; omega
              case rel => exact ⟨(wrap64 (x7_3 + 1)),rf,H',⟨by have:=HK1.out; have:=HJ9.out; have:=HK3.out; omega⟩,⟨kk BK238⟩,⟨bw HB⟩⟩
             show (let G_ : Prop:=_; G_)
             intro G_
             exact (let_tmp i_ : Nonempty G_:=(((⟨by
              subst G_
              rw [if_pos c26] at H
              obtain ⟨c26b0,c26b1⟩:=bT c26
              clear c26
              have H':=Aside0.mk H
              clear H
              try go_wp2
              have n0_:=Aside0.mk (blk_drew BK238.out)
              have n1_:=Aside0.mk (below_drew1 HB.out)
              clear BK238
              clear HB
              have BK238:=n0_
              have HB:=n1_
              clear n0_ n1_
              have p244 : 0 ≤ (x7_3 : Int):=od
              have q244 : x7_3 < ((rd_LOp l0_0 x3_1).length : Int):=od
              obtain ⟨ad244,A244_7,c244_7,e244,hx244_0,hx244_1,hx244_2,hx244_3,hx244_4,hx244_5,hx244_6,hx244_7,hx244_8,hx244_9,hx244_10,hl244_7,hi244_7⟩:=at_Op HR240_0.out x7_3 p244 q244
              have hw244_10:=hx244_10
              have hw244_9:=hx244_9
              have hw244_8:=hx244_8
              have hw244_7:=hx244_7
              have hw244_6:=hx244_6
              have hw244_5:=hx244_5
              have hw244_4:=hx244_4
              have hw244_3:=hx244_3
              have hw244_2:=hx244_2
              have hw244_1:=hx244_1
              have hw244_0:=hx244_0
              cases e244
              replace hx244_0:=cl HB hx244_0
              replace hx244_1:=cl HB hx244_1
              replace hx244_2:=cl HB hx244_2
              replace hx244_3:=cl HB hx244_3
              replace hx244_4:=cl HB hx244_4
              replace hx244_5:=cl HB hx244_5
              replace hx244_6:=cl HB hx244_6
              replace hx244_7:=cl HB hx244_7
              replace hx244_8:=cl HB hx244_8
              replace hx244_9:=cl HB hx244_9
              replace hx244_10:=cl HB hx244_10
              have HR244_7:=Aside0.mk hi244_7
              have HC244_7:=Aside0.mk hl244_7
              clear hi244_7 hl244_7
              replace p244:=eq_true p244
              replace q244:=eq_true q244
              refine stP (fun w' => Q11 w' (ad244.add ((x7_3).toNat * 11)) (rd_Op (rd_LOp l0_0 x3_1) x7_3) A244_7 c244_7) 17 ⟨(cW HB hw244_0),(cW HB hw244_1),(cW HB hw244_2),(cW HB hw244_3),(cW HB hw244_4),(cW HB hw244_5),(cW HB hw244_6),(cW HB hw244_7),(cW HB hw244_8),(cW HB hw244_9),(cW HB hw244_10)⟩ (h:=fun hHeld => ?_); refine with_tabW w6_DocToggles.tab12 w6_DocToggles.bits12 (fun HT_ HW_ => ?_)
              generalize wr.drew = w27 at BK238 HB HR244_7 HR244_7 hx244_0 hx244_1 hx244_10 hx244_2 hx244_3 hx244_4 hx244_5 hx244_6 hx244_7 hx244_8 hx244_9 hx244_0 hx244_1 hx244_10 hx244_2 hx244_3 hx244_4 hx244_5 hx244_6 hx244_7 hx244_8 hx244_9 hHeld ⊢
              refine pu HT_ 0 61 1 (h := ?_)
              refine pu HT_ 1 62 3 (h := ?_)
              refine pu HT_ 2 63 7 (h := ?_)
              refine pu HT_ 3 64 15 (h := ?_)
              refine pu HT_ 4 65 31 (h := ?_)
              refine pu HT_ 6 67 95 (h := ?_)
              refine pu HT_ 7 68 223 (h := ?_)
              refine pu HT_ 8 69 479 (h := ?_)
              refine pu HT_ 9 70 991 (h := ?_)
              refine tk HT_ HW_ hHeld 5 66 1023 (h := ?_)
              refine tk HT_ HW_ hHeld 10 71 2047 (h := ?_)
              refine on HT_ 11 (some 72) 4095 (h:=fun K hK => ?_)
              refine gS Try.func9 #[.slice (some ad244) (rd_LOp l0_0 x3_1).length c240_0, .int .i64 ((rd_Op (rd_LOp l0_0 x3_1) x7_3).f0), .int .i64 ((rd_Op (rd_LOp l0_0 x3_1) x7_3).f1)] (h := ?_)
              with_reducible refine (doc_Count.calls k3 _ _ (rd_LOp l0_0 x3_1) ((rd_Op (rd_LOp l0_0 x3_1) x7_3).f0) ((rd_Op (rd_LOp l0_0 x3_1) x7_3).f1) t246 t247 _ ?side1 ?side2 A24.out).mono ?_
              (case side1 => exact cb HR240_0 HB)
              (case side2 => exact HC240_0.out)
              rintro e w28 ⟨rfl,hb⟩
              refine ⟨_,rfl, ?_⟩
              have n0_:=bl BK238 hb
              have n1_:=bs HB hb
              clear BK238
              clear HB
              have BK238:=n0_
              have HB:=n1_
              clear n0_ n1_
              (try clear hb)
              (try clear hb2)
              (try clear hk)
              (try clear hi)
              refine hK.out _ _ ⟨(cW HB hw244_0),(cW HB hw244_1),(cW HB hw244_2),(cW HB hw244_3),(cW HB hw244_4),(cW HB hw244_5),(cW HB hw244_6),(cW HB hw244_7),(cW HB hw244_8),(cW HB hw244_9),(cW HB hw244_10)⟩ (fun hHeld => ?_)
              clear hK K
              refine nn 72 (h := ?_)
              refine pu HT_ 12 60 8191 (h := ?_)
              refine pu HT_ 13 73 16383 (h := ?_)
              refine pu HT_ 14 74 32767 (h := ?_)
              refine pu HT_ 15 8 65535 (h := ?_)
              refine pu HT_ 16 9 131071 (h := ?_)
              refine dn HT_ (h := ?_)
              try go_wp2_with (first | ((with_reducible refine gate_callee (f:=8) rfl ?_); refine gl (some 76) Try.func8 #[.int .i64 t247] (h := ?_); (with_reducible refine (w6_num.calls t247 t248 _ A25.out).mono ?_); rintro e w' ⟨rfl,⟨nd,rfl⟩⟩; refine ⟨_,rfl, ?_⟩))
              go_loopg [11,12] k3 (fun kq v11 v12 w' => ∃ (x11_4 : Int) (x12_4 : Int),v11 = .int .i64 x11_4 ∧ v12 = .int .i64 x12_4 ∧ Aside0 (w6_DocToggles.l2 kq x3_1 (rd_LOp l0_0 x3_1) t241 x7_3 t246 (wrap64 (1 + (Int.tmod (wrap64 (x3_1 + x7_3)) 8))) x11_4 x12_4 l0_0 l0_1 l0_2 l0_3 = some r) ∧ Aside0 (kq ≤ k3) ∧ Aside0 (w'.heap[gb238]? = some (.cells #[(.slice (some ad240) l0_0.length c0_0),(.slice A0_1 l0_1.length c0_1),(.slice A0_2 l0_2.length c0_2),(.slice A0_3 l0_3.length c0_3)] 27 (0,0))) ∧ Aside0 (Below w.heap.size w w'))
              case atStart => exact ⟨(1),(0),rf,rf,H',⟨Nat.le_refl _⟩,⟨kk BK238⟩,⟨bw HB⟩⟩
              case round =>
               clear H'
               try clear c22b0; try clear c23b0; try clear c26b0; try clear c26b1; try clear hx244_0; try clear hx244_1; try clear hx244_10; try clear hx244_2; try clear hx244_3; try clear hx244_4; try clear hx244_5; try clear hx244_6; try clear hx244_7; try clear hx244_8; try clear hx244_9; try clear hx244_0; try clear hx244_1; try clear hx244_10; try clear hx244_2; try clear hx244_3; try clear hx244_4; try clear hx244_5; try clear hx244_6; try clear hx244_7; try clear hx244_8; try clear hx244_9; try clear p244; try clear p244; try clear q244; try clear q244
               obtain ⟨x11_4,x12_4,rfl,rfl,HA,HK4,BK238,HB⟩:=hrel
               cases gk with
               | zero => exact absurd HA.out (by simp [w6_DocToggles.l2])
               | succ k4 =>
                have H:=HA.out
                clear HA
                simp only [w6_DocToggles.l2] at H
                by_cases c29 : x12_4 < ((rd_LOp l0_0 x3_1).length : Int)
                ·show (let G_ : Prop:=_; G_)
                 intro G_
                 exact (let_tmp i_ : Nonempty G_:=(((⟨by
                  subst G_
                  rw [if_pos c29] at H
                  have c29b0:=decide_eq_true c29
                  clear c29
                  by_cases c30 : 0 ≤ x12_4; rotate_left
                  ·rw [if_neg c30] at H
                   exact absurd H (by simp)
                  show (let G_ : Prop:=_; G_)
                  intro G_
                  exact (let_tmp i_ : Nonempty G_:=(((⟨by
                   subst G_
                   rw [if_pos c30] at H
                   have c30b0:=decide_eq_true c30
                   clear c30
                   by_cases c31 : ((rd_Op (rd_LOp l0_0 x3_1) x12_4).f0) = (wrap64 (1 + (Int.tmod (wrap64 (x3_1 + x7_3)) 8))); rotate_left
                   ·rw [if_neg c31] at H
                    obtain ⟨c31b0,c31b1⟩:=bF c31
                    have H':=Aside0.mk H
                    clear H
                    have p249 : 0 ≤ (x12_4 : Int):=od
                    have q249 : x12_4 < ((rd_LOp l0_0 x3_1).length : Int):=od
                    obtain ⟨ad249,A249_7,c249_7,e249,hx249_0,hx249_1,hx249_2,hx249_3,hx249_4,hx249_5,hx249_6,hx249_7,hx249_8,hx249_9,hx249_10,hl249_7,hi249_7⟩:=at_Op HR240_0.out x12_4 p249 q249
                    obtain rfl : ad244 = ad249:=(by injection e249)
                    replace hx249_0:=cl HB hx249_0
                    replace hx249_1:=cl HB hx249_1
                    replace hx249_2:=cl HB hx249_2
                    replace hx249_3:=cl HB hx249_3
                    replace hx249_4:=cl HB hx249_4
                    replace hx249_5:=cl HB hx249_5
                    replace hx249_6:=cl HB hx249_6
                    replace hx249_7:=cl HB hx249_7
                    replace hx249_8:=cl HB hx249_8
                    replace hx249_9:=cl HB hx249_9
                    replace hx249_10:=cl HB hx249_10
                    have HR249_7:=Aside0.mk hi249_7
                    have HC249_7:=Aside0.mk hl249_7
                    clear hi249_7 hl249_7
                    replace p249:=eq_true p249
                    replace q249:=eq_true q249
                    go_wp2
                    go_roundg k4
                    case measure => have:=HK1.out; have:=HJ9.out; have:=HK3.out; have:=HK4.out; omega
                    case rel => exact ⟨(x11_4),(wrap64 (x12_4 + 1)),rf,rf,H',⟨by have:=HK1.out; have:=HJ9.out; have:=HK3.out; have:=HK4.out; omega⟩,⟨kk BK238⟩,⟨bw HB⟩⟩
                   show (let G_ : Prop:=_; G_)
                   intro G_
                   exact (let_tmp i_ : Nonempty G_:=(((⟨by
                    subst G_
                    rw [if_pos c31] at H
                    obtain ⟨c31b0,c31b1⟩:=bT c31
                    clear c31
                    have H':=Aside0.mk H
                    clear H
                    have p249 : 0 ≤ (x12_4 : Int):=od
                    have q249 : x12_4 < ((rd_LOp l0_0 x3_1).length : Int):=od
                    obtain ⟨ad249,A249_7,c249_7,e249,hx249_0,hx249_1,hx249_2,hx249_3,hx249_4,hx249_5,hx249_6,hx249_7,hx249_8,hx249_9,hx249_10,hl249_7,hi249_7⟩:=at_Op HR240_0.out x12_4 p249 q249
                    obtain rfl : ad244 = ad249:=(by injection e249)
                    replace hx249_0:=cl HB hx249_0
                    replace hx249_1:=cl HB hx249_1
                    replace hx249_2:=cl HB hx249_2
                    replace hx249_3:=cl HB hx249_3
                    replace hx249_4:=cl HB hx249_4
                    replace hx249_5:=cl HB hx249_5
                    replace hx249_6:=cl HB hx249_6
                    replace hx249_7:=cl HB hx249_7
                    replace hx249_8:=cl HB hx249_8
                    replace hx249_9:=cl HB hx249_9
                    replace hx249_10:=cl HB hx249_10
                    have HR249_7:=Aside0.mk hi249_7
                    have HC249_7:=Aside0.mk hl249_7
                    clear hi249_7 hl249_7
                    replace p249:=eq_true p249
                    replace q249:=eq_true q249
                    go_wp2
                    go_roundg k4
                    case measure => have:=HK1.out; have:=HJ9.out; have:=HK3.out; have:=HK4.out; omega
                    case rel => exact ⟨(wrap64 (x11_4 + 1)),(wrap64 (x12_4 + 1)),rf,rf,H',⟨by have:=HK1.out; have:=HJ9.out; have:=HK3.out; have:=HK4.out; omega⟩,⟨kk BK238⟩,⟨bw HB⟩⟩
                    ⟩ : Nonempty G_)) :); w6_DocToggles.bxo (G:=G_) (inferInstanceAs (Nonempty G_)))
                   ⟩ : Nonempty G_)) :); w6_DocToggles.bxo (G:=G_) (inferInstanceAs (Nonempty G_)))
                  ⟩ : Nonempty G_)) :); w6_DocToggles.bxo (G:=G_) (inferInstanceAs (Nonempty G_)))
                rw [if_neg c29] at H
                have c29b0:=decide_eq_false c29
                clear c29
                have HC32:=Aside0.mk H
                clear H
                go_upto_region 21 with (fail)
                go_cut [113] (fun v113 wc => ∃ (kq : Nat) (x113_31 : Bool),v113 = .bool x113_31 ∧ Aside0 (w6_DocToggles.j4 kq x3_1 (rd_LOp l0_0 x3_1) t241 x7_3 t246 (wrap64 (1 + (Int.tmod (wrap64 (x3_1 + x7_3)) 8))) x11_4 x113_31 l0_0 l0_1 l0_2 l0_3 = some r) ∧ Aside0 (kq ≤ k4) ∧ Aside0 (wc.heap[gb238]? = some (.cells #[(.slice (some ad240) l0_0.length c0_0),(.slice A0_1 l0_1.length c0_1),(.slice A0_2 l0_2.length c0_2),(.slice A0_3 l0_3.length c0_3)] 27 (0,0))) ∧ Aside0 (Below w.heap.size w wc))
                case first =>
                 have H:=HC32.out
                 clear HC32
                 by_cases c33 : 0 ≤ x7_3; rotate_left
                 ·rw [if_neg c33] at H
                  exact absurd H (by simp)
                 show (let G_ : Prop:=_; G_)
                 intro G_
                 exact (let_tmp i_ : Nonempty G_:=(((⟨by
                  subst G_
                  rw [if_pos c33] at H
                  have c33b0:=decide_eq_true c33
                  clear c33
                  (first | rw [c33b0] | (simp only [i64_w,i32_w]; rw [c33b0]) | skip)
                  by_cases c34 : x7_3 < ((rd_LOp l0_0 x3_1).length : Int); rotate_left
                  ·rw [if_neg c34] at H
                   exact absurd H (by simp)
                  show (let G_ : Prop:=_; G_)
                  intro G_
                  exact (let_tmp i_ : Nonempty G_:=(((⟨by
                   subst G_
                   rw [if_pos c34] at H
                   have c34b0:=decide_eq_true c34
                   clear c34
                   by_cases c35 : (wrap64 (1 + (Int.tmod (wrap64 (x3_1 + x7_3)) 8))) = ((rd_Op (rd_LOp l0_0 x3_1) x7_3).f0); rotate_left
                   ·rw [if_neg c35] at H
                    obtain ⟨c35b0,c35b1⟩:=bF c35
                    have H':=Aside0.mk H
                    clear H
                    have p250 : 0 ≤ (x7_3 : Int):=od
                    have q250 : x7_3 < ((rd_LOp l0_0 x3_1).length : Int):=od
                    obtain ⟨ad250,A250_7,c250_7,e250,hx250_0,hx250_1,hx250_2,hx250_3,hx250_4,hx250_5,hx250_6,hx250_7,hx250_8,hx250_9,hx250_10,hl250_7,hi250_7⟩:=at_Op HR240_0.out x7_3 p250 q250
                    obtain rfl : ad244 = ad250:=(by injection e250)
                    replace hx250_0:=cl HB hx250_0
                    replace hx250_1:=cl HB hx250_1
                    replace hx250_2:=cl HB hx250_2
                    replace hx250_3:=cl HB hx250_3
                    replace hx250_4:=cl HB hx250_4
                    replace hx250_5:=cl HB hx250_5
                    replace hx250_6:=cl HB hx250_6
                    replace hx250_7:=cl HB hx250_7
                    replace hx250_8:=cl HB hx250_8
                    replace hx250_9:=cl HB hx250_9
                    replace hx250_10:=cl HB hx250_10
                    have HR250_7:=Aside0.mk hi250_7
                    have HC250_7:=Aside0.mk hl250_7
                    clear hi250_7 hl250_7
                    replace p250:=eq_true p250
                    replace q250:=eq_true q250
                    go_wp2
                    go_meet
                    case rel => exact ⟨_,(false),rf,H',⟨by have:=HK1.out; have:=HJ9.out; have:=HK3.out; have:=HK4.out; first | omega | exact Nat.le_refl _⟩,⟨kk BK238⟩,⟨bw HB⟩⟩
                   show (let G_ : Prop:=_; G_)
                   intro G_
                   exact (let_tmp i_ : Nonempty G_:=(((⟨by
                    subst G_
                    rw [if_pos c35] at H
                    obtain ⟨c35b0,c35b1⟩:=bT c35
                    clear c35
                    have H':=Aside0.mk H
                    clear H
                    have p250 : 0 ≤ (x7_3 : Int):=od
                    have q250 : x7_3 < ((rd_LOp l0_0 x3_1).length : Int):=od
                    obtain ⟨ad250,A250_7,c250_7,e250,hx250_0,hx250_1,hx250_2,hx250_3,hx250_4,hx250_5,hx250_6,hx250_7,hx250_8,hx250_9,hx250_10,hl250_7,hi250_7⟩:=at_Op HR240_0.out x7_3 p250 q250
                    obtain rfl : ad244 = ad250:=(by injection e250)
                    replace hx250_0:=cl HB hx250_0
                    replace hx250_1:=cl HB hx250_1
                    replace hx250_2:=cl HB hx250_2
                    replace hx250_3:=cl HB hx250_3
                    replace hx250_4:=cl HB hx250_4
                    replace hx250_5:=cl HB hx250_5
                    replace hx250_6:=cl HB hx250_6
                    replace hx250_7:=cl HB hx250_7
                    replace hx250_8:=cl HB hx250_8
                    replace hx250_9:=cl HB hx250_9
                    replace hx250_10:=cl HB hx250_10
                    have HR250_7:=Aside0.mk hi250_7
                    have HC250_7:=Aside0.mk hl250_7
                    clear hi250_7 hl250_7
                    replace p250:=eq_true p250
                    replace q250:=eq_true q250
                    go_wp2
                    go_meet
                    case rel => exact ⟨_,((x11_4 == ((rd_Op (rd_LOp l0_0 x3_1) x7_3).f1))),rf,H',⟨by have:=HK1.out; have:=HJ9.out; have:=HK3.out; have:=HK4.out; first | omega | exact Nat.le_refl _⟩,⟨kk BK238⟩,⟨bw HB⟩⟩
                    ⟩ : Nonempty G_)) :); w6_DocToggles.bxo (G:=G_) (inferInstanceAs (Nonempty G_)))
                   ⟩ : Nonempty G_)) :); w6_DocToggles.bxo (G:=G_) (inferInstanceAs (Nonempty G_)))
                  ⟩ : Nonempty G_)) :); w6_DocToggles.bxo (G:=G_) (inferInstanceAs (Nonempty G_)))
                case rest =>
                 clear HC32
                 try clear c29b0
                 obtain ⟨kq,x113_31,rfl,HA,HJ31,BK238,HB⟩:=hcut
                 cases kq with
                 | zero => exact absurd HA.out (by simp [w6_DocToggles.j4])
                 | succ kj31 =>
                  have H:=HA.out
                  clear HA
                  simp only [w6_DocToggles.j4] at H
                  by_cases c36 : x113_31 = true
                  ·subst c36
                   rw [if_pos rfl] at H
                   have H':=Aside0.mk H
                   clear H
                   go_wp2
                   go_roundg kj31
                   case measure => have:=HK1.out; have:=HJ9.out; have:=HK3.out; have:=HK4.out; have:=HJ31.out; omega
                   case rel => exact ⟨(wrap64 (x7_3 + 1)),rf,H',⟨by have:=HK1.out; have:=HJ9.out; have:=HK3.out; have:=HK4.out; have:=HJ31.out; omega⟩,⟨kk BK238⟩,⟨bw HB⟩⟩
                  replace c36:=Bool.eq_false_iff.mpr c36
                  subst c36
                  rw [if_neg nft] at H
                  obtain ⟨t252,A37,H⟩:=bE H
                  by_cases c38 : 0 ≤ x7_3; rotate_left
                  ·rw [if_neg c38] at H
                   exact absurd H (by simp)
                  show (let G_ : Prop:=_; G_)
                  intro G_
                  exact (let_tmp i_ : Nonempty G_:=(((⟨by
                   subst G_
                   rw [if_pos c38] at H
                   have c38b0:=decide_eq_true c38
                   clear c38
                   by_cases c39 : x7_3 < ((rd_LOp l0_0 x3_1).length : Int); rotate_left
                   ·rw [if_neg c39] at H
                    exact absurd H (by simp)
                   show (let G_ : Prop:=_; G_)
                   intro G_
                   exact (let_tmp i_ : Nonempty G_:=(((⟨by
                    subst G_
                    rw [if_pos c39] at H
                    have c39b0:=decide_eq_true c39
                    clear c39
                    obtain ⟨y257,hy257⟩ : ∃ y_ : List (SOp),y_ = (([(⟨(wrap64 (1 + (Int.tmod (wrap64 (x3_1 + x7_3)) 8))),x11_4,2,(⟨0,0,0⟩ : SElem),(⟨#[]⟩ : ByteArray),([] : List (SElem)),(rd_Op (rd_LOp l0_0 x3_1) x7_3).f0,(rd_Op (rd_LOp l0_0 x3_1) x7_3).f1,wrap64 ((wrap64 (t246 + 1)) + (Int.tmod x7_3 3))⟩ : SOp)] : List (SOp))):=⟨_,rfl⟩
                    first | rw [Option.bind_some,← hy257] at H | rw [← hy257] at H
                    have Ny257:=Aside0.mk hy257
                    clear hy257
                    by_cases c40 : t252.length + y257.length < 1256584717458; rotate_left
                    ·rw [if_neg c40] at H
                     exact absurd H (by simp)
                    show (let G_ : Prop:=_; G_)
                    intro G_
                    exact (let_tmp i_ : Nonempty G_:=(((⟨by
                     subst G_
                     rw [if_pos c40] at H
                     have LMc40:=Aside0.mk c40
                     clear c40
                     obtain ⟨y260,hy260⟩ : ∃ y_ : List (SOp),y_ = (t252 ++ y257):=⟨_,rfl⟩
                     first | rw [Option.bind_some,← hy260] at H | rw [← hy260] at H
                     have Ny260:=Aside0.mk hy260
                     clear hy260
                     obtain ⟨t263,A41,H⟩:=bE H
                     obtain ⟨y268,hy268⟩ : ∃ y_ : List (SOp),y_ = (([(⟨(wrap64 (1 + (Int.tmod (wrap64 (x3_1 + x7_3)) 8))),x11_4,2,(⟨0,0,0⟩ : SElem),(⟨#[]⟩ : ByteArray),([] : List (SElem)),(rd_Op (rd_LOp l0_0 x3_1) x7_3).f0,(rd_Op (rd_LOp l0_0 x3_1) x7_3).f1,t246⟩ : SOp)] : List (SOp))):=⟨_,rfl⟩
                     first | rw [Option.bind_some,← hy268] at H | rw [← hy268] at H
                     have Ny268:=Aside0.mk hy268
                     clear hy268
                     by_cases c42 : t263.length + y268.length < 1256584717458; rotate_left
                     ·rw [if_neg c42] at H
                      exact absurd H (by simp)
                     show (let G_ : Prop:=_; G_)
                     intro G_
                     exact (let_tmp i_ : Nonempty G_:=(((⟨by
                      subst G_
                      rw [if_pos c42] at H
                      have LMc42:=Aside0.mk c42
                      clear c42
                      obtain ⟨y271,hy271⟩ : ∃ y_ : List (SOp),y_ = (t263 ++ y268):=⟨_,rfl⟩
                      first | rw [Option.bind_some,← hy271] at H | rw [← hy271] at H
                      have Ny271:=Aside0.mk hy271
                      clear hy271
                      obtain ⟨t274,A43,H⟩:=bE H
                      obtain ⟨y279,hy279⟩ : ∃ y_ : List (SOp),y_ = (([(⟨(wrap64 (1 + (Int.tmod (wrap64 (x3_1 + x7_3)) 8))),wrap64 (x11_4 + 1),2,(⟨0,0,0⟩ : SElem),(⟨#[]⟩ : ByteArray),([] : List (SElem)),(rd_Op (rd_LOp l0_0 x3_1) x7_3).f0,(rd_Op (rd_LOp l0_0 x3_1) x7_3).f1,wrap64 (t246 + 1)⟩ : SOp)] : List (SOp))):=⟨_,rfl⟩
                      first | rw [Option.bind_some,← hy279] at H | rw [← hy279] at H
                      have Ny279:=Aside0.mk hy279
                      clear hy279
                      by_cases c44 : t274.length + y279.length < 1256584717458; rotate_left
                      ·rw [if_neg c44] at H
                       exact absurd H (by simp)
                      show (let G_ : Prop:=_; G_)
                      intro G_
                      exact (let_tmp i_ : Nonempty G_:=(((⟨by
                       subst G_
                       rw [if_pos c44] at H
                       have LMc44:=Aside0.mk c44
                       clear c44
                       obtain ⟨y282,hy282⟩ : ∃ y_ : List (SOp),y_ = (t274 ++ y279):=⟨_,rfl⟩
                       first | rw [Option.bind_some,← hy282] at H | rw [← hy282] at H
                       have Ny282:=Aside0.mk hy282
                       clear hy282
                       by_cases c45 : (y282.length : Int) > 40
                       ·show (let G_ : Prop:=_; G_)
                        intro G_
                        exact (let_tmp i_ : Nonempty G_:=(((⟨by
                         subst G_
                         rw [if_pos c45] at H
                         have c45b0:=decide_eq_true c45
                         have c45b1 : decide (40 < y282.length) = true:=decide_eq_true (by omega)
                         clear c45
                         have H':=Aside0.mk H
                         clear H
                         try go_wp2
                         have n0_:=Aside0.mk (blk_drew BK238.out)
                         have n1_:=Aside0.mk (below_drew1 HB.out)
                         clear BK238
                         clear HB
                         have BK238:=n0_
                         have HB:=n1_
                         clear n0_ n1_
                         have p255 : 0 ≤ (x7_3 : Int):=od
                         have q255 : x7_3 < ((rd_LOp l0_0 x3_1).length : Int):=od
                         obtain ⟨ad255,A255_7,c255_7,e255,hx255_0,hx255_1,hx255_2,hx255_3,hx255_4,hx255_5,hx255_6,hx255_7,hx255_8,hx255_9,hx255_10,hl255_7,hi255_7⟩:=at_Op HR240_0.out x7_3 p255 q255
                         have hw255_10:=hx255_10
                         have hw255_9:=hx255_9
                         have hw255_8:=hx255_8
                         have hw255_7:=hx255_7
                         have hw255_6:=hx255_6
                         have hw255_5:=hx255_5
                         have hw255_4:=hx255_4
                         have hw255_3:=hx255_3
                         have hw255_2:=hx255_2
                         have hw255_1:=hx255_1
                         have hw255_0:=hx255_0
                         obtain rfl : ad244 = ad255:=(by injection e255)
                         replace hx255_0:=cl HB hx255_0
                         replace hx255_1:=cl HB hx255_1
                         replace hx255_2:=cl HB hx255_2
                         replace hx255_3:=cl HB hx255_3
                         replace hx255_4:=cl HB hx255_4
                         replace hx255_5:=cl HB hx255_5
                         replace hx255_6:=cl HB hx255_6
                         replace hx255_7:=cl HB hx255_7
                         replace hx255_8:=cl HB hx255_8
                         replace hx255_9:=cl HB hx255_9
                         replace hx255_10:=cl HB hx255_10
                         have HR255_7:=Aside0.mk hi255_7
                         have HC255_7:=Aside0.mk hl255_7
                         clear hi255_7 hl255_7
                         replace p255:=eq_true p255
                         replace q255:=eq_true q255
                         refine stP (fun w' => Q11 w' (ad244.add ((x7_3).toNat * 11)) (rd_Op (rd_LOp l0_0 x3_1) x7_3) A255_7 c255_7) 23 ⟨(cW HB hw255_0),(cW HB hw255_1),(cW HB hw255_2),(cW HB hw255_3),(cW HB hw255_4),(cW HB hw255_5),(cW HB hw255_6),(cW HB hw255_7),(cW HB hw255_8),(cW HB hw255_9),(cW HB hw255_10)⟩ (h:=fun hHeld => ?_); refine with_tabW w6_DocToggles.tab22 w6_DocToggles.bits22 (fun HT_ HW_ => ?_)
                         generalize wc.drew = w46 at BK238 HB HR255_7 HR255_7 hx255_0 hx255_1 hx255_10 hx255_2 hx255_3 hx255_4 hx255_5 hx255_6 hx255_7 hx255_8 hx255_9 hx255_0 hx255_1 hx255_10 hx255_2 hx255_3 hx255_4 hx255_5 hx255_6 hx255_7 hx255_8 hx255_9 hHeld ⊢
                         refine pu HT_ 0 114 1 (h := ?_)
                         refine pu HT_ 2 116 5 (h := ?_)
                         refine pu HT_ 3 117 13 (h := ?_)
                         refine pu HT_ 4 118 29 (h := ?_)
                         refine pu HT_ 5 119 61 (h := ?_)
                         refine pu HT_ 6 120 125 (h := ?_)
                         refine pu HT_ 7 121 253 (h := ?_)
                         refine pu HT_ 9 123 765 (h := ?_)
                         refine pu HT_ 10 124 1789 (h := ?_)
                         refine pu HT_ 11 125 3837 (h := ?_)
                         refine pu HT_ 12 126 7933 (h := ?_)
                         refine pu HT_ 14 128 24317 (h := ?_)
                         refine pu HT_ 15 129 57085 (h := ?_)
                         refine pu HT_ 16 130 122621 (h := ?_)
                         refine pu HT_ 17 131 253693 (h := ?_)
                         refine pu HT_ 18 132 515837 (h := ?_)
                         refine tk HT_ HW_ hHeld 8 122 516093 (h := ?_)
                         refine tk HT_ HW_ hHeld 13 127 524285 (h := ?_)
                         refine pu HT_ 19 133 1048573 (h := ?_)
                         refine join_ (σ:=Value × Value) 2 (bA 23 2097151) (fun s_ => [(115,s_.1),(134,s_.2)]) (fun s_ w' => (P11 w' (ad244.add ((x7_3).toNat * 11)) (rd_Op (rd_LOp l0_0 x3_1) x7_3) A255_7 c255_7 (Q11 w' (ad244.add ((x7_3).toNat * 11)) (rd_Op (rd_LOp l0_0 x3_1) x7_3) A255_7 c255_7)) ∧ (Kd.N kOp 38 w' w.heap.size (fun k_ => some k_ ≠ (s_.2 : Value).ownBlock ∧ k_ ≠ gb238) s_.1 t252) ∧ (Kd.N kOp 38 w' w.heap.size (fun k_ => some k_ ≠ (s_.1 : Value).ownBlock ∧ k_ ≠ gb238) s_.2 y257) ∧ (w'.heap[gb238]? = some (.cells #[.slice (some ad240) l0_0.length c0_0, .slice A0_1 l0_1.length c0_1, .slice A0_2 l0_2.length c0_2, .slice A0_3 l0_3.length c0_3] 27 (0,0))) ∧ (Below w.heap.size w w')) ?_ ?_
                         rotate_left
                         ·show (let G_ : Prop:=_; G_)
                          intro G_
                          exact (let_tmp i_ : Nonempty G_:=(((⟨by
                           subst G_
                           intro hCont
                           refine two_ (i:=1) (j:=20) (Ni:=some 115) (Nj:=some 134) (bA 23 1048575) (bA 23 2097149) rfl rfl rfl rfl (two_of HT_.out (by kernel_rfl)) (by decide) (by decide) (fun K hK => ?_) (fun K hK => ?_)
                           ·show (let G_ : Prop:=_; G_)
                            intro G_
                            exact (let_tmp i_ : Nonempty G_:=(((⟨by
                             subst G_
                             skip
                             refine gS Try.func10 #[.slice (some ad244) (rd_LOp l0_0 x3_1).length c240_0] (h := ?_)
                             with_reducible refine (r0_CopyOps.calls kj31 _ _ (rd_LOp l0_0 x3_1) t252 _ ?side1 ?side2 A37.out).mono ?_
                             (case side1 => exact cb HR240_0 HB)
                             (case side2 => exact HC240_0.out)
                             rintro e w47 ⟨v253,rfl,ho0,hb⟩
                             refine ⟨_,rfl, ?_⟩
                             have n0_:=Aside0.mk (Kd.N_lower (Kd.N_mono (ok':=fun k_ => k_ ≠ gb238) (Kd.S_N (Kd.S_bound ho0)) (fun k_ hk_ => (Kd.freshB (kk BK238) k_ hk_.2.1))) (below_size (bw HB)))
                             have n1_:=bl BK238 hb
                             have n2_:=bs HB hb
                             clear BK238
                             clear HB
                             have HO254:=n0_
                             have BK238:=n1_
                             have HB:=n2_
                             clear n0_ n1_ n2_
                             (try clear hb)
                             (try clear hb2)
                             (try clear hk)
                             (try clear hi)
                             (try clear ho0)
                             refine hK.out _ _ ⟨(cW HB hw255_0),(cW HB hw255_1),(cW HB hw255_2),(cW HB hw255_3),(cW HB hw255_4),(cW HB hw255_5),(cW HB hw255_6),(cW HB hw255_7),(cW HB hw255_8),(cW HB hw255_9),(cW HB hw255_10)⟩ (fun hHeld => ?_)
                             clear hK K
                             refine nn 115 (h := ?_)
                             refine on HT_ 20 (some 134) 2097151 (h:=fun K hK => ?_)
                             refine Kd.N_lit_step kOp _ 38 ?hg (N':=134) ?hd (xs:=([(⟨(wrap64 (1 + (Int.tmod (wrap64 (x3_1 + x7_3)) 8))),x11_4,2,(⟨0,0,0⟩ : SElem),(⟨#[]⟩ : ByteArray),([] : List (SElem)),(rd_Op (rd_LOp l0_0 x3_1) x7_3).f0,(rd_Op (rd_LOp l0_0 x3_1) x7_3).f1,wrap64 ((wrap64 (t246 + 1)) + (Int.tmod x7_3 3))⟩ : SOp)] : List (SOp))) (inner:=[.int .i64 (wrap64 (1 + (Int.tmod (wrap64 (x3_1 + x7_3)) 8))), .int .i64 x11_4, .int .i64 2, .int .i64 0, .int .i64 0, .int .i64 0, .string (⟨#[]⟩ : ByteArray), .slice none 0 0, .int .i64 ((rd_Op (rd_LOp l0_0 x3_1) x7_3).f0), .int .i64 ((rd_Op (rd_LOp l0_0 x3_1) x7_3).f1), .int .i64 (wrap64 ((wrap64 (t246 + 1)) + (Int.tmod x7_3 3)))]) (ok:=(fun k_ => some k_ ≠ (v253 : Value).ownBlock ∧ k_ ≠ gb238)) (okp:=(fun k_ => some k_ ≠ (v253 : Value).ownBlock ∧ k_ ≠ gb238)) ?hr ?hp (fun _ hk => hk) ((show ∀ k_,w47.heap.size ≤ k_ → (fun k_ => some k_ ≠ (v253 : Value).ownBlock ∧ k_ ≠ gb238) k_ from fun k_ hk => ⟨Kd.fresh' (Kd.N_lt (nk HO254)) k_ hk,Kd.freshB (kk BK238) k_ hk⟩) _ (Nat.le_refl _)) (Below.refl _ _) (Nat.le_refl _) (by simp) ?_; (case hd => rfl); (case hg => rfl); (case hr => first | (go_simp; done) | (go_simp; rfl)); (case hp => exact (Reps.front (show Kd.FK kOp _ _ (⟨(wrap64 (1 + (Int.tmod (wrap64 (x3_1 + x7_3)) 8))),x11_4,2,(⟨0,0,0⟩ : SElem),(⟨#[]⟩ : ByteArray),([] : List (SElem)),(rd_Op (rd_LOp l0_0 x3_1) x7_3).f0,(rd_Op (rd_LOp l0_0 x3_1) x7_3).f1,wrap64 ((wrap64 (t246 + 1)) + (Int.tmod x7_3 3))⟩ : SOp) [.int .i64 (wrap64 (1 + (Int.tmod (wrap64 (x3_1 + x7_3)) 8))), .int .i64 x11_4, .int .i64 2, .int .i64 0, .int .i64 0, .int .i64 0, .string (⟨#[]⟩ : ByteArray), .slice none 0 0, .int .i64 ((rd_Op (rd_LOp l0_0 x3_1) x7_3).f0), .int .i64 ((rd_Op (rd_LOp l0_0 x3_1) x7_3).f1), .int .i64 (wrap64 ((wrap64 (t246 + 1)) + (Int.tmod x7_3 3)))] from (kOp_mkF _ _ (⟨(wrap64 (1 + (Int.tmod (wrap64 (x3_1 + x7_3)) 8))),x11_4,2,(⟨0,0,0⟩ : SElem),(⟨#[]⟩ : ByteArray),([] : List (SElem)),(rd_Op (rd_LOp l0_0 x3_1) x7_3).f0,(rd_Op (rd_LOp l0_0 x3_1) x7_3).f1,wrap64 ((wrap64 (t246 + 1)) + (Int.tmod x7_3 3))⟩ : SOp) (Nat.le_refl _) (Kd.F_nil _ _ _))) rfl (Reps.none _ _) rfl))
                             intro v258 w48 ho49 hb hg_ hnew_
                             clear hg_ hnew_
                             (first | rw [← Ny257.out] at ho49 | (simp only [Int.reduceToNat] at ho49; rw [← Ny257.out] at ho49))
                             have n0_:=Aside0.mk (Kd.N_elder' (nk HO254) (Kd.N_base ho49) hb)
                             have n1_:=Aside0.mk (Kd.N_lower ho49 (below_size (bw HB)))
                             have n2_:=bl BK238 hb
                             have n3_:=bs HB hb
                             clear HO254
                             clear BK238
                             clear HB
                             have HO254:=n0_
                             have HO259:=n1_
                             have BK238:=n2_
                             have HB:=n3_
                             clear n0_ n1_ n2_ n3_
                             clear hb ho49
                             refine hK.out _ _ ⟨(cW HB hw255_0),(cW HB hw255_1),(cW HB hw255_2),(cW HB hw255_3),(cW HB hw255_4),(cW HB hw255_5),(cW HB hw255_6),(cW HB hw255_7),(cW HB hw255_8),(cW HB hw255_9),(cW HB hw255_10)⟩ (fun hHeld => ?_)
                             clear hK K
                             refine nn 134 (h := ?_)
                             exact norm_ (by simp only [putAll,Act.put,List.setIfInBounds_toArray,List.set_cons_zero,List.set_cons_succ]) (hCont (v253,v258) _ ⟨dup11 hHeld,(by (with_reducible repeat (first | apply Kd.N_alloc | apply Kd.N_drewN | apply Kd.N_drew)); exact Kd.N_mono HO254.out (fun _ hk => ⟨hk.2,hk.1⟩)),(nk HO259),(kk BK238),(bw HB)⟩)
                             ⟩ : Nonempty G_)) :); w6_DocToggles.bxo (G:=G_) (inferInstanceAs (Nonempty G_)))
                           skip
                           refine Kd.N_lit_step kOp _ 38 ?hg (N':=134) ?hd (xs:=([(⟨(wrap64 (1 + (Int.tmod (wrap64 (x3_1 + x7_3)) 8))),x11_4,2,(⟨0,0,0⟩ : SElem),(⟨#[]⟩ : ByteArray),([] : List (SElem)),(rd_Op (rd_LOp l0_0 x3_1) x7_3).f0,(rd_Op (rd_LOp l0_0 x3_1) x7_3).f1,wrap64 ((wrap64 (t246 + 1)) + (Int.tmod x7_3 3))⟩ : SOp)] : List (SOp))) (inner:=[.int .i64 (wrap64 (1 + (Int.tmod (wrap64 (x3_1 + x7_3)) 8))), .int .i64 x11_4, .int .i64 2, .int .i64 0, .int .i64 0, .int .i64 0, .string (⟨#[]⟩ : ByteArray), .slice none 0 0, .int .i64 ((rd_Op (rd_LOp l0_0 x3_1) x7_3).f0), .int .i64 ((rd_Op (rd_LOp l0_0 x3_1) x7_3).f1), .int .i64 (wrap64 ((wrap64 (t246 + 1)) + (Int.tmod x7_3 3)))]) (ok:=(fun k_ => k_ ≠ gb238)) (okp:=(fun k_ => k_ ≠ gb238)) ?hr ?hp (fun _ hk => hk) ((show ∀ k_,w46.heap.size ≤ k_ → (fun k_ => k_ ≠ gb238) k_ from fun k_ hk => Kd.freshB (kk BK238) k_ hk) _ (Nat.le_refl _)) (Below.refl _ _) (Nat.le_refl _) (by simp) ?_; (case hd => rfl); (case hg => rfl); (case hr => first | (go_simp; done) | (go_simp; rfl)); (case hp => exact (Reps.front (show Kd.FK kOp _ _ (⟨(wrap64 (1 + (Int.tmod (wrap64 (x3_1 + x7_3)) 8))),x11_4,2,(⟨0,0,0⟩ : SElem),(⟨#[]⟩ : ByteArray),([] : List (SElem)),(rd_Op (rd_LOp l0_0 x3_1) x7_3).f0,(rd_Op (rd_LOp l0_0 x3_1) x7_3).f1,wrap64 ((wrap64 (t246 + 1)) + (Int.tmod x7_3 3))⟩ : SOp) [.int .i64 (wrap64 (1 + (Int.tmod (wrap64 (x3_1 + x7_3)) 8))), .int .i64 x11_4, .int .i64 2, .int .i64 0, .int .i64 0, .int .i64 0, .string (⟨#[]⟩ : ByteArray), .slice none 0 0, .int .i64 ((rd_Op (rd_LOp l0_0 x3_1) x7_3).f0), .int .i64 ((rd_Op (rd_LOp l0_0 x3_1) x7_3).f1), .int .i64 (wrap64 ((wrap64 (t246 + 1)) + (Int.tmod x7_3 3)))] from (kOp_mkF _ _ (⟨(wrap64 (1 + (Int.tmod (wrap64 (x3_1 + x7_3)) 8))),x11_4,2,(⟨0,0,0⟩ : SElem),(⟨#[]⟩ : ByteArray),([] : List (SElem)),(rd_Op (rd_LOp l0_0 x3_1) x7_3).f0,(rd_Op (rd_LOp l0_0 x3_1) x7_3).f1,wrap64 ((wrap64 (t246 + 1)) + (Int.tmod x7_3 3))⟩ : SOp) (Nat.le_refl _) (Kd.F_nil _ _ _))) rfl (Reps.none _ _) rfl))
                           intro v258 w47 ho48 hb hg_ hnew_
                           clear hg_ hnew_
                           (first | rw [← Ny257.out] at ho48 | (simp only [Int.reduceToNat] at ho48; rw [← Ny257.out] at ho48))
                           have n0_:=Aside0.mk (Kd.N_lower ho48 (below_size (bw HB)))
                           have n1_:=bl BK238 hb
                           have n2_:=bs HB hb
                           clear BK238
                           clear HB
                           have HO259:=n0_
                           have BK238:=n1_
                           have HB:=n2_
                           clear n0_ n1_ n2_
                           clear hb ho48
                           refine hK.out _ _ ⟨(cW HB hw255_0),(cW HB hw255_1),(cW HB hw255_2),(cW HB hw255_3),(cW HB hw255_4),(cW HB hw255_5),(cW HB hw255_6),(cW HB hw255_7),(cW HB hw255_8),(cW HB hw255_9),(cW HB hw255_10)⟩ (fun hHeld => ?_)
                           clear hK K
                           refine nn 134 (h := ?_)
                           refine on HT_ 1 (some 115) 2097151 (h:=fun K hK => ?_)
                           refine gS Try.func10 #[.slice (some ad244) (rd_LOp l0_0 x3_1).length c240_0] (h := ?_)
                           with_reducible refine (r0_CopyOps.calls kj31 _ _ (rd_LOp l0_0 x3_1) t252 _ ?side1 ?side2 A37.out).mono ?_
                           (case side1 => exact cb HR240_0 HB)
                           (case side2 => exact HC240_0.out)
                           rintro e w49 ⟨v253,rfl,ho0,hb⟩
                           refine ⟨_,rfl, ?_⟩
                           have n0_:=Aside0.mk (Kd.N_elder' (nk HO259) (Kd.N_base (Kd.S_N ho0)) hb)
                           have n1_:=Aside0.mk (Kd.N_lower (Kd.N_mono (ok':=fun k_ => some k_ ≠ (v258 : Value).ownBlock ∧ k_ ≠ gb238) (Kd.S_N (Kd.S_bound ho0)) (fun k_ hk_ => ⟨(Kd.fresh' (Kd.N_lt (nk HO259)) k_ hk_.2.1),(Kd.freshB (kk BK238) k_ hk_.2.1)⟩)) (below_size (bw HB)))
                           have n2_:=bl BK238 hb
                           have n3_:=bs HB hb
                           clear HO259
                           clear BK238
                           clear HB
                           have HO259:=n0_
                           have HO254:=n1_
                           have BK238:=n2_
                           have HB:=n3_
                           clear n0_ n1_ n2_ n3_
                           (try clear hb)
                           (try clear hb2)
                           (try clear hk)
                           (try clear hi)
                           (try clear ho0)
                           refine hK.out _ _ ⟨(cW HB hw255_0),(cW HB hw255_1),(cW HB hw255_2),(cW HB hw255_3),(cW HB hw255_4),(cW HB hw255_5),(cW HB hw255_6),(cW HB hw255_7),(cW HB hw255_8),(cW HB hw255_9),(cW HB hw255_10)⟩ (fun hHeld => ?_)
                           clear hK K
                           refine nn 115 (h := ?_)
                           exact norm_ (by simp only [putAll,Act.put,List.setIfInBounds_toArray,List.set_cons_zero,List.set_cons_succ]) (hCont (v253,v258) _ ⟨dup11 hHeld,(nk HO254),(by (with_reducible repeat (first | apply Kd.N_alloc | apply Kd.N_drewN | apply Kd.N_drew)); exact Kd.N_mono HO259.out (fun _ hk => ⟨hk.2,hk.1⟩)),(kk BK238),(bw HB)⟩)
                           ⟩ : Nonempty G_)) :); w6_DocToggles.bxo (G:=G_) (inferInstanceAs (Nonempty G_)))
                         rintro ⟨v253,v258⟩ w50 ⟨hS_,h0_,h1_,h2_,h3_⟩
                         have n0_ : Aside0 (Kd.N kOp 38 w50 w.heap.size (fun k_ => some k_ ≠ (v258 : Value).ownBlock ∧ k_ ≠ gb238) v253 t252):=⟨h0_⟩
                         have n1_ : Aside0 (Kd.N kOp 38 w50 w.heap.size (fun k_ => some k_ ≠ (v253 : Value).ownBlock ∧ k_ ≠ gb238) v258 y257):=⟨h1_⟩
                         have n2_ : Aside0 (w50.heap[gb238]? = some (.cells #[.slice (some ad240) l0_0.length c0_0, .slice A0_1 l0_1.length c0_1, .slice A0_2 l0_2.length c0_2, .slice A0_3 l0_3.length c0_3] 27 (0,0))):=⟨h2_⟩
                         have n3_ : Aside0 (Below w.heap.size w w50):=⟨h3_⟩
                         clear BK238
                         clear HB
                         clear h0_ h1_ h2_ h3_
                         have HO254:=n0_
                         have HO259:=n1_
                         have BK238:=n2_
                         have HB:=n3_
                         clear n0_ n1_ n2_ n3_
                         have hHeld : P11 w50 (ad244.add ((x7_3).toNat * 11)) (rd_Op (rd_LOp l0_0 x3_1) x7_3) A255_7 c255_7 (Q11 w50 (ad244.add ((x7_3).toNat * 11)) (rd_Op (rd_LOp l0_0 x3_1) x7_3) A255_7 c255_7):=hS_
                         obtain ⟨Ao52,co52,eo52⟩:=Kd.N_slice HO259.out
                         (first | subst eo52 | (injection eo52 with f1_ f2_ f3_; have f4_:=f1_.symm; have f5_:=f3_.symm; clear f1_ f2_ f3_; subst f4_; subst f5_))
                         refine norm_ (a' := ?_) ?_ ?_
                         rotate_left
                         ·simp only [putAll,Act.put,List.setIfInBounds_toArray,List.set_cons_zero,List.set_cons_succ]
                          rfl
                         refine on HT_ 21 (some 135) 4194303 (h:=fun K hK => ?_)
                         refine Kd.N_append_rows_step kOp (w0:=w) w.heap.size (by rfl) (.tmp 115) (.tmp 134) 24 38 (.agg #[(.int .i64 0),(.int .i64 0),(.int .i64 0),(.int .i64 0),(.int .i64 0),(.int .i64 0),(.string ⟨#[]⟩),(.slice none 0 0),(.int .i64 0),(.int .i64 0),(.int .i64 0)]) 112 rfl Try.underlying24 info38 rfl (by decide) (by omega) v253 t252 y257 _ _ _ (fun k_ => k_ ≠ gb238) (fun k_ => ((fun k_ => k_ ≠ gb238)) k_ ∧ some k_ ≠ (v253 : Value).ownBlock) rfl rfl ?aO ?aR (fun _ hk => hk) ?aF ?aB ?aS ?aL ?_
                         (case aR => exact (by skip; exact Kd.N_F (Kd.N_mono (ok':=(fun k_ => ((fun k_ => k_ ≠ gb238)) k_ ∧ some k_ ≠ (v253 : Value).ownBlock)) (HO259.out) (fun k_ hk => ⟨hk.2,hk.1⟩))))
                         (case aB => exact (bw HB))
                         (case aF => exact (fun k_ hk => Kd.freshB (kk BK238) k_ hk))
                         (case aO => exact (by (with_reducible repeat (first | apply Kd.N_alloc | apply Kd.N_drewN | apply Kd.N_drew)); exact Kd.N_mono HO254.out (fun _ hk => hk.2)))
                         (case aS => exact (below_size (bw HB)))
                         (case aL => have:=LMc40.out; omega)
                         intro v261 w51 ho hb hg hat
                         rw [← Ny260.out] at ho
                         have n0_:=Aside0.mk (blk_grown (kk BK238) hg (Kd.N_ne HO254.out BK238.out (by decide)))
                         have n1_:=Aside0.mk (Kd.N_afterv (ok:=(fun k_ => k_ ≠ gb238)) (by (with_reducible repeat (first | apply Kd.N_alloc | apply Kd.N_drewN | apply Kd.N_drew)); exact Kd.N_mono HO259.out (fun _ hk => ⟨hk.2,hk.1⟩)) hg hat)
                         have n2_:=Aside0.mk (hb)
                         have n3_:=Aside0.mk (ho)
                         clear BK238
                         clear HO259
                         clear HB
                         clear HO254
                         have BK238:=n0_
                         have HO259:=n1_
                         have HB:=n2_
                         have HO262:=n3_
                         clear n0_ n1_ n2_ n3_
                         clear ho hb hg hat
                         refine hK.out _ _ ⟨(cW HB hw255_0),(cW HB hw255_1),(cW HB hw255_2),(cW HB hw255_3),(cW HB hw255_4),(cW HB hw255_5),(cW HB hw255_6),(cW HB hw255_7),(cW HB hw255_8),(cW HB hw255_9),(cW HB hw255_10)⟩ (fun hHeld => ?_)
                         clear hK K
                         refine nn 135 (h := ?_)
                         refine pu HT_ 22 13 8388607 (h := ?_)
                         refine dn HT_ (h := ?_)
                         try go_wp2
                         have n0_:=Aside0.mk (Kd.N_drew HO259.out)
                         have n1_:=Aside0.mk (Kd.N_drew HO262.out)
                         have n2_:=Aside0.mk (blk_drew BK238.out)
                         have n3_:=Aside0.mk (below_drew1 HB.out)
                         clear HO259
                         clear HO262
                         clear BK238
                         clear HB
                         have HO259:=n0_
                         have HO262:=n1_
                         have BK238:=n2_
                         have HB:=n3_
                         clear n0_ n1_ n2_ n3_
                         have p266 : 0 ≤ (x7_3 : Int):=od
                         have q266 : x7_3 < ((rd_LOp l0_0 x3_1).length : Int):=od
                         obtain ⟨ad266,A266_7,c266_7,e266,hx266_0,hx266_1,hx266_2,hx266_3,hx266_4,hx266_5,hx266_6,hx266_7,hx266_8,hx266_9,hx266_10,hl266_7,hi266_7⟩:=at_Op HR240_0.out x7_3 p266 q266
                         have hw266_10:=hx266_10
                         have hw266_9:=hx266_9
                         have hw266_8:=hx266_8
                         have hw266_7:=hx266_7
                         have hw266_6:=hx266_6
                         have hw266_5:=hx266_5
                         have hw266_4:=hx266_4
                         have hw266_3:=hx266_3
                         have hw266_2:=hx266_2
                         have hw266_1:=hx266_1
                         have hw266_0:=hx266_0
                         obtain rfl : ad244 = ad266:=(by injection e266)
                         replace hx266_0:=cl HB hx266_0
                         replace hx266_1:=cl HB hx266_1
                         replace hx266_2:=cl HB hx266_2
                         replace hx266_3:=cl HB hx266_3
                         replace hx266_4:=cl HB hx266_4
                         replace hx266_5:=cl HB hx266_5
                         replace hx266_6:=cl HB hx266_6
                         replace hx266_7:=cl HB hx266_7
                         replace hx266_8:=cl HB hx266_8
                         replace hx266_9:=cl HB hx266_9
                         replace hx266_10:=cl HB hx266_10
                         have HR266_7:=Aside0.mk hi266_7
                         have HC266_7:=Aside0.mk hl266_7
                         clear hi266_7 hl266_7
                         replace p266:=eq_true p266
                         replace q266:=eq_true q266
                         refine stP (fun w' => Q11 w' (ad244.add ((x7_3).toNat * 11)) (rd_Op (rd_LOp l0_0 x3_1) x7_3) A266_7 c266_7) 19 ⟨(cW HB hw266_0),(cW HB hw266_1),(cW HB hw266_2),(cW HB hw266_3),(cW HB hw266_4),(cW HB hw266_5),(cW HB hw266_6),(cW HB hw266_7),(cW HB hw266_8),(cW HB hw266_9),(cW HB hw266_10)⟩ (h:=fun hHeld => ?_); refine with_tabW w6_DocToggles.tab23 w6_DocToggles.bits23 (fun HT_ HW_ => ?_)
                         generalize w51.drew = w53 at HO259 HO262 BK238 HB HR266_7 HR266_7 hx266_0 hx266_1 hx266_10 hx266_2 hx266_3 hx266_4 hx266_5 hx266_6 hx266_7 hx266_8 hx266_9 hx266_0 hx266_1 hx266_10 hx266_2 hx266_3 hx266_4 hx266_5 hx266_6 hx266_7 hx266_8 hx266_9 hHeld ⊢
                         refine pu HT_ 0 136 1 (h := ?_)
                         refine pu HT_ 2 138 5 (h := ?_)
                         refine pu HT_ 3 139 13 (h := ?_)
                         refine pu HT_ 4 140 29 (h := ?_)
                         refine pu HT_ 5 141 61 (h := ?_)
                         refine pu HT_ 6 142 125 (h := ?_)
                         refine pu HT_ 7 143 253 (h := ?_)
                         refine pu HT_ 9 145 765 (h := ?_)
                         refine pu HT_ 10 146 1789 (h := ?_)
                         refine pu HT_ 11 147 3837 (h := ?_)
                         refine pu HT_ 12 148 7933 (h := ?_)
                         refine pu HT_ 14 150 24317 (h := ?_)
                         refine tk HT_ HW_ hHeld 8 144 24573 (h := ?_)
                         refine tk HT_ HW_ hHeld 13 149 32765 (h := ?_)
                         refine pu HT_ 15 151 65533 (h := ?_)
                         refine join_ (σ:=Value × Value) 2 (bA 19 131071) (fun s_ => [(137,s_.1),(152,s_.2)]) (fun s_ w' => (P11 w' (ad244.add ((x7_3).toNat * 11)) (rd_Op (rd_LOp l0_0 x3_1) x7_3) A266_7 c266_7 (Q11 w' (ad244.add ((x7_3).toNat * 11)) (rd_Op (rd_LOp l0_0 x3_1) x7_3) A266_7 c266_7)) ∧ (Kd.N kOp 38 w' w.heap.size (fun k_ => some k_ ≠ (v261 : Value).ownBlock ∧ some k_ ≠ (s_.1 : Value).ownBlock ∧ some k_ ≠ (s_.2 : Value).ownBlock ∧ k_ ≠ gb238) (.slice Ao52 y257.length co52) y257) ∧ (Kd.N kOp 38 w' w.heap.size (fun k_ => some k_ ≠ (s_.1 : Value).ownBlock ∧ some k_ ≠ (s_.2 : Value).ownBlock ∧ k_ ≠ gb238) v261 y260) ∧ (Kd.N kOp 38 w' w.heap.size (fun k_ => some k_ ≠ (.slice Ao52 y257.length co52 : Value).ownBlock ∧ some k_ ≠ (v261 : Value).ownBlock ∧ some k_ ≠ (s_.2 : Value).ownBlock ∧ k_ ≠ gb238) s_.1 t263) ∧ (Kd.N kOp 38 w' w.heap.size (fun k_ => some k_ ≠ (.slice Ao52 y257.length co52 : Value).ownBlock ∧ some k_ ≠ (v261 : Value).ownBlock ∧ some k_ ≠ (s_.1 : Value).ownBlock ∧ k_ ≠ gb238) s_.2 y268) ∧ (w'.heap[gb238]? = some (.cells #[.slice (some ad240) l0_0.length c0_0, .slice A0_1 l0_1.length c0_1, .slice A0_2 l0_2.length c0_2, .slice A0_3 l0_3.length c0_3] 27 (0,0))) ∧ (Below w.heap.size w w')) ?_ ?_
                         rotate_left
                         ·show (let G_ : Prop:=_; G_)
                          intro G_
                          exact (let_tmp i_ : Nonempty G_:=(((⟨by
                           subst G_
                           intro hCont
                           refine two_ (i:=1) (j:=16) (Ni:=some 137) (Nj:=some 152) (bA 19 65535) (bA 19 131069) rfl rfl rfl rfl (two_of HT_.out (by kernel_rfl)) (by decide) (by decide) (fun K hK => ?_) (fun K hK => ?_)
                           ·show (let G_ : Prop:=_; G_)
                            intro G_
                            exact (let_tmp i_ : Nonempty G_:=(((⟨by
                             subst G_
                             skip
                             refine gS Try.func10 #[.slice (some ad244) (rd_LOp l0_0 x3_1).length c240_0] (h := ?_)
                             with_reducible refine (r0_CopyOps.calls kj31 _ _ (rd_LOp l0_0 x3_1) t263 _ ?side1 ?side2 A41.out).mono ?_
                             (case side1 => exact cb HR240_0 HB)
                             (case side2 => exact HC240_0.out)
                             rintro e w54 ⟨v264,rfl,ho0,hb⟩
                             refine ⟨_,rfl, ?_⟩
                             have n0_:=Aside0.mk (Kd.N_elder' (nk HO259) (Kd.N_base (Kd.S_N ho0)) hb)
                             have n1_:=Aside0.mk (Kd.N_elder' (nk HO262) (Kd.N_base (Kd.S_N ho0)) hb)
                             have n2_:=Aside0.mk (Kd.N_lower (Kd.N_mono (ok':=fun k_ => some k_ ≠ (.slice Ao52 y257.length co52 : Value).ownBlock ∧ some k_ ≠ (v261 : Value).ownBlock ∧ k_ ≠ gb238) (Kd.S_N (Kd.S_bound ho0)) (fun k_ hk_ => ⟨(Kd.fresh' (Kd.N_lt (nk HO259)) k_ hk_.2.1),(Kd.fresh' (Kd.N_lt (nk HO262)) k_ hk_.2.1),(Kd.freshB (kk BK238) k_ hk_.2.1)⟩)) (below_size (bw HB)))
                             have n3_:=bl BK238 hb
                             have n4_:=bs HB hb
                             clear HO259
                             clear HO262
                             clear BK238
                             clear HB
                             have HO259:=n0_
                             have HO262:=n1_
                             have HO265:=n2_
                             have BK238:=n3_
                             have HB:=n4_
                             clear n0_ n1_ n2_ n3_ n4_
                             (try clear hb)
                             (try clear hb2)
                             (try clear hk)
                             (try clear hi)
                             (try clear ho0)
                             refine hK.out _ _ ⟨(cW HB hw266_0),(cW HB hw266_1),(cW HB hw266_2),(cW HB hw266_3),(cW HB hw266_4),(cW HB hw266_5),(cW HB hw266_6),(cW HB hw266_7),(cW HB hw266_8),(cW HB hw266_9),(cW HB hw266_10)⟩ (fun hHeld => ?_)
                             clear hK K
                             refine nn 137 (h := ?_)
                             refine on HT_ 16 (some 152) 131071 (h:=fun K hK => ?_)
                             refine Kd.N_lit_step kOp _ 38 ?hg (N':=152) ?hd (xs:=([(⟨(wrap64 (1 + (Int.tmod (wrap64 (x3_1 + x7_3)) 8))),x11_4,2,(⟨0,0,0⟩ : SElem),(⟨#[]⟩ : ByteArray),([] : List (SElem)),(rd_Op (rd_LOp l0_0 x3_1) x7_3).f0,(rd_Op (rd_LOp l0_0 x3_1) x7_3).f1,t246⟩ : SOp)] : List (SOp))) (inner:=[.int .i64 (wrap64 (1 + (Int.tmod (wrap64 (x3_1 + x7_3)) 8))), .int .i64 x11_4, .int .i64 2, .int .i64 0, .int .i64 0, .int .i64 0, .string (⟨#[]⟩ : ByteArray), .slice none 0 0, .int .i64 ((rd_Op (rd_LOp l0_0 x3_1) x7_3).f0), .int .i64 ((rd_Op (rd_LOp l0_0 x3_1) x7_3).f1), .int .i64 t246]) (ok:=(fun k_ => some k_ ≠ (.slice Ao52 y257.length co52 : Value).ownBlock ∧ some k_ ≠ (v261 : Value).ownBlock ∧ some k_ ≠ (v264 : Value).ownBlock ∧ k_ ≠ gb238)) (okp:=(fun k_ => some k_ ≠ (.slice Ao52 y257.length co52 : Value).ownBlock ∧ some k_ ≠ (v261 : Value).ownBlock ∧ some k_ ≠ (v264 : Value).ownBlock ∧ k_ ≠ gb238)) ?hr ?hp (fun _ hk => hk) ((show ∀ k_,w54.heap.size ≤ k_ → (fun k_ => some k_ ≠ (.slice Ao52 y257.length co52 : Value).ownBlock ∧ some k_ ≠ (v261 : Value).ownBlock ∧ some k_ ≠ (v264 : Value).ownBlock ∧ k_ ≠ gb238) k_ from fun k_ hk => ⟨Kd.fresh' (Kd.N_lt (nk HO259)) k_ hk,Kd.fresh' (Kd.N_lt (nk HO262)) k_ hk,Kd.fresh' (Kd.N_lt (nk HO265)) k_ hk,Kd.freshB (kk BK238) k_ hk⟩) _ (Nat.le_refl _)) (Below.refl _ _) (Nat.le_refl _) (by simp) ?_; (case hd => rfl); (case hg => rfl); (case hr => first | (go_simp; done) | (go_simp; rfl)); (case hp => exact (Reps.front (show Kd.FK kOp _ _ (⟨(wrap64 (1 + (Int.tmod (wrap64 (x3_1 + x7_3)) 8))),x11_4,2,(⟨0,0,0⟩ : SElem),(⟨#[]⟩ : ByteArray),([] : List (SElem)),(rd_Op (rd_LOp l0_0 x3_1) x7_3).f0,(rd_Op (rd_LOp l0_0 x3_1) x7_3).f1,t246⟩ : SOp) [.int .i64 (wrap64 (1 + (Int.tmod (wrap64 (x3_1 + x7_3)) 8))), .int .i64 x11_4, .int .i64 2, .int .i64 0, .int .i64 0, .int .i64 0, .string (⟨#[]⟩ : ByteArray), .slice none 0 0, .int .i64 ((rd_Op (rd_LOp l0_0 x3_1) x7_3).f0), .int .i64 ((rd_Op (rd_LOp l0_0 x3_1) x7_3).f1), .int .i64 t246] from (kOp_mkF _ _ (⟨(wrap64 (1 + (Int.tmod (wrap64 (x3_1 + x7_3)) 8))),x11_4,2,(⟨0,0,0⟩ : SElem),(⟨#[]⟩ : ByteArray),([] : List (SElem)),(rd_Op (rd_LOp l0_0 x3_1) x7_3).f0,(rd_Op (rd_LOp l0_0 x3_1) x7_3).f1,t246⟩ : SOp) (Nat.le_refl _) (Kd.F_nil _ _ _))) rfl (Reps.none _ _) rfl))
                             intro v269 w55 ho56 hb hg_ hnew_
                             clear hg_ hnew_
                             (first | rw [← Ny268.out] at ho56 | (simp only [Int.reduceToNat] at ho56; rw [← Ny268.out] at ho56))
                             have n0_:=Aside0.mk (Kd.N_elder' (nk HO259) (Kd.N_base ho56) hb)
                             have n1_:=Aside0.mk (Kd.N_elder' (nk HO262) (Kd.N_base ho56) hb)
                             have n2_:=Aside0.mk (Kd.N_elder' (nk HO265) (Kd.N_base ho56) hb)
                             have n3_:=Aside0.mk (Kd.N_lower ho56 (below_size (bw HB)))
                             have n4_:=bl BK238 hb
                             have n5_:=bs HB hb
                             clear HO259
                             clear HO262
                             clear HO265
                             clear BK238
                             clear HB
                             have HO259:=n0_
                             have HO262:=n1_
                             have HO265:=n2_
                             have HO270:=n3_
                             have BK238:=n4_
                             have HB:=n5_
                             clear n0_ n1_ n2_ n3_ n4_ n5_
                             clear hb ho56
                             refine hK.out _ _ ⟨(cW HB hw266_0),(cW HB hw266_1),(cW HB hw266_2),(cW HB hw266_3),(cW HB hw266_4),(cW HB hw266_5),(cW HB hw266_6),(cW HB hw266_7),(cW HB hw266_8),(cW HB hw266_9),(cW HB hw266_10)⟩ (fun hHeld => ?_)
                             clear hK K
                             refine nn 152 (h := ?_)
                             exact norm_ (by simp only [putAll,Act.put,List.setIfInBounds_toArray,List.set_cons_zero,List.set_cons_succ]) (hCont (v264,v269) _ ⟨dup11 hHeld,(by (with_reducible repeat (first | apply Kd.N_alloc | apply Kd.N_drewN | apply Kd.N_drew)); exact Kd.N_mono HO259.out (fun _ hk => ⟨hk.1.1.2,⟨hk.1.2,⟨hk.2,hk.1.1.1⟩⟩⟩)),(by (with_reducible repeat (first | apply Kd.N_alloc | apply Kd.N_drewN | apply Kd.N_drew)); exact Kd.N_mono HO262.out (fun _ hk => ⟨hk.1.2,⟨hk.2,hk.1.1⟩⟩)),(by (with_reducible repeat (first | apply Kd.N_alloc | apply Kd.N_drewN | apply Kd.N_drew)); exact Kd.N_mono HO265.out (fun _ hk => ⟨hk.1.1,⟨hk.1.2.1,⟨hk.2,hk.1.2.2⟩⟩⟩)),(nk HO270),(kk BK238),(bw HB)⟩)
                             ⟩ : Nonempty G_)) :); w6_DocToggles.bxo (G:=G_) (inferInstanceAs (Nonempty G_)))
                           skip
                           refine Kd.N_lit_step kOp _ 38 ?hg (N':=152) ?hd (xs:=([(⟨(wrap64 (1 + (Int.tmod (wrap64 (x3_1 + x7_3)) 8))),x11_4,2,(⟨0,0,0⟩ : SElem),(⟨#[]⟩ : ByteArray),([] : List (SElem)),(rd_Op (rd_LOp l0_0 x3_1) x7_3).f0,(rd_Op (rd_LOp l0_0 x3_1) x7_3).f1,t246⟩ : SOp)] : List (SOp))) (inner:=[.int .i64 (wrap64 (1 + (Int.tmod (wrap64 (x3_1 + x7_3)) 8))), .int .i64 x11_4, .int .i64 2, .int .i64 0, .int .i64 0, .int .i64 0, .string (⟨#[]⟩ : ByteArray), .slice none 0 0, .int .i64 ((rd_Op (rd_LOp l0_0 x3_1) x7_3).f0), .int .i64 ((rd_Op (rd_LOp l0_0 x3_1) x7_3).f1), .int .i64 t246]) (ok:=(fun k_ => some k_ ≠ (.slice Ao52 y257.length co52 : Value).ownBlock ∧ some k_ ≠ (v261 : Value).ownBlock ∧ k_ ≠ gb238)) (okp:=(fun k_ => some k_ ≠ (.slice Ao52 y257.length co52 : Value).ownBlock ∧ some k_ ≠ (v261 : Value).ownBlock ∧ k_ ≠ gb238)) ?hr ?hp (fun _ hk => hk) ((show ∀ k_,w53.heap.size ≤ k_ → (fun k_ => some k_ ≠ (.slice Ao52 y257.length co52 : Value).ownBlock ∧ some k_ ≠ (v261 : Value).ownBlock ∧ k_ ≠ gb238) k_ from fun k_ hk => ⟨Kd.fresh' (Kd.N_lt (nk HO259)) k_ hk,Kd.fresh' (Kd.N_lt (nk HO262)) k_ hk,Kd.freshB (kk BK238) k_ hk⟩) _ (Nat.le_refl _)) (Below.refl _ _) (Nat.le_refl _) (by simp) ?_; (case hd => rfl); (case hg => rfl); (case hr => first | (go_simp; done) | (go_simp; rfl)); (case hp => exact (Reps.front (show Kd.FK kOp _ _ (⟨(wrap64 (1 + (Int.tmod (wrap64 (x3_1 + x7_3)) 8))),x11_4,2,(⟨0,0,0⟩ : SElem),(⟨#[]⟩ : ByteArray),([] : List (SElem)),(rd_Op (rd_LOp l0_0 x3_1) x7_3).f0,(rd_Op (rd_LOp l0_0 x3_1) x7_3).f1,t246⟩ : SOp) [.int .i64 (wrap64 (1 + (Int.tmod (wrap64 (x3_1 + x7_3)) 8))), .int .i64 x11_4, .int .i64 2, .int .i64 0, .int .i64 0, .int .i64 0, .string (⟨#[]⟩ : ByteArray), .slice none 0 0, .int .i64 ((rd_Op (rd_LOp l0_0 x3_1) x7_3).f0), .int .i64 ((rd_Op (rd_LOp l0_0 x3_1) x7_3).f1), .int .i64 t246] from (kOp_mkF _ _ (⟨(wrap64 (1 + (Int.tmod (wrap64 (x3_1 + x7_3)) 8))),x11_4,2,(⟨0,0,0⟩ : SElem),(⟨#[]⟩ : ByteArray),([] : List (SElem)),(rd_Op (rd_LOp l0_0 x3_1) x7_3).f0,(rd_Op (rd_LOp l0_0 x3_1) x7_3).f1,t246⟩ : SOp) (Nat.le_refl _) (Kd.F_nil _ _ _))) rfl (Reps.none _ _) rfl))
                           intro v269 w54 ho55 hb hg_ hnew_
                           clear hg_ hnew_
                           (first | rw [← Ny268.out] at ho55 | (simp only [Int.reduceToNat] at ho55; rw [← Ny268.out] at ho55))
                           have n0_:=Aside0.mk (Kd.N_elder' (nk HO259) (Kd.N_base ho55) hb)
                           have n1_:=Aside0.mk (Kd.N_elder' (nk HO262) (Kd.N_base ho55) hb)
                           have n2_:=Aside0.mk (Kd.N_lower ho55 (below_size (bw HB)))
                           have n3_:=bl BK238 hb
                           have n4_:=bs HB hb
                           clear HO259
                           clear HO262
                           clear BK238
                           clear HB
                           have HO259:=n0_
                           have HO262:=n1_
                           have HO270:=n2_
                           have BK238:=n3_
                           have HB:=n4_
                           clear n0_ n1_ n2_ n3_ n4_
                           clear hb ho55
                           refine hK.out _ _ ⟨(cW HB hw266_0),(cW HB hw266_1),(cW HB hw266_2),(cW HB hw266_3),(cW HB hw266_4),(cW HB hw266_5),(cW HB hw266_6),(cW HB hw266_7),(cW HB hw266_8),(cW HB hw266_9),(cW HB hw266_10)⟩ (fun hHeld => ?_)
                           clear hK K
                           refine nn 152 (h := ?_)
                           refine on HT_ 1 (some 137) 131071 (h:=fun K hK => ?_)
                           refine gS Try.func10 #[.slice (some ad244) (rd_LOp l0_0 x3_1).length c240_0] (h := ?_)
                           with_reducible refine (r0_CopyOps.calls kj31 _ _ (rd_LOp l0_0 x3_1) t263 _ ?side1 ?side2 A41.out).mono ?_
                           (case side1 => exact cb HR240_0 HB)
                           (case side2 => exact HC240_0.out)
                           rintro e w56 ⟨v264,rfl,ho0,hb⟩
                           refine ⟨_,rfl, ?_⟩
                           have n0_:=Aside0.mk (Kd.N_elder' (nk HO259) (Kd.N_base (Kd.S_N ho0)) hb)
                           have n1_:=Aside0.mk (Kd.N_elder' (nk HO262) (Kd.N_base (Kd.S_N ho0)) hb)
                           have n2_:=Aside0.mk (Kd.N_elder' (nk HO270) (Kd.N_base (Kd.S_N ho0)) hb)
                           have n3_:=Aside0.mk (Kd.N_lower (Kd.N_mono (ok':=fun k_ => some k_ ≠ (.slice Ao52 y257.length co52 : Value).ownBlock ∧ some k_ ≠ (v261 : Value).ownBlock ∧ some k_ ≠ (v269 : Value).ownBlock ∧ k_ ≠ gb238) (Kd.S_N (Kd.S_bound ho0)) (fun k_ hk_ => ⟨(Kd.fresh' (Kd.N_lt (nk HO259)) k_ hk_.2.1),(Kd.fresh' (Kd.N_lt (nk HO262)) k_ hk_.2.1),(Kd.fresh' (Kd.N_lt (nk HO270)) k_ hk_.2.1),(Kd.freshB (kk BK238) k_ hk_.2.1)⟩)) (below_size (bw HB)))
                           have n4_:=bl BK238 hb
                           have n5_:=bs HB hb
                           clear HO259
                           clear HO262
                           clear HO270
                           clear BK238
                           clear HB
                           have HO259:=n0_
                           have HO262:=n1_
                           have HO270:=n2_
                           have HO265:=n3_
                           have BK238:=n4_
                           have HB:=n5_
                           clear n0_ n1_ n2_ n3_ n4_ n5_
                           (try clear hb)
                           (try clear hb2)
                           (try clear hk)
                           (try clear hi)
                           (try clear ho0)
                           refine hK.out _ _ ⟨(cW HB hw266_0),(cW HB hw266_1),(cW HB hw266_2),(cW HB hw266_3),(cW HB hw266_4),(cW HB hw266_5),(cW HB hw266_6),(cW HB hw266_7),(cW HB hw266_8),(cW HB hw266_9),(cW HB hw266_10)⟩ (fun hHeld => ?_)
                           clear hK K
                           refine nn 137 (h := ?_)
                           exact norm_ (by simp only [putAll,Act.put,List.setIfInBounds_toArray,List.set_cons_zero,List.set_cons_succ]) (hCont (v264,v269) _ ⟨dup11 hHeld,(by (with_reducible repeat (first | apply Kd.N_alloc | apply Kd.N_drewN | apply Kd.N_drew)); exact Kd.N_mono HO259.out (fun _ hk => ⟨hk.1.1.2,⟨hk.2,⟨hk.1.2,hk.1.1.1⟩⟩⟩)),(by (with_reducible repeat (first | apply Kd.N_alloc | apply Kd.N_drewN | apply Kd.N_drew)); exact Kd.N_mono HO262.out (fun _ hk => ⟨hk.2,⟨hk.1.2,hk.1.1⟩⟩)),(nk HO265),(by (with_reducible repeat (first | apply Kd.N_alloc | apply Kd.N_drewN | apply Kd.N_drew)); exact Kd.N_mono HO270.out (fun _ hk => ⟨hk.1.1,⟨hk.1.2.1,⟨hk.2,hk.1.2.2⟩⟩⟩)),(kk BK238),(bw HB)⟩)
                           ⟩ : Nonempty G_)) :); w6_DocToggles.bxo (G:=G_) (inferInstanceAs (Nonempty G_)))
                         rintro ⟨v264,v269⟩ w57 ⟨hS_,h0_,h1_,h2_,h3_,h4_,h5_⟩
                         have n0_ : Aside0 (Kd.N kOp 38 w57 w.heap.size (fun k_ => some k_ ≠ (v261 : Value).ownBlock ∧ some k_ ≠ (v264 : Value).ownBlock ∧ some k_ ≠ (v269 : Value).ownBlock ∧ k_ ≠ gb238) (.slice Ao52 y257.length co52) y257):=⟨h0_⟩
                         have n1_ : Aside0 (Kd.N kOp 38 w57 w.heap.size (fun k_ => some k_ ≠ (v264 : Value).ownBlock ∧ some k_ ≠ (v269 : Value).ownBlock ∧ k_ ≠ gb238) v261 y260):=⟨h1_⟩
                         have n2_ : Aside0 (Kd.N kOp 38 w57 w.heap.size (fun k_ => some k_ ≠ (.slice Ao52 y257.length co52 : Value).ownBlock ∧ some k_ ≠ (v261 : Value).ownBlock ∧ some k_ ≠ (v269 : Value).ownBlock ∧ k_ ≠ gb238) v264 t263):=⟨h2_⟩
                         have n3_ : Aside0 (Kd.N kOp 38 w57 w.heap.size (fun k_ => some k_ ≠ (.slice Ao52 y257.length co52 : Value).ownBlock ∧ some k_ ≠ (v261 : Value).ownBlock ∧ some k_ ≠ (v264 : Value).ownBlock ∧ k_ ≠ gb238) v269 y268):=⟨h3_⟩
                         have n4_ : Aside0 (w57.heap[gb238]? = some (.cells #[.slice (some ad240) l0_0.length c0_0, .slice A0_1 l0_1.length c0_1, .slice A0_2 l0_2.length c0_2, .slice A0_3 l0_3.length c0_3] 27 (0,0))):=⟨h4_⟩
                         have n5_ : Aside0 (Below w.heap.size w w57):=⟨h5_⟩
                         clear HO259
                         clear HO262
                         clear BK238
                         clear HB
                         clear h0_ h1_ h2_ h3_ h4_ h5_
                         have HO259:=n0_
                         have HO262:=n1_
                         have HO265:=n2_
                         have HO270:=n3_
                         have BK238:=n4_
                         have HB:=n5_
                         clear n0_ n1_ n2_ n3_ n4_ n5_
                         have hHeld : P11 w57 (ad244.add ((x7_3).toNat * 11)) (rd_Op (rd_LOp l0_0 x3_1) x7_3) A266_7 c266_7 (Q11 w57 (ad244.add ((x7_3).toNat * 11)) (rd_Op (rd_LOp l0_0 x3_1) x7_3) A266_7 c266_7):=hS_
                         obtain ⟨Ao59,co59,eo59⟩:=Kd.N_slice HO270.out
                         (first | subst eo59 | (injection eo59 with f1_ f2_ f3_; have f4_:=f1_.symm; have f5_:=f3_.symm; clear f1_ f2_ f3_; subst f4_; subst f5_))
                         refine norm_ (a' := ?_) ?_ ?_
                         rotate_left
                         ·simp only [putAll,Act.put,List.setIfInBounds_toArray,List.set_cons_zero,List.set_cons_succ]
                          rfl
                         refine on HT_ 17 (some 153) 262143 (h:=fun K hK => ?_)
                         refine Kd.N_append_rows_step kOp (w0:=w) w.heap.size (by rfl) (.tmp 137) (.tmp 152) 24 38 (.agg #[(.int .i64 0),(.int .i64 0),(.int .i64 0),(.int .i64 0),(.int .i64 0),(.int .i64 0),(.string ⟨#[]⟩),(.slice none 0 0),(.int .i64 0),(.int .i64 0),(.int .i64 0)]) 112 rfl Try.underlying24 info38 rfl (by decide) (by omega) v264 t263 y268 _ _ _ (fun k_ => some k_ ≠ (.slice Ao52 y257.length co52 : Value).ownBlock ∧ some k_ ≠ (v261 : Value).ownBlock ∧ k_ ≠ gb238) (fun k_ => ((fun k_ => some k_ ≠ (.slice Ao52 y257.length co52 : Value).ownBlock ∧ some k_ ≠ (v261 : Value).ownBlock ∧ k_ ≠ gb238)) k_ ∧ some k_ ≠ (v264 : Value).ownBlock) rfl rfl ?aO ?aR (fun _ hk => hk) ?aF ?aB ?aS ?aL ?_
                         (case aR => exact (by skip; exact Kd.N_F (Kd.N_mono (ok':=(fun k_ => ((fun k_ => some k_ ≠ (.slice Ao52 y257.length co52 : Value).ownBlock ∧ some k_ ≠ (v261 : Value).ownBlock ∧ k_ ≠ gb238)) k_ ∧ some k_ ≠ (v264 : Value).ownBlock)) (HO270.out) (fun k_ hk => ⟨⟨hk.1,⟨hk.2.1,hk.2.2.2⟩⟩,hk.2.2.1⟩))))
                         (case aB => exact (bw HB))
                         (case aF => exact (fun k_ hk => ⟨Kd.fresh' (Kd.N_lt (nk HO259)) k_ hk,Kd.fresh' (Kd.N_lt (nk HO262)) k_ hk,Kd.freshB (kk BK238) k_ hk⟩))
                         (case aO => exact (by (with_reducible repeat (first | apply Kd.N_alloc | apply Kd.N_drewN | apply Kd.N_drew)); exact Kd.N_mono HO265.out (fun _ hk => ⟨hk.1,⟨hk.2.1,hk.2.2.2⟩⟩)))
                         (case aS => exact (below_size (bw HB)))
                         (case aL => have:=LMc42.out; omega)
                         intro v272 w58 ho hb hg hat
                         rw [← Ny271.out] at ho
                         have n0_:=Aside0.mk (blk_grown (kk BK238) hg (Kd.N_ne HO265.out BK238.out (by decide)))
                         have n1_:=Aside0.mk (Kd.N_afterv (ok:=(fun k_ => some k_ ≠ (v261 : Value).ownBlock ∧ some k_ ≠ (.slice Ao59 y268.length co59 : Value).ownBlock ∧ k_ ≠ gb238)) (by (with_reducible repeat (first | apply Kd.N_alloc | apply Kd.N_drewN | apply Kd.N_drew)); exact Kd.N_mono HO259.out (fun _ hk => ⟨⟨hk.1,⟨hk.2.2.1,hk.2.2.2⟩⟩,hk.2.1⟩)) hg hat)
                         have n2_:=Aside0.mk (Kd.N_afterv (ok:=(fun k_ => some k_ ≠ (.slice Ao59 y268.length co59 : Value).ownBlock ∧ k_ ≠ gb238)) (by (with_reducible repeat (first | apply Kd.N_alloc | apply Kd.N_drewN | apply Kd.N_drew)); exact Kd.N_mono HO262.out (fun _ hk => ⟨⟨hk.2.1,hk.2.2⟩,hk.1⟩)) hg hat)
                         have n3_:=Aside0.mk (Kd.N_afterv (ok:=(fun k_ => some k_ ≠ (.slice Ao52 y257.length co52 : Value).ownBlock ∧ some k_ ≠ (v261 : Value).ownBlock ∧ k_ ≠ gb238)) (by (with_reducible repeat (first | apply Kd.N_alloc | apply Kd.N_drewN | apply Kd.N_drew)); exact Kd.N_mono HO270.out (fun _ hk => ⟨⟨hk.1,⟨hk.2.1,hk.2.2.2⟩⟩,hk.2.2.1⟩)) hg hat)
                         have n4_:=Aside0.mk (hb)
                         have n5_:=Aside0.mk (ho)
                         clear BK238
                         clear HO259
                         clear HO262
                         clear HO270
                         clear HB
                         clear HO265
                         have BK238:=n0_
                         have HO259:=n1_
                         have HO262:=n2_
                         have HO270:=n3_
                         have HB:=n4_
                         have HO273:=n5_
                         clear n0_ n1_ n2_ n3_ n4_ n5_
                         clear ho hb hg hat
                         refine hK.out _ _ ⟨(cW HB hw266_0),(cW HB hw266_1),(cW HB hw266_2),(cW HB hw266_3),(cW HB hw266_4),(cW HB hw266_5),(cW HB hw266_6),(cW HB hw266_7),(cW HB hw266_8),(cW HB hw266_9),(cW HB hw266_10)⟩ (fun hHeld => ?_)
                         clear hK K
                         refine nn 153 (h := ?_)
                         refine pu HT_ 18 14 524287 (h := ?_)
                         refine dn HT_ (h := ?_)
                         obtain ⟨Ao60,co60,eo60⟩:=Kd.N_slice HO273.out
                         subst eo60
                         try go_wp2
                         have n0_:=Aside0.mk (Kd.N_drew HO259.out)
                         have n1_:=Aside0.mk (Kd.N_drew HO262.out)
                         have n2_:=Aside0.mk (Kd.N_drew HO270.out)
                         have n3_:=Aside0.mk (Kd.N_drew HO273.out)
                         have n4_:=Aside0.mk (blk_drew BK238.out)
                         have n5_:=Aside0.mk (below_drew1 HB.out)
                         clear HO259
                         clear HO262
                         clear HO270
                         clear HO273
                         clear BK238
                         clear HB
                         have HO259:=n0_
                         have HO262:=n1_
                         have HO270:=n2_
                         have HO273:=n3_
                         have BK238:=n4_
                         have HB:=n5_
                         clear n0_ n1_ n2_ n3_ n4_ n5_
                         have p277 : 0 ≤ (x7_3 : Int):=od
                         have q277 : x7_3 < ((rd_LOp l0_0 x3_1).length : Int):=od
                         obtain ⟨ad277,A277_7,c277_7,e277,hx277_0,hx277_1,hx277_2,hx277_3,hx277_4,hx277_5,hx277_6,hx277_7,hx277_8,hx277_9,hx277_10,hl277_7,hi277_7⟩:=at_Op HR240_0.out x7_3 p277 q277
                         have hw277_10:=hx277_10
                         have hw277_9:=hx277_9
                         have hw277_8:=hx277_8
                         have hw277_7:=hx277_7
                         have hw277_6:=hx277_6
                         have hw277_5:=hx277_5
                         have hw277_4:=hx277_4
                         have hw277_3:=hx277_3
                         have hw277_2:=hx277_2
                         have hw277_1:=hx277_1
                         have hw277_0:=hx277_0
                         obtain rfl : ad244 = ad277:=(by injection e277)
                         replace hx277_0:=cl HB hx277_0
                         replace hx277_1:=cl HB hx277_1
                         replace hx277_2:=cl HB hx277_2
                         replace hx277_3:=cl HB hx277_3
                         replace hx277_4:=cl HB hx277_4
                         replace hx277_5:=cl HB hx277_5
                         replace hx277_6:=cl HB hx277_6
                         replace hx277_7:=cl HB hx277_7
                         replace hx277_8:=cl HB hx277_8
                         replace hx277_9:=cl HB hx277_9
                         replace hx277_10:=cl HB hx277_10
                         have HR277_7:=Aside0.mk hi277_7
                         have HC277_7:=Aside0.mk hl277_7
                         clear hi277_7 hl277_7
                         replace p277:=eq_true p277
                         replace q277:=eq_true q277
                         refine stP (fun w' => Q11 w' (ad244.add ((x7_3).toNat * 11)) (rd_Op (rd_LOp l0_0 x3_1) x7_3) A277_7 c277_7) 21 ⟨(cW HB hw277_0),(cW HB hw277_1),(cW HB hw277_2),(cW HB hw277_3),(cW HB hw277_4),(cW HB hw277_5),(cW HB hw277_6),(cW HB hw277_7),(cW HB hw277_8),(cW HB hw277_9),(cW HB hw277_10)⟩ (h:=fun hHeld => ?_); refine with_tabW w6_DocToggles.tab24 w6_DocToggles.bits24 (fun HT_ HW_ => ?_)
                         generalize w58.drew = w61 at HO259 HO262 HO270 HO273 BK238 HB HR277_7 HR277_7 hx277_0 hx277_1 hx277_10 hx277_2 hx277_3 hx277_4 hx277_5 hx277_6 hx277_7 hx277_8 hx277_9 hx277_0 hx277_1 hx277_10 hx277_2 hx277_3 hx277_4 hx277_5 hx277_6 hx277_7 hx277_8 hx277_9 hHeld ⊢
                         refine pu HT_ 0 154 1 (h := ?_)
                         refine pu HT_ 2 156 5 (h := ?_)
                         refine pu HT_ 3 157 13 (h := ?_)
                         refine pu HT_ 4 158 29 (h := ?_)
                         refine pu HT_ 5 159 61 (h := ?_)
                         refine pu HT_ 6 160 125 (h := ?_)
                         refine pu HT_ 7 161 253 (h := ?_)
                         refine pu HT_ 8 162 509 (h := ?_)
                         refine pu HT_ 10 164 1533 (h := ?_)
                         refine pu HT_ 11 165 3581 (h := ?_)
                         refine pu HT_ 12 166 7677 (h := ?_)
                         refine pu HT_ 13 167 15869 (h := ?_)
                         refine pu HT_ 15 169 48637 (h := ?_)
                         refine pu HT_ 16 170 114173 (h := ?_)
                         refine tk HT_ HW_ hHeld 9 163 114685 (h := ?_)
                         refine tk HT_ HW_ hHeld 14 168 131069 (h := ?_)
                         refine pu HT_ 17 171 262141 (h := ?_)
                         refine join_ (σ:=Value × Value) 2 (bA 21 524287) (fun s_ => [(155,s_.1),(172,s_.2)]) (fun s_ w' => (P11 w' (ad244.add ((x7_3).toNat * 11)) (rd_Op (rd_LOp l0_0 x3_1) x7_3) A277_7 c277_7 (Q11 w' (ad244.add ((x7_3).toNat * 11)) (rd_Op (rd_LOp l0_0 x3_1) x7_3) A277_7 c277_7)) ∧ (Kd.N kOp 38 w' w.heap.size (fun k_ => some k_ ≠ (v261 : Value).ownBlock ∧ some k_ ≠ (.slice Ao59 y268.length co59 : Value).ownBlock ∧ some k_ ≠ (.slice Ao60 y271.length co60 : Value).ownBlock ∧ some k_ ≠ (s_.1 : Value).ownBlock ∧ some k_ ≠ (s_.2 : Value).ownBlock ∧ k_ ≠ gb238) (.slice Ao52 y257.length co52) y257) ∧ (Kd.N kOp 38 w' w.heap.size (fun k_ => some k_ ≠ (.slice Ao59 y268.length co59 : Value).ownBlock ∧ some k_ ≠ (.slice Ao60 y271.length co60 : Value).ownBlock ∧ some k_ ≠ (s_.1 : Value).ownBlock ∧ some k_ ≠ (s_.2 : Value).ownBlock ∧ k_ ≠ gb238) v261 y260) ∧ (Kd.N kOp 38 w' w.heap.size (fun k_ => some k_ ≠ (.slice Ao52 y257.length co52 : Value).ownBlock ∧ some k_ ≠ (v261 : Value).ownBlock ∧ some k_ ≠ (.slice Ao60 y271.length co60 : Value).ownBlock ∧ some k_ ≠ (s_.1 : Value).ownBlock ∧ some k_ ≠ (s_.2 : Value).ownBlock ∧ k_ ≠ gb238) (.slice Ao59 y268.length co59) y268) ∧ (Kd.N kOp 38 w' w.heap.size (fun k_ => some k_ ≠ (.slice Ao52 y257.length co52 : Value).ownBlock ∧ some k_ ≠ (v261 : Value).ownBlock ∧ some k_ ≠ (s_.1 : Value).ownBlock ∧ some k_ ≠ (s_.2 : Value).ownBlock ∧ k_ ≠ gb238) (.slice Ao60 y271.length co60) y271) ∧ (Kd.N kOp 38 w' w.heap.size (fun k_ => some k_ ≠ (.slice Ao52 y257.length co52 : Value).ownBlock ∧ some k_ ≠ (v261 : Value).ownBlock ∧ some k_ ≠ (.slice Ao59 y268.length co59 : Value).ownBlock ∧ some k_ ≠ (.slice Ao60 y271.length co60 : Value).ownBlock ∧ some k_ ≠ (s_.2 : Value).ownBlock ∧ k_ ≠ gb238) s_.1 t274) ∧ (Kd.N kOp 38 w' w.heap.size (fun k_ => some k_ ≠ (.slice Ao52 y257.length co52 : Value).ownBlock ∧ some k_ ≠ (v261 : Value).ownBlock ∧ some k_ ≠ (.slice Ao59 y268.length co59 : Value).ownBlock ∧ some k_ ≠ (.slice Ao60 y271.length co60 : Value).ownBlock ∧ some k_ ≠ (s_.1 : Value).ownBlock ∧ k_ ≠ gb238) s_.2 y279) ∧ (w'.heap[gb238]? = some (.cells #[.slice (some ad240) l0_0.length c0_0, .slice A0_1 l0_1.length c0_1, .slice A0_2 l0_2.length c0_2, .slice A0_3 l0_3.length c0_3] 27 (0,0))) ∧ (Below w.heap.size w w')) ?_ ?_
                         rotate_left
                         ·show (let G_ : Prop:=_; G_)
                          intro G_
                          exact (let_tmp i_ : Nonempty G_:=(((⟨by
                           subst G_
                           intro hCont
                           refine two_ (i:=1) (j:=18) (Ni:=some 155) (Nj:=some 172) (bA 21 262143) (bA 21 524285) rfl rfl rfl rfl (two_of HT_.out (by kernel_rfl)) (by decide) (by decide) (fun K hK => ?_) (fun K hK => ?_)
                           ·show (let G_ : Prop:=_; G_)
                            intro G_
                            exact (let_tmp i_ : Nonempty G_:=(((⟨by
                             subst G_
                             skip
                             refine gS Try.func10 #[.slice Ao60 y271.length co60] (h := ?_)
                             with_reducible refine (r0_CopyOps.calls kj31 _ _ y271 t274 _ ?side1 ?side2 A43.out).mono ?_
                             (case side1 => exact cn HO273)
                             (case side2 => exact (Kd.N_reads' HO273.out).2.1)
                             rintro e w62 ⟨v275,rfl,ho0,hb⟩
                             refine ⟨_,rfl, ?_⟩
                             have n0_:=Aside0.mk (Kd.N_elder' (nk HO259) (Kd.N_base (Kd.S_N ho0)) hb)
                             have n1_:=Aside0.mk (Kd.N_elder' (nk HO262) (Kd.N_base (Kd.S_N ho0)) hb)
                             have n2_:=Aside0.mk (Kd.N_elder' (nk HO270) (Kd.N_base (Kd.S_N ho0)) hb)
                             have n3_:=Aside0.mk (Kd.N_elder' (nk HO273) (Kd.N_base (Kd.S_N ho0)) hb)
                             have n4_:=Aside0.mk (Kd.N_lower (Kd.N_mono (ok':=fun k_ => some k_ ≠ (.slice Ao52 y257.length co52 : Value).ownBlock ∧ some k_ ≠ (v261 : Value).ownBlock ∧ some k_ ≠ (.slice Ao59 y268.length co59 : Value).ownBlock ∧ some k_ ≠ (.slice Ao60 y271.length co60 : Value).ownBlock ∧ k_ ≠ gb238) (Kd.S_N (Kd.S_bound ho0)) (fun k_ hk_ => ⟨(Kd.fresh' (Kd.N_lt (nk HO259)) k_ hk_.2.1),(Kd.fresh' (Kd.N_lt (nk HO262)) k_ hk_.2.1),(Kd.fresh' (Kd.N_lt (nk HO270)) k_ hk_.2.1),(Kd.fresh' (Kd.N_lt (nk HO273)) k_ hk_.2.1),(Kd.freshB (kk BK238) k_ hk_.2.1)⟩)) (below_size (bw HB)))
                             have n5_:=bl BK238 hb
                             have n6_:=bs HB hb
                             clear HO259
                             clear HO262
                             clear HO270
                             clear HO273
                             clear BK238
                             clear HB
                             have HO259:=n0_
                             have HO262:=n1_
                             have HO270:=n2_
                             have HO273:=n3_
                             have HO276:=n4_
                             have BK238:=n5_
                             have HB:=n6_
                             clear n0_ n1_ n2_ n3_ n4_ n5_ n6_
                             (try clear hb)
                             (try clear hb2)
                             (try clear hk)
                             (try clear hi)
                             (try clear ho0)
                             refine hK.out _ _ ⟨(cW HB hw277_0),(cW HB hw277_1),(cW HB hw277_2),(cW HB hw277_3),(cW HB hw277_4),(cW HB hw277_5),(cW HB hw277_6),(cW HB hw277_7),(cW HB hw277_8),(cW HB hw277_9),(cW HB hw277_10)⟩ (fun hHeld => ?_)
                             clear hK K
                             refine nn 155 (h := ?_)
                             refine on HT_ 18 (some 172) 524287 (h:=fun K hK => ?_)
                             refine Kd.N_lit_step kOp _ 38 ?hg (N':=172) ?hd (xs:=([(⟨(wrap64 (1 + (Int.tmod (wrap64 (x3_1 + x7_3)) 8))),wrap64 (x11_4 + 1),2,(⟨0,0,0⟩ : SElem),(⟨#[]⟩ : ByteArray),([] : List (SElem)),(rd_Op (rd_LOp l0_0 x3_1) x7_3).f0,(rd_Op (rd_LOp l0_0 x3_1) x7_3).f1,wrap64 (t246 + 1)⟩ : SOp)] : List (SOp))) (inner:=[.int .i64 (wrap64 (1 + (Int.tmod (wrap64 (x3_1 + x7_3)) 8))), .int .i64 (wrap64 (x11_4 + 1)), .int .i64 2, .int .i64 0, .int .i64 0, .int .i64 0, .string (⟨#[]⟩ : ByteArray), .slice none 0 0, .int .i64 ((rd_Op (rd_LOp l0_0 x3_1) x7_3).f0), .int .i64 ((rd_Op (rd_LOp l0_0 x3_1) x7_3).f1), .int .i64 (wrap64 (t246 + 1))]) (ok:=(fun k_ => some k_ ≠ (.slice Ao52 y257.length co52 : Value).ownBlock ∧ some k_ ≠ (v261 : Value).ownBlock ∧ some k_ ≠ (.slice Ao59 y268.length co59 : Value).ownBlock ∧ some k_ ≠ (.slice Ao60 y271.length co60 : Value).ownBlock ∧ some k_ ≠ (v275 : Value).ownBlock ∧ k_ ≠ gb238)) (okp:=(fun k_ => some k_ ≠ (.slice Ao52 y257.length co52 : Value).ownBlock ∧ some k_ ≠ (v261 : Value).ownBlock ∧ some k_ ≠ (.slice Ao59 y268.length co59 : Value).ownBlock ∧ some k_ ≠ (.slice Ao60 y271.length co60 : Value).ownBlock ∧ some k_ ≠ (v275 : Value).ownBlock ∧ k_ ≠ gb238)) ?hr ?hp (fun _ hk => hk) ((show ∀ k_,w62.heap.size ≤ k_ → (fun k_ => some k_ ≠ (.slice Ao52 y257.length co52 : Value).ownBlock ∧ some k_ ≠ (v261 : Value).ownBlock ∧ some k_ ≠ (.slice Ao59 y268.length co59 : Value).ownBlock ∧ some k_ ≠ (.slice Ao60 y271.length co60 : Value).ownBlock ∧ some k_ ≠ (v275 : Value).ownBlock ∧ k_ ≠ gb238) k_ from fun k_ hk => ⟨Kd.fresh' (Kd.N_lt (nk HO259)) k_ hk,Kd.fresh' (Kd.N_lt (nk HO262)) k_ hk,Kd.fresh' (Kd.N_lt (nk HO270)) k_ hk,Kd.fresh' (Kd.N_lt (nk HO273)) k_ hk,Kd.fresh' (Kd.N_lt (nk HO276)) k_ hk,Kd.freshB (kk BK238) k_ hk⟩) _ (Nat.le_refl _)) (Below.refl _ _) (Nat.le_refl _) (by simp) ?_; (case hd => rfl); (case hg => rfl); (case hr => first | (go_simp; done) | (go_simp; rfl)); (case hp => exact (Reps.front (show Kd.FK kOp _ _ (⟨(wrap64 (1 + (Int.tmod (wrap64 (x3_1 + x7_3)) 8))),wrap64 (x11_4 + 1),2,(⟨0,0,0⟩ : SElem),(⟨#[]⟩ : ByteArray),([] : List (SElem)),(rd_Op (rd_LOp l0_0 x3_1) x7_3).f0,(rd_Op (rd_LOp l0_0 x3_1) x7_3).f1,wrap64 (t246 + 1)⟩ : SOp) [.int .i64 (wrap64 (1 + (Int.tmod (wrap64 (x3_1 + x7_3)) 8))), .int .i64 (wrap64 (x11_4 + 1)), .int .i64 2, .int .i64 0, .int .i64 0, .int .i64 0, .string (⟨#[]⟩ : ByteArray), .slice none 0 0, .int .i64 ((rd_Op (rd_LOp l0_0 x3_1) x7_3).f0), .int .i64 ((rd_Op (rd_LOp l0_0 x3_1) x7_3).f1), .int .i64 (wrap64 (t246 + 1))] from (kOp_mkF _ _ (⟨(wrap64 (1 + (Int.tmod (wrap64 (x3_1 + x7_3)) 8))),wrap64 (x11_4 + 1),2,(⟨0,0,0⟩ : SElem),(⟨#[]⟩ : ByteArray),([] : List (SElem)),(rd_Op (rd_LOp l0_0 x3_1) x7_3).f0,(rd_Op (rd_LOp l0_0 x3_1) x7_3).f1,wrap64 (t246 + 1)⟩ : SOp) (Nat.le_refl _) (Kd.F_nil _ _ _))) rfl (Reps.none _ _) rfl))
                             intro v280 w63 ho64 hb hg_ hnew_
                             clear hg_ hnew_
                             (first | rw [← Ny279.out] at ho64 | (simp only [Int.reduceToNat] at ho64; rw [← Ny279.out] at ho64))
                             have n0_:=Aside0.mk (Kd.N_elder' (nk HO259) (Kd.N_base ho64) hb)
                             have n1_:=Aside0.mk (Kd.N_elder' (nk HO262) (Kd.N_base ho64) hb)
                             have n2_:=Aside0.mk (Kd.N_elder' (nk HO270) (Kd.N_base ho64) hb)
                             have n3_:=Aside0.mk (Kd.N_elder' (nk HO273) (Kd.N_base ho64) hb)
                             have n4_:=Aside0.mk (Kd.N_elder' (nk HO276) (Kd.N_base ho64) hb)
                             have n5_:=Aside0.mk (Kd.N_lower ho64 (below_size (bw HB)))
                             have n6_:=bl BK238 hb
                             have n7_:=bs HB hb
                             clear HO259
                             clear HO262
                             clear HO270
                             clear HO273
                             clear HO276
                             clear BK238
                             clear HB
                             have HO259:=n0_
                             have HO262:=n1_
                             have HO270:=n2_
                             have HO273:=n3_
                             have HO276:=n4_
                             have HO281:=n5_
                             have BK238:=n6_
                             have HB:=n7_
                             clear n0_ n1_ n2_ n3_ n4_ n5_ n6_ n7_
                             clear hb ho64
                             refine hK.out _ _ ⟨(cW HB hw277_0),(cW HB hw277_1),(cW HB hw277_2),(cW HB hw277_3),(cW HB hw277_4),(cW HB hw277_5),(cW HB hw277_6),(cW HB hw277_7),(cW HB hw277_8),(cW HB hw277_9),(cW HB hw277_10)⟩ (fun hHeld => ?_)
                             clear hK K
                             refine nn 172 (h := ?_)
                             exact norm_ (by simp only [putAll,Act.put,List.setIfInBounds_toArray,List.set_cons_zero,List.set_cons_succ]) (hCont (v275,v280) _ ⟨dup11 hHeld,(by (with_reducible repeat (first | apply Kd.N_alloc | apply Kd.N_drewN | apply Kd.N_drew)); exact Kd.N_mono HO259.out (fun _ hk => ⟨hk.1.1.1.1,⟨hk.1.1.1.2.1,⟨hk.1.1.2,⟨hk.1.2,⟨hk.2,hk.1.1.1.2.2⟩⟩⟩⟩⟩)),(by (with_reducible repeat (first | apply Kd.N_alloc | apply Kd.N_drewN | apply Kd.N_drew)); exact Kd.N_mono HO262.out (fun _ hk => ⟨hk.1.1.1.1,⟨hk.1.1.2,⟨hk.1.2,⟨hk.2,hk.1.1.1.2⟩⟩⟩⟩)),(by (with_reducible repeat (first | apply Kd.N_alloc | apply Kd.N_drewN | apply Kd.N_drew)); exact Kd.N_mono HO270.out (fun _ hk => ⟨hk.1.1.1.1,⟨hk.1.1.1.2.1,⟨hk.1.1.2,⟨hk.1.2,⟨hk.2,hk.1.1.1.2.2⟩⟩⟩⟩⟩)),(by (with_reducible repeat (first | apply Kd.N_alloc | apply Kd.N_drewN | apply Kd.N_drew)); exact Kd.N_mono HO273.out (fun _ hk => ⟨hk.1.1.1,⟨hk.1.1.2.1,⟨hk.1.2,⟨hk.2,hk.1.1.2.2⟩⟩⟩⟩)),(by (with_reducible repeat (first | apply Kd.N_alloc | apply Kd.N_drewN | apply Kd.N_drew)); exact Kd.N_mono HO276.out (fun _ hk => ⟨hk.1.1,⟨hk.1.2.1,⟨hk.1.2.2.1,⟨hk.1.2.2.2.1,⟨hk.2,hk.1.2.2.2.2⟩⟩⟩⟩⟩)),(nk HO281),(kk BK238),(bw HB)⟩)
                             ⟩ : Nonempty G_)) :); w6_DocToggles.bxo (G:=G_) (inferInstanceAs (Nonempty G_)))
                           skip
                           refine Kd.N_lit_step kOp _ 38 ?hg (N':=172) ?hd (xs:=([(⟨(wrap64 (1 + (Int.tmod (wrap64 (x3_1 + x7_3)) 8))),wrap64 (x11_4 + 1),2,(⟨0,0,0⟩ : SElem),(⟨#[]⟩ : ByteArray),([] : List (SElem)),(rd_Op (rd_LOp l0_0 x3_1) x7_3).f0,(rd_Op (rd_LOp l0_0 x3_1) x7_3).f1,wrap64 (t246 + 1)⟩ : SOp)] : List (SOp))) (inner:=[.int .i64 (wrap64 (1 + (Int.tmod (wrap64 (x3_1 + x7_3)) 8))), .int .i64 (wrap64 (x11_4 + 1)), .int .i64 2, .int .i64 0, .int .i64 0, .int .i64 0, .string (⟨#[]⟩ : ByteArray), .slice none 0 0, .int .i64 ((rd_Op (rd_LOp l0_0 x3_1) x7_3).f0), .int .i64 ((rd_Op (rd_LOp l0_0 x3_1) x7_3).f1), .int .i64 (wrap64 (t246 + 1))]) (ok:=(fun k_ => some k_ ≠ (.slice Ao52 y257.length co52 : Value).ownBlock ∧ some k_ ≠ (v261 : Value).ownBlock ∧ some k_ ≠ (.slice Ao59 y268.length co59 : Value).ownBlock ∧ some k_ ≠ (.slice Ao60 y271.length co60 : Value).ownBlock ∧ k_ ≠ gb238)) (okp:=(fun k_ => some k_ ≠ (.slice Ao52 y257.length co52 : Value).ownBlock ∧ some k_ ≠ (v261 : Value).ownBlock ∧ some k_ ≠ (.slice Ao59 y268.length co59 : Value).ownBlock ∧ some k_ ≠ (.slice Ao60 y271.length co60 : Value).ownBlock ∧ k_ ≠ gb238)) ?hr ?hp (fun _ hk => hk) ((show ∀ k_,w61.heap.size ≤ k_ → (fun k_ => some k_ ≠ (.slice Ao52 y257.length co52 : Value).ownBlock ∧ some k_ ≠ (v261 : Value).ownBlock ∧ some k_ ≠ (.slice Ao59 y268.length co59 : Value).ownBlock ∧ some k_ ≠ (.slice Ao60 y271.length co60 : Value).ownBlock ∧ k_ ≠ gb238) k_ from fun k_ hk => ⟨Kd.fresh' (Kd.N_lt (nk HO259)) k_ hk,Kd.fresh' (Kd.N_lt (nk HO262)) k_ hk,Kd.fresh' (Kd.N_lt (nk HO270)) k_ hk,Kd.fresh' (Kd.N_lt (nk HO273)) k_ hk,Kd.freshB (kk BK238) k_ hk⟩) _ (Nat.le_refl _)) (Below.refl _ _) (Nat.le_refl _) (by simp) ?_; (case hd => rfl); (case hg => rfl); (case hr => first | (go_simp; done) | (go_simp; rfl)); (case hp => exact (Reps.front (show Kd.FK kOp _ _ (⟨(wrap64 (1 + (Int.tmod (wrap64 (x3_1 + x7_3)) 8))),wrap64 (x11_4 + 1),2,(⟨0,0,0⟩ : SElem),(⟨#[]⟩ : ByteArray),([] : List (SElem)),(rd_Op (rd_LOp l0_0 x3_1) x7_3).f0,(rd_Op (rd_LOp l0_0 x3_1) x7_3).f1,wrap64 (t246 + 1)⟩ : SOp) [.int .i64 (wrap64 (1 + (Int.tmod (wrap64 (x3_1 + x7_3)) 8))), .int .i64 (wrap64 (x11_4 + 1)), .int .i64 2, .int .i64 0, .int .i64 0, .int .i64 0, .string (⟨#[]⟩ : ByteArray), .slice none 0 0, .int .i64 ((rd_Op (rd_LOp l0_0 x3_1) x7_3).f0), .int .i64 ((rd_Op (rd_LOp l0_0 x3_1) x7_3).f1), .int .i64 (wrap64 (t246 + 1))] from (kOp_mkF _ _ (⟨(wrap64 (1 + (Int.tmod (wrap64 (x3_1 + x7_3)) 8))),wrap64 (x11_4 + 1),2,(⟨0,0,0⟩ : SElem),(⟨#[]⟩ : ByteArray),([] : List (SElem)),(rd_Op (rd_LOp l0_0 x3_1) x7_3).f0,(rd_Op (rd_LOp l0_0 x3_1) x7_3).f1,wrap64 (t246 + 1)⟩ : SOp) (Nat.le_refl _) (Kd.F_nil _ _ _))) rfl (Reps.none _ _) rfl))
                           intro v280 w62 ho63 hb hg_ hnew_
                           clear hg_ hnew_
                           (first | rw [← Ny279.out] at ho63 | (simp only [Int.reduceToNat] at ho63; rw [← Ny279.out] at ho63))
                           have n0_:=Aside0.mk (Kd.N_elder' (nk HO259) (Kd.N_base ho63) hb)
                           have n1_:=Aside0.mk (Kd.N_elder' (nk HO262) (Kd.N_base ho63) hb)
                           have n2_:=Aside0.mk (Kd.N_elder' (nk HO270) (Kd.N_base ho63) hb)
                           have n3_:=Aside0.mk (Kd.N_elder' (nk HO273) (Kd.N_base ho63) hb)
                           have n4_:=Aside0.mk (Kd.N_lower ho63 (below_size (bw HB)))
                           have n5_:=bl BK238 hb
                           have n6_:=bs HB hb
                           clear HO259
                           clear HO262
                           clear HO270
                           clear HO273
                           clear BK238
                           clear HB
                           have HO259:=n0_
                           have HO262:=n1_
                           have HO270:=n2_
                           have HO273:=n3_
                           have HO281:=n4_
                           have BK238:=n5_
                           have HB:=n6_
                           clear n0_ n1_ n2_ n3_ n4_ n5_ n6_
                           clear hb ho63
                           refine hK.out _ _ ⟨(cW HB hw277_0),(cW HB hw277_1),(cW HB hw277_2),(cW HB hw277_3),(cW HB hw277_4),(cW HB hw277_5),(cW HB hw277_6),(cW HB hw277_7),(cW HB hw277_8),(cW HB hw277_9),(cW HB hw277_10)⟩ (fun hHeld => ?_)
                           clear hK K
                           refine nn 172 (h := ?_)
                           refine on HT_ 1 (some 155) 524287 (h:=fun K hK => ?_)
                           refine gS Try.func10 #[.slice Ao60 y271.length co60] (h := ?_)
                           with_reducible refine (r0_CopyOps.calls kj31 _ _ y271 t274 _ ?side1 ?side2 A43.out).mono ?_
                           (case side1 => exact cn HO273)
                           (case side2 => exact (Kd.N_reads' HO273.out).2.1)
                           rintro e w64 ⟨v275,rfl,ho0,hb⟩
                           refine ⟨_,rfl, ?_⟩
                           have n0_:=Aside0.mk (Kd.N_elder' (nk HO259) (Kd.N_base (Kd.S_N ho0)) hb)
                           have n1_:=Aside0.mk (Kd.N_elder' (nk HO262) (Kd.N_base (Kd.S_N ho0)) hb)
                           have n2_:=Aside0.mk (Kd.N_elder' (nk HO270) (Kd.N_base (Kd.S_N ho0)) hb)
                           have n3_:=Aside0.mk (Kd.N_elder' (nk HO273) (Kd.N_base (Kd.S_N ho0)) hb)
                           have n4_:=Aside0.mk (Kd.N_elder' (nk HO281) (Kd.N_base (Kd.S_N ho0)) hb)
                           have n5_:=Aside0.mk (Kd.N_lower (Kd.N_mono (ok':=fun k_ => some k_ ≠ (.slice Ao52 y257.length co52 : Value).ownBlock ∧ some k_ ≠ (v261 : Value).ownBlock ∧ some k_ ≠ (.slice Ao59 y268.length co59 : Value).ownBlock ∧ some k_ ≠ (.slice Ao60 y271.length co60 : Value).ownBlock ∧ some k_ ≠ (v280 : Value).ownBlock ∧ k_ ≠ gb238) (Kd.S_N (Kd.S_bound ho0)) (fun k_ hk_ => ⟨(Kd.fresh' (Kd.N_lt (nk HO259)) k_ hk_.2.1),(Kd.fresh' (Kd.N_lt (nk HO262)) k_ hk_.2.1),(Kd.fresh' (Kd.N_lt (nk HO270)) k_ hk_.2.1),(Kd.fresh' (Kd.N_lt (nk HO273)) k_ hk_.2.1),(Kd.fresh' (Kd.N_lt (nk HO281)) k_ hk_.2.1),(Kd.freshB (kk BK238) k_ hk_.2.1)⟩)) (below_size (bw HB)))
                           have n6_:=bl BK238 hb
                           have n7_:=bs HB hb
                           clear HO259
                           clear HO262
                           clear HO270
                           clear HO273
                           clear HO281
                           clear BK238
                           clear HB
                           have HO259:=n0_
                           have HO262:=n1_
                           have HO270:=n2_
                           have HO273:=n3_
                           have HO281:=n4_
                           have HO276:=n5_
                           have BK238:=n6_
                           have HB:=n7_
                           clear n0_ n1_ n2_ n3_ n4_ n5_ n6_ n7_
                           (try clear hb)
                           (try clear hb2)
                           (try clear hk)
                           (try clear hi)
                           (try clear ho0)
                           refine hK.out _ _ ⟨(cW HB hw277_0),(cW HB hw277_1),(cW HB hw277_2),(cW HB hw277_3),(cW HB hw277_4),(cW HB hw277_5),(cW HB hw277_6),(cW HB hw277_7),(cW HB hw277_8),(cW HB hw277_9),(cW HB hw277_10)⟩ (fun hHeld => ?_)
                           clear hK K
                           refine nn 155 (h := ?_)
                           exact norm_ (by simp only [putAll,Act.put,List.setIfInBounds_toArray,List.set_cons_zero,List.set_cons_succ]) (hCont (v275,v280) _ ⟨dup11 hHeld,(by (with_reducible repeat (first | apply Kd.N_alloc | apply Kd.N_drewN | apply Kd.N_drew)); exact Kd.N_mono HO259.out (fun _ hk => ⟨hk.1.1.1.1,⟨hk.1.1.1.2.1,⟨hk.1.1.2,⟨hk.2,⟨hk.1.2,hk.1.1.1.2.2⟩⟩⟩⟩⟩)),(by (with_reducible repeat (first | apply Kd.N_alloc | apply Kd.N_drewN | apply Kd.N_drew)); exact Kd.N_mono HO262.out (fun _ hk => ⟨hk.1.1.1.1,⟨hk.1.1.2,⟨hk.2,⟨hk.1.2,hk.1.1.1.2⟩⟩⟩⟩)),(by (with_reducible repeat (first | apply Kd.N_alloc | apply Kd.N_drewN | apply Kd.N_drew)); exact Kd.N_mono HO270.out (fun _ hk => ⟨hk.1.1.1.1,⟨hk.1.1.1.2.1,⟨hk.1.1.2,⟨hk.2,⟨hk.1.2,hk.1.1.1.2.2⟩⟩⟩⟩⟩)),(by (with_reducible repeat (first | apply Kd.N_alloc | apply Kd.N_drewN | apply Kd.N_drew)); exact Kd.N_mono HO273.out (fun _ hk => ⟨hk.1.1.1,⟨hk.1.1.2.1,⟨hk.2,⟨hk.1.2,hk.1.1.2.2⟩⟩⟩⟩)),(nk HO276),(by (with_reducible repeat (first | apply Kd.N_alloc | apply Kd.N_drewN | apply Kd.N_drew)); exact Kd.N_mono HO281.out (fun _ hk => ⟨hk.1.1,⟨hk.1.2.1,⟨hk.1.2.2.1,⟨hk.1.2.2.2.1,⟨hk.2,hk.1.2.2.2.2⟩⟩⟩⟩⟩)),(kk BK238),(bw HB)⟩)
                           ⟩ : Nonempty G_)) :); w6_DocToggles.bxo (G:=G_) (inferInstanceAs (Nonempty G_)))
                         rintro ⟨v275,v280⟩ w65 ⟨hS_,h0_,h1_,h2_,h3_,h4_,h5_,h6_,h7_⟩
                         have n0_ : Aside0 (Kd.N kOp 38 w65 w.heap.size (fun k_ => some k_ ≠ (v261 : Value).ownBlock ∧ some k_ ≠ (.slice Ao59 y268.length co59 : Value).ownBlock ∧ some k_ ≠ (.slice Ao60 y271.length co60 : Value).ownBlock ∧ some k_ ≠ (v275 : Value).ownBlock ∧ some k_ ≠ (v280 : Value).ownBlock ∧ k_ ≠ gb238) (.slice Ao52 y257.length co52) y257):=⟨h0_⟩
                         have n1_ : Aside0 (Kd.N kOp 38 w65 w.heap.size (fun k_ => some k_ ≠ (.slice Ao59 y268.length co59 : Value).ownBlock ∧ some k_ ≠ (.slice Ao60 y271.length co60 : Value).ownBlock ∧ some k_ ≠ (v275 : Value).ownBlock ∧ some k_ ≠ (v280 : Value).ownBlock ∧ k_ ≠ gb238) v261 y260):=⟨h1_⟩
                         have n2_ : Aside0 (Kd.N kOp 38 w65 w.heap.size (fun k_ => some k_ ≠ (.slice Ao52 y257.length co52 : Value).ownBlock ∧ some k_ ≠ (v261 : Value).ownBlock ∧ some k_ ≠ (.slice Ao60 y271.length co60 : Value).ownBlock ∧ some k_ ≠ (v275 : Value).ownBlock ∧ some k_ ≠ (v280 : Value).ownBlock ∧ k_ ≠ gb238) (.slice Ao59 y268.length co59) y268):=⟨h2_⟩
                         have n3_ : Aside0 (Kd.N kOp 38 w65 w.heap.size (fun k_ => some k_ ≠ (.slice Ao52 y257.length co52 : Value).ownBlock ∧ some k_ ≠ (v261 : Value).ownBlock ∧ some k_ ≠ (v275 : Value).ownBlock ∧ some k_ ≠ (v280 : Value).ownBlock ∧ k_ ≠ gb238) (.slice Ao60 y271.length co60) y271):=⟨h3_⟩
                         have n4_ : Aside0 (Kd.N kOp 38 w65 w.heap.size (fun k_ => some k_ ≠ (.slice Ao52 y257.length co52 : Value).ownBlock ∧ some k_ ≠ (v261 : Value).ownBlock ∧ some k_ ≠ (.slice Ao59 y268.length co59 : Value).ownBlock ∧ some k_ ≠ (.slice Ao60 y271.length co60 : Value).ownBlock ∧ some k_ ≠ (v280 : Value).ownBlock ∧ k_ ≠ gb238) v275 t274):=⟨h4_⟩
                         have n5_ : Aside0 (Kd.N kOp 38 w65 w.heap.size (fun k_ => some k_ ≠ (.slice Ao52 y257.length co52 : Value).ownBlock ∧ some k_ ≠ (v261 : Value).ownBlock ∧ some k_ ≠ (.slice Ao59 y268.length co59 : Value).ownBlock ∧ some k_ ≠ (.slice Ao60 y271.length co60 : Value).ownBlock ∧ some k_ ≠ (v275 : Value).ownBlock ∧ k_ ≠ gb238) v280 y279):=⟨h5_⟩
                         have n6_ : Aside0 (w65.heap[gb238]? = some (.cells #[.slice (some ad240) l0_0.length c0_0, .slice A0_1 l0_1.length c0_1, .slice A0_2 l0_2.length c0_2, .slice A0_3 l0_3.length c0_3] 27 (0,0))):=⟨h6_⟩
                         have n7_ : Aside0 (Below w.heap.size w w65):=⟨h7_⟩
                         clear HO259
                         clear HO262
                         clear HO270
                         clear HO273
                         clear BK238
                         clear HB
                         clear h0_ h1_ h2_ h3_ h4_ h5_ h6_ h7_
                         have HO259:=n0_
                         have HO262:=n1_
                         have HO270:=n2_
                         have HO273:=n3_
                         have HO276:=n4_
                         have HO281:=n5_
                         have BK238:=n6_
                         have HB:=n7_
                         clear n0_ n1_ n2_ n3_ n4_ n5_ n6_ n7_
                         have hHeld : P11 w65 (ad244.add ((x7_3).toNat * 11)) (rd_Op (rd_LOp l0_0 x3_1) x7_3) A277_7 c277_7 (Q11 w65 (ad244.add ((x7_3).toNat * 11)) (rd_Op (rd_LOp l0_0 x3_1) x7_3) A277_7 c277_7):=hS_
                         obtain ⟨Ao67,co67,eo67⟩:=Kd.N_slice HO281.out
                         (first | subst eo67 | (injection eo67 with f1_ f2_ f3_; have f4_:=f1_.symm; have f5_:=f3_.symm; clear f1_ f2_ f3_; subst f4_; subst f5_))
                         refine norm_ (a' := ?_) ?_ ?_
                         rotate_left
                         ·simp only [putAll,Act.put,List.setIfInBounds_toArray,List.set_cons_zero,List.set_cons_succ]
                          rfl
                         refine on HT_ 19 (some 173) 1048575 (h:=fun K hK => ?_)
                         refine Kd.N_append_rows_step kOp (w0:=w) w.heap.size (by rfl) (.tmp 155) (.tmp 172) 24 38 (.agg #[(.int .i64 0),(.int .i64 0),(.int .i64 0),(.int .i64 0),(.int .i64 0),(.int .i64 0),(.string ⟨#[]⟩),(.slice none 0 0),(.int .i64 0),(.int .i64 0),(.int .i64 0)]) 112 rfl Try.underlying24 info38 rfl (by decide) (by omega) v275 t274 y279 _ _ _ (fun k_ => some k_ ≠ (.slice Ao52 y257.length co52 : Value).ownBlock ∧ some k_ ≠ (v261 : Value).ownBlock ∧ some k_ ≠ (.slice Ao59 y268.length co59 : Value).ownBlock ∧ some k_ ≠ (.slice Ao60 y271.length co60 : Value).ownBlock ∧ k_ ≠ gb238) (fun k_ => ((fun k_ => some k_ ≠ (.slice Ao52 y257.length co52 : Value).ownBlock ∧ some k_ ≠ (v261 : Value).ownBlock ∧ some k_ ≠ (.slice Ao59 y268.length co59 : Value).ownBlock ∧ some k_ ≠ (.slice Ao60 y271.length co60 : Value).ownBlock ∧ k_ ≠ gb238)) k_ ∧ some k_ ≠ (v275 : Value).ownBlock) rfl rfl ?aO ?aR (fun _ hk => hk) ?aF ?aB ?aS ?aL ?_
                         (case aR => exact (by skip; exact Kd.N_F (Kd.N_mono (ok':=(fun k_ => ((fun k_ => some k_ ≠ (.slice Ao52 y257.length co52 : Value).ownBlock ∧ some k_ ≠ (v261 : Value).ownBlock ∧ some k_ ≠ (.slice Ao59 y268.length co59 : Value).ownBlock ∧ some k_ ≠ (.slice Ao60 y271.length co60 : Value).ownBlock ∧ k_ ≠ gb238)) k_ ∧ some k_ ≠ (v275 : Value).ownBlock)) (HO281.out) (fun k_ hk => ⟨⟨hk.1,⟨hk.2.1,⟨hk.2.2.1,⟨hk.2.2.2.1,hk.2.2.2.2.2⟩⟩⟩⟩,hk.2.2.2.2.1⟩))))
                         (case aB => exact (bw HB))
                         (case aF => exact (fun k_ hk => ⟨Kd.fresh' (Kd.N_lt (nk HO259)) k_ hk,Kd.fresh' (Kd.N_lt (nk HO262)) k_ hk,Kd.fresh' (Kd.N_lt (nk HO270)) k_ hk,Kd.fresh' (Kd.N_lt (nk HO273)) k_ hk,Kd.freshB (kk BK238) k_ hk⟩))
                         (case aO => exact (by (with_reducible repeat (first | apply Kd.N_alloc | apply Kd.N_drewN | apply Kd.N_drew)); exact Kd.N_mono HO276.out (fun _ hk => ⟨hk.1,⟨hk.2.1,⟨hk.2.2.1,⟨hk.2.2.2.1,hk.2.2.2.2.2⟩⟩⟩⟩)))
                         (case aS => exact (below_size (bw HB)))
                         (case aL => have:=LMc44.out; omega)
                         intro v283 w66 ho hb hg hat
                         rw [← Ny282.out] at ho
                         have n0_:=Aside0.mk (blk_grown (kk BK238) hg (Kd.N_ne HO276.out BK238.out (by decide)))
                         have n1_:=Aside0.mk (Kd.N_afterv (ok:=(fun k_ => some k_ ≠ (v261 : Value).ownBlock ∧ some k_ ≠ (.slice Ao59 y268.length co59 : Value).ownBlock ∧ some k_ ≠ (.slice Ao60 y271.length co60 : Value).ownBlock ∧ some k_ ≠ (.slice Ao67 y279.length co67 : Value).ownBlock ∧ k_ ≠ gb238)) (by (with_reducible repeat (first | apply Kd.N_alloc | apply Kd.N_drewN | apply Kd.N_drew)); exact Kd.N_mono HO259.out (fun _ hk => ⟨⟨hk.1,⟨hk.2.1,⟨hk.2.2.1,⟨hk.2.2.2.2.1,hk.2.2.2.2.2⟩⟩⟩⟩,hk.2.2.2.1⟩)) hg hat)
                         have n2_:=Aside0.mk (Kd.N_afterv (ok:=(fun k_ => some k_ ≠ (.slice Ao59 y268.length co59 : Value).ownBlock ∧ some k_ ≠ (.slice Ao60 y271.length co60 : Value).ownBlock ∧ some k_ ≠ (.slice Ao67 y279.length co67 : Value).ownBlock ∧ k_ ≠ gb238)) (by (with_reducible repeat (first | apply Kd.N_alloc | apply Kd.N_drewN | apply Kd.N_drew)); exact Kd.N_mono HO262.out (fun _ hk => ⟨⟨hk.1,⟨hk.2.1,⟨hk.2.2.2.1,hk.2.2.2.2⟩⟩⟩,hk.2.2.1⟩)) hg hat)
                         have n3_:=Aside0.mk (Kd.N_afterv (ok:=(fun k_ => some k_ ≠ (.slice Ao52 y257.length co52 : Value).ownBlock ∧ some k_ ≠ (v261 : Value).ownBlock ∧ some k_ ≠ (.slice Ao60 y271.length co60 : Value).ownBlock ∧ some k_ ≠ (.slice Ao67 y279.length co67 : Value).ownBlock ∧ k_ ≠ gb238)) (by (with_reducible repeat (first | apply Kd.N_alloc | apply Kd.N_drewN | apply Kd.N_drew)); exact Kd.N_mono HO270.out (fun _ hk => ⟨⟨hk.1,⟨hk.2.1,⟨hk.2.2.1,⟨hk.2.2.2.2.1,hk.2.2.2.2.2⟩⟩⟩⟩,hk.2.2.2.1⟩)) hg hat)
                         have n4_:=Aside0.mk (Kd.N_afterv (ok:=(fun k_ => some k_ ≠ (.slice Ao52 y257.length co52 : Value).ownBlock ∧ some k_ ≠ (v261 : Value).ownBlock ∧ some k_ ≠ (.slice Ao67 y279.length co67 : Value).ownBlock ∧ k_ ≠ gb238)) (by (with_reducible repeat (first | apply Kd.N_alloc | apply Kd.N_drewN | apply Kd.N_drew)); exact Kd.N_mono HO273.out (fun _ hk => ⟨⟨hk.1,⟨hk.2.1,⟨hk.2.2.2.1,hk.2.2.2.2⟩⟩⟩,hk.2.2.1⟩)) hg hat)
                         have n5_:=Aside0.mk (Kd.N_afterv (ok:=(fun k_ => some k_ ≠ (.slice Ao52 y257.length co52 : Value).ownBlock ∧ some k_ ≠ (v261 : Value).ownBlock ∧ some k_ ≠ (.slice Ao59 y268.length co59 : Value).ownBlock ∧ some k_ ≠ (.slice Ao60 y271.length co60 : Value).ownBlock ∧ k_ ≠ gb238)) (by (with_reducible repeat (first | apply Kd.N_alloc | apply Kd.N_drewN | apply Kd.N_drew)); exact Kd.N_mono HO281.out (fun _ hk => ⟨⟨hk.1,⟨hk.2.1,⟨hk.2.2.1,⟨hk.2.2.2.1,hk.2.2.2.2.2⟩⟩⟩⟩,hk.2.2.2.2.1⟩)) hg hat)
                         have n6_:=Aside0.mk (hb)
                         have n7_:=Aside0.mk (ho)
                         clear BK238
                         clear HO259
                         clear HO262
                         clear HO270
                         clear HO273
                         clear HO281
                         clear HB
                         clear HO276
                         have BK238:=n0_
                         have HO259:=n1_
                         have HO262:=n2_
                         have HO270:=n3_
                         have HO273:=n4_
                         have HO281:=n5_
                         have HB:=n6_
                         have HO284:=n7_
                         clear n0_ n1_ n2_ n3_ n4_ n5_ n6_ n7_
                         clear ho hb hg hat
                         refine hK.out _ _ ⟨(cW HB hw277_0),(cW HB hw277_1),(cW HB hw277_2),(cW HB hw277_3),(cW HB hw277_4),(cW HB hw277_5),(cW HB hw277_6),(cW HB hw277_7),(cW HB hw277_8),(cW HB hw277_9),(cW HB hw277_10)⟩ (fun hHeld => ?_)
                         clear hK K
                         refine nn 173 (h := ?_)
                         refine pu HT_ 20 15 2097151 (h := ?_)
                         refine dn HT_ (h := ?_)
                         obtain ⟨Ao68,co68,eo68⟩:=Kd.N_slice HO284.out
                         subst eo68
                         try go_wp2
                         go_roundg kj31
                         case measure => have:=HK1.out; have:=HJ9.out; have:=HK3.out; have:=HK4.out; have:=HJ31.out; omega
                         case rel => exact ⟨(wrap64 (x7_3 + 1)),rf,H',⟨by have:=HK1.out; have:=HJ9.out; have:=HK3.out; have:=HK4.out; have:=HJ31.out; omega⟩,⟨kk BK238⟩,⟨bw HB⟩⟩
                         ⟩ : Nonempty G_)) :); w6_DocToggles.bxo (G:=G_) (inferInstanceAs (Nonempty G_)))
                       rw [if_neg c45] at H
                       have c45b0:=decide_eq_false c45
                       have c45b1 : decide (40 < y282.length) = false:=decide_eq_false (by omega)
                       clear c45
                       obtain ⟨⟨t285,t286⟩,A69,H⟩:=bE H
                       try dsimp only at H
                       obtain ⟨⟨t287,t288⟩,A70,H⟩:=bE H
                       try dsimp only at H
                       obtain ⟨⟨t291,t292⟩,A71,H⟩:=bE H
                       try dsimp only at H
                       obtain ⟨⟨t295,t296⟩,A72,H⟩:=bE H
                       try dsimp only at H
                       by_cases c73 : 0 ≤ ((rd_LOp l0_0 x3_1).length : Int); rotate_left
                       ·rw [if_neg c73] at H
                        exact absurd H (by simp)
                       show (let G_ : Prop:=_; G_)
                       intro G_
                       exact (let_tmp i_ : Nonempty G_:=(((⟨by
                        subst G_
                        rw [if_pos c73] at H
                        have c73b0:=decide_eq_true c73
                        have c73b1 : decide (0 ≤ (rd_LOp l0_0 x3_1).length) = true:=decide_eq_true (by omega)
                        clear c73
                        by_cases c74 : ((rd_LOp l0_0 x3_1).length : Int) < (y260.length : Int); rotate_left
                        ·rw [if_neg c74] at H
                         exact absurd H (by simp)
                        show (let G_ : Prop:=_; G_)
                        intro G_
                        exact (let_tmp i_ : Nonempty G_:=(((⟨by
                         subst G_
                         rw [if_pos c74] at H
                         have c74b0:=decide_eq_true c74
                         have c74b1 : decide ((rd_LOp l0_0 x3_1).length < y260.length) = true:=decide_eq_true (Int.ofNat_lt.mp c74)
                         clear c74
                         obtain ⟨⟨t298,t299⟩,A75,H⟩:=bE H
                         try dsimp only at H
                         by_cases c76 : ((rd_LOp l0_0 x3_1).length : Int) < (y271.length : Int); rotate_left
                         ·rw [if_neg c76] at H
                          exact absurd H (by simp)
                         show (let G_ : Prop:=_; G_)
                         intro G_
                         exact (let_tmp i_ : Nonempty G_:=(((⟨by
                          subst G_
                          rw [if_pos c76] at H
                          have c76b0:=decide_eq_true c76
                          have c76b1 : decide ((rd_LOp l0_0 x3_1).length < y271.length) = true:=decide_eq_true (Int.ofNat_lt.mp c76)
                          clear c76
                          obtain ⟨⟨t301,t302⟩,A77,H⟩:=bE H
                          try dsimp only at H
                          have HC78:=Aside0.mk H
                          clear H
                          try go_wp2
                          have n0_:=Aside0.mk (blk_drew BK238.out)
                          have n1_:=Aside0.mk (below_drew1 HB.out)
                          clear BK238
                          clear HB
                          have BK238:=n0_
                          have HB:=n1_
                          clear n0_ n1_
                          have p255 : 0 ≤ (x7_3 : Int):=od
                          have q255 : x7_3 < ((rd_LOp l0_0 x3_1).length : Int):=od
                          obtain ⟨ad255,A255_7,c255_7,e255,hx255_0,hx255_1,hx255_2,hx255_3,hx255_4,hx255_5,hx255_6,hx255_7,hx255_8,hx255_9,hx255_10,hl255_7,hi255_7⟩:=at_Op HR240_0.out x7_3 p255 q255
                          have hw255_10:=hx255_10
                          have hw255_9:=hx255_9
                          have hw255_8:=hx255_8
                          have hw255_7:=hx255_7
                          have hw255_6:=hx255_6
                          have hw255_5:=hx255_5
                          have hw255_4:=hx255_4
                          have hw255_3:=hx255_3
                          have hw255_2:=hx255_2
                          have hw255_1:=hx255_1
                          have hw255_0:=hx255_0
                          obtain rfl : ad244 = ad255:=(by injection e255)
                          replace hx255_0:=cl HB hx255_0
                          replace hx255_1:=cl HB hx255_1
                          replace hx255_2:=cl HB hx255_2
                          replace hx255_3:=cl HB hx255_3
                          replace hx255_4:=cl HB hx255_4
                          replace hx255_5:=cl HB hx255_5
                          replace hx255_6:=cl HB hx255_6
                          replace hx255_7:=cl HB hx255_7
                          replace hx255_8:=cl HB hx255_8
                          replace hx255_9:=cl HB hx255_9
                          replace hx255_10:=cl HB hx255_10
                          have HR255_7:=Aside0.mk hi255_7
                          have HC255_7:=Aside0.mk hl255_7
                          clear hi255_7 hl255_7
                          replace p255:=eq_true p255
                          replace q255:=eq_true q255
                          refine stP (fun w' => Q11 w' (ad244.add ((x7_3).toNat * 11)) (rd_Op (rd_LOp l0_0 x3_1) x7_3) A255_7 c255_7) 23 ⟨(cW HB hw255_0),(cW HB hw255_1),(cW HB hw255_2),(cW HB hw255_3),(cW HB hw255_4),(cW HB hw255_5),(cW HB hw255_6),(cW HB hw255_7),(cW HB hw255_8),(cW HB hw255_9),(cW HB hw255_10)⟩ (h:=fun hHeld => ?_); refine with_tabW w6_DocToggles.tab22 w6_DocToggles.bits22 (fun HT_ HW_ => ?_)
                          generalize wc.drew = w79 at BK238 HB HR255_7 HR255_7 hx255_0 hx255_1 hx255_10 hx255_2 hx255_3 hx255_4 hx255_5 hx255_6 hx255_7 hx255_8 hx255_9 hx255_0 hx255_1 hx255_10 hx255_2 hx255_3 hx255_4 hx255_5 hx255_6 hx255_7 hx255_8 hx255_9 hHeld ⊢
                          refine pu HT_ 0 114 1 (h := ?_)
                          refine pu HT_ 2 116 5 (h := ?_)
                          refine pu HT_ 3 117 13 (h := ?_)
                          refine pu HT_ 4 118 29 (h := ?_)
                          refine pu HT_ 5 119 61 (h := ?_)
                          refine pu HT_ 6 120 125 (h := ?_)
                          refine pu HT_ 7 121 253 (h := ?_)
                          refine pu HT_ 9 123 765 (h := ?_)
                          refine pu HT_ 10 124 1789 (h := ?_)
                          refine pu HT_ 11 125 3837 (h := ?_)
                          refine pu HT_ 12 126 7933 (h := ?_)
                          refine pu HT_ 14 128 24317 (h := ?_)
                          refine pu HT_ 15 129 57085 (h := ?_)
                          refine pu HT_ 16 130 122621 (h := ?_)
                          refine pu HT_ 17 131 253693 (h := ?_)
                          refine pu HT_ 18 132 515837 (h := ?_)
                          refine tk HT_ HW_ hHeld 8 122 516093 (h := ?_)
                          refine tk HT_ HW_ hHeld 13 127 524285 (h := ?_)
                          refine pu HT_ 19 133 1048573 (h := ?_)
                          refine join_ (σ:=Value × Value) 2 (bA 23 2097151) (fun s_ => [(115,s_.1),(134,s_.2)]) (fun s_ w' => (P11 w' (ad244.add ((x7_3).toNat * 11)) (rd_Op (rd_LOp l0_0 x3_1) x7_3) A255_7 c255_7 (Q11 w' (ad244.add ((x7_3).toNat * 11)) (rd_Op (rd_LOp l0_0 x3_1) x7_3) A255_7 c255_7)) ∧ (Kd.N kOp 38 w' w.heap.size (fun k_ => some k_ ≠ (s_.2 : Value).ownBlock ∧ k_ ≠ gb238) s_.1 t252) ∧ (Kd.N kOp 38 w' w.heap.size (fun k_ => some k_ ≠ (s_.1 : Value).ownBlock ∧ k_ ≠ gb238) s_.2 y257) ∧ (w'.heap[gb238]? = some (.cells #[.slice (some ad240) l0_0.length c0_0, .slice A0_1 l0_1.length c0_1, .slice A0_2 l0_2.length c0_2, .slice A0_3 l0_3.length c0_3] 27 (0,0))) ∧ (Below w.heap.size w w')) ?_ ?_
                          rotate_left
                          ·show (let G_ : Prop:=_; G_)
                           intro G_
                           exact (let_tmp i_ : Nonempty G_:=(((⟨by
                            subst G_
                            intro hCont
                            refine two_ (i:=1) (j:=20) (Ni:=some 115) (Nj:=some 134) (bA 23 1048575) (bA 23 2097149) rfl rfl rfl rfl (two_of HT_.out (by kernel_rfl)) (by decide) (by decide) (fun K hK => ?_) (fun K hK => ?_)
                            ·show (let G_ : Prop:=_; G_)
                             intro G_
                             exact (let_tmp i_ : Nonempty G_:=(((⟨by
                              subst G_
                              skip
                              refine gS Try.func10 #[.slice (some ad244) (rd_LOp l0_0 x3_1).length c240_0] (h := ?_)
                              with_reducible refine (r0_CopyOps.calls kj31 _ _ (rd_LOp l0_0 x3_1) t252 _ ?side1 ?side2 A37.out).mono ?_
                              (case side1 => exact cb HR240_0 HB)
                              (case side2 => exact HC240_0.out)
                              rintro e w80 ⟨v253,rfl,ho0,hb⟩
                              refine ⟨_,rfl, ?_⟩
                              have n0_:=Aside0.mk (Kd.N_lower (Kd.N_mono (ok':=fun k_ => k_ ≠ gb238) (Kd.S_N (Kd.S_bound ho0)) (fun k_ hk_ => (Kd.freshB (kk BK238) k_ hk_.2.1))) (below_size (bw HB)))
                              have n1_:=bl BK238 hb
                              have n2_:=bs HB hb
                              clear BK238
                              clear HB
                              have HO254:=n0_
                              have BK238:=n1_
                              have HB:=n2_
                              clear n0_ n1_ n2_
                              (try clear hb)
                              (try clear hb2)
                              (try clear hk)
                              (try clear hi)
                              (try clear ho0)
                              refine hK.out _ _ ⟨(cW HB hw255_0),(cW HB hw255_1),(cW HB hw255_2),(cW HB hw255_3),(cW HB hw255_4),(cW HB hw255_5),(cW HB hw255_6),(cW HB hw255_7),(cW HB hw255_8),(cW HB hw255_9),(cW HB hw255_10)⟩ (fun hHeld => ?_)
                              clear hK K
                              refine nn 115 (h := ?_)
                              refine on HT_ 20 (some 134) 2097151 (h:=fun K hK => ?_)
                              refine Kd.N_lit_step kOp _ 38 ?hg (N':=134) ?hd (xs:=([(⟨(wrap64 (1 + (Int.tmod (wrap64 (x3_1 + x7_3)) 8))),x11_4,2,(⟨0,0,0⟩ : SElem),(⟨#[]⟩ : ByteArray),([] : List (SElem)),(rd_Op (rd_LOp l0_0 x3_1) x7_3).f0,(rd_Op (rd_LOp l0_0 x3_1) x7_3).f1,wrap64 ((wrap64 (t246 + 1)) + (Int.tmod x7_3 3))⟩ : SOp)] : List (SOp))) (inner:=[.int .i64 (wrap64 (1 + (Int.tmod (wrap64 (x3_1 + x7_3)) 8))), .int .i64 x11_4, .int .i64 2, .int .i64 0, .int .i64 0, .int .i64 0, .string (⟨#[]⟩ : ByteArray), .slice none 0 0, .int .i64 ((rd_Op (rd_LOp l0_0 x3_1) x7_3).f0), .int .i64 ((rd_Op (rd_LOp l0_0 x3_1) x7_3).f1), .int .i64 (wrap64 ((wrap64 (t246 + 1)) + (Int.tmod x7_3 3)))]) (ok:=(fun k_ => some k_ ≠ (v253 : Value).ownBlock ∧ k_ ≠ gb238)) (okp:=(fun k_ => some k_ ≠ (v253 : Value).ownBlock ∧ k_ ≠ gb238)) ?hr ?hp (fun _ hk => hk) ((show ∀ k_,w80.heap.size ≤ k_ → (fun k_ => some k_ ≠ (v253 : Value).ownBlock ∧ k_ ≠ gb238) k_ from fun k_ hk => ⟨Kd.fresh' (Kd.N_lt (nk HO254)) k_ hk,Kd.freshB (kk BK238) k_ hk⟩) _ (Nat.le_refl _)) (Below.refl _ _) (Nat.le_refl _) (by simp) ?_; (case hd => rfl); (case hg => rfl); (case hr => first | (go_simp; done) | (go_simp; rfl)); (case hp => exact (Reps.front (show Kd.FK kOp _ _ (⟨(wrap64 (1 + (Int.tmod (wrap64 (x3_1 + x7_3)) 8))),x11_4,2,(⟨0,0,0⟩ : SElem),(⟨#[]⟩ : ByteArray),([] : List (SElem)),(rd_Op (rd_LOp l0_0 x3_1) x7_3).f0,(rd_Op (rd_LOp l0_0 x3_1) x7_3).f1,wrap64 ((wrap64 (t246 + 1)) + (Int.tmod x7_3 3))⟩ : SOp) [.int .i64 (wrap64 (1 + (Int.tmod (wrap64 (x3_1 + x7_3)) 8))), .int .i64 x11_4, .int .i64 2, .int .i64 0, .int .i64 0, .int .i64 0, .string (⟨#[]⟩ : ByteArray), .slice none 0 0, .int .i64 ((rd_Op (rd_LOp l0_0 x3_1) x7_3).f0), .int .i64 ((rd_Op (rd_LOp l0_0 x3_1) x7_3).f1), .int .i64 (wrap64 ((wrap64 (t246 + 1)) + (Int.tmod x7_3 3)))] from (kOp_mkF _ _ (⟨(wrap64 (1 + (Int.tmod (wrap64 (x3_1 + x7_3)) 8))),x11_4,2,(⟨0,0,0⟩ : SElem),(⟨#[]⟩ : ByteArray),([] : List (SElem)),(rd_Op (rd_LOp l0_0 x3_1) x7_3).f0,(rd_Op (rd_LOp l0_0 x3_1) x7_3).f1,wrap64 ((wrap64 (t246 + 1)) + (Int.tmod x7_3 3))⟩ : SOp) (Nat.le_refl _) (Kd.F_nil _ _ _))) rfl (Reps.none _ _) rfl))
                              intro v258 w81 ho82 hb hg_ hnew_
                              clear hg_ hnew_
                              (first | rw [← Ny257.out] at ho82 | (simp only [Int.reduceToNat] at ho82; rw [← Ny257.out] at ho82))
                              have n0_:=Aside0.mk (Kd.N_elder' (nk HO254) (Kd.N_base ho82) hb)
                              have n1_:=Aside0.mk (Kd.N_lower ho82 (below_size (bw HB)))
                              have n2_:=bl BK238 hb
                              have n3_:=bs HB hb
                              clear HO254
                              clear BK238
                              clear HB
                              have HO254:=n0_
                              have HO259:=n1_
                              have BK238:=n2_
                              have HB:=n3_
                              clear n0_ n1_ n2_ n3_
                              clear hb ho82
                              refine hK.out _ _ ⟨(cW HB hw255_0),(cW HB hw255_1),(cW HB hw255_2),(cW HB hw255_3),(cW HB hw255_4),(cW HB hw255_5),(cW HB hw255_6),(cW HB hw255_7),(cW HB hw255_8),(cW HB hw255_9),(cW HB hw255_10)⟩ (fun hHeld => ?_)
                              clear hK K
                              refine nn 134 (h := ?_)
                              exact norm_ (by simp only [putAll,Act.put,List.setIfInBounds_toArray,List.set_cons_zero,List.set_cons_succ]) (hCont (v253,v258) _ ⟨dup11 hHeld,(by (with_reducible repeat (first | apply Kd.N_alloc | apply Kd.N_drewN | apply Kd.N_drew)); exact Kd.N_mono HO254.out (fun _ hk => ⟨hk.2,hk.1⟩)),(nk HO259),(kk BK238),(bw HB)⟩)
                              ⟩ : Nonempty G_)) :); w6_DocToggles.bxo (G:=G_) (inferInstanceAs (Nonempty G_)))
                            skip
                            refine Kd.N_lit_step kOp _ 38 ?hg (N':=134) ?hd (xs:=([(⟨(wrap64 (1 + (Int.tmod (wrap64 (x3_1 + x7_3)) 8))),x11_4,2,(⟨0,0,0⟩ : SElem),(⟨#[]⟩ : ByteArray),([] : List (SElem)),(rd_Op (rd_LOp l0_0 x3_1) x7_3).f0,(rd_Op (rd_LOp l0_0 x3_1) x7_3).f1,wrap64 ((wrap64 (t246 + 1)) + (Int.tmod x7_3 3))⟩ : SOp)] : List (SOp))) (inner:=[.int .i64 (wrap64 (1 + (Int.tmod (wrap64 (x3_1 + x7_3)) 8))), .int .i64 x11_4, .int .i64 2, .int .i64 0, .int .i64 0, .int .i64 0, .string (⟨#[]⟩ : ByteArray), .slice none 0 0, .int .i64 ((rd_Op (rd_LOp l0_0 x3_1) x7_3).f0), .int .i64 ((rd_Op (rd_LOp l0_0 x3_1) x7_3).f1), .int .i64 (wrap64 ((wrap64 (t246 + 1)) + (Int.tmod x7_3 3)))]) (ok:=(fun k_ => k_ ≠ gb238)) (okp:=(fun k_ => k_ ≠ gb238)) ?hr ?hp (fun _ hk => hk) ((show ∀ k_,w79.heap.size ≤ k_ → (fun k_ => k_ ≠ gb238) k_ from fun k_ hk => Kd.freshB (kk BK238) k_ hk) _ (Nat.le_refl _)) (Below.refl _ _) (Nat.le_refl _) (by simp) ?_; (case hd => rfl); (case hg => rfl); (case hr => first | (go_simp; done) | (go_simp; rfl)); (case hp => exact (Reps.front (show Kd.FK kOp _ _ (⟨(wrap64 (1 + (Int.tmod (wrap64 (x3_1 + x7_3)) 8))),x11_4,2,(⟨0,0,0⟩ : SElem),(⟨#[]⟩ : ByteArray),([] : List (SElem)),(rd_Op (rd_LOp l0_0 x3_1) x7_3).f0,(rd_Op (rd_LOp l0_0 x3_1) x7_3).f1,wrap64 ((wrap64 (t246 + 1)) + (Int.tmod x7_3 3))⟩ : SOp) [.int .i64 (wrap64 (1 + (Int.tmod (wrap64 (x3_1 + x7_3)) 8))), .int .i64 x11_4, .int .i64 2, .int .i64 0, .int .i64 0, .int .i64 0, .string (⟨#[]⟩ : ByteArray), .slice none 0 0, .int .i64 ((rd_Op (rd_LOp l0_0 x3_1) x7_3).f0), .int .i64 ((rd_Op (rd_LOp l0_0 x3_1) x7_3).f1), .int .i64 (wrap64 ((wrap64 (t246 + 1)) + (Int.tmod x7_3 3)))] from (kOp_mkF _ _ (⟨(wrap64 (1 + (Int.tmod (wrap64 (x3_1 + x7_3)) 8))),x11_4,2,(⟨0,0,0⟩ : SElem),(⟨#[]⟩ : ByteArray),([] : List (SElem)),(rd_Op (rd_LOp l0_0 x3_1) x7_3).f0,(rd_Op (rd_LOp l0_0 x3_1) x7_3).f1,wrap64 ((wrap64 (t246 + 1)) + (Int.tmod x7_3 3))⟩ : SOp) (Nat.le_refl _) (Kd.F_nil _ _ _))) rfl (Reps.none _ _) rfl))
                            intro v258 w80 ho81 hb hg_ hnew_
                            clear hg_ hnew_
                            (first | rw [← Ny257.out] at ho81 | (simp only [Int.reduceToNat] at ho81; rw [← Ny257.out] at ho81))
                            have n0_:=Aside0.mk (Kd.N_lower ho81 (below_size (bw HB)))
                            have n1_:=bl BK238 hb
                            have n2_:=bs HB hb
                            clear BK238
                            clear HB
                            have HO259:=n0_
                            have BK238:=n1_
                            have HB:=n2_
                            clear n0_ n1_ n2_
                            clear hb ho81
                            refine hK.out _ _ ⟨(cW HB hw255_0),(cW HB hw255_1),(cW HB hw255_2),(cW HB hw255_3),(cW HB hw255_4),(cW HB hw255_5),(cW HB hw255_6),(cW HB hw255_7),(cW HB hw255_8),(cW HB hw255_9),(cW HB hw255_10)⟩ (fun hHeld => ?_)
                            clear hK K
                            refine nn 134 (h := ?_)
                            refine on HT_ 1 (some 115) 2097151 (h:=fun K hK => ?_)
                            refine gS Try.func10 #[.slice (some ad244) (rd_LOp l0_0 x3_1).length c240_0] (h := ?_)
                            with_reducible refine (r0_CopyOps.calls kj31 _ _ (rd_LOp l0_0 x3_1) t252 _ ?side1 ?side2 A37.out).mono ?_
                            (case side1 => exact cb HR240_0 HB)
                            (case side2 => exact HC240_0.out)
                            rintro e w82 ⟨v253,rfl,ho0,hb⟩
                            refine ⟨_,rfl, ?_⟩
                            have n0_:=Aside0.mk (Kd.N_elder' (nk HO259) (Kd.N_base (Kd.S_N ho0)) hb)
                            have n1_:=Aside0.mk (Kd.N_lower (Kd.N_mono (ok':=fun k_ => some k_ ≠ (v258 : Value).ownBlock ∧ k_ ≠ gb238) (Kd.S_N (Kd.S_bound ho0)) (fun k_ hk_ => ⟨(Kd.fresh' (Kd.N_lt (nk HO259)) k_ hk_.2.1),(Kd.freshB (kk BK238) k_ hk_.2.1)⟩)) (below_size (bw HB)))
                            have n2_:=bl BK238 hb
                            have n3_:=bs HB hb
                            clear HO259
                            clear BK238
                            clear HB
                            have HO259:=n0_
                            have HO254:=n1_
                            have BK238:=n2_
                            have HB:=n3_
                            clear n0_ n1_ n2_ n3_
                            (try clear hb)
                            (try clear hb2)
                            (try clear hk)
                            (try clear hi)
                            (try clear ho0)
                            refine hK.out _ _ ⟨(cW HB hw255_0),(cW HB hw255_1),(cW HB hw255_2),(cW HB hw255_3),(cW HB hw255_4),(cW HB hw255_5),(cW HB hw255_6),(cW HB hw255_7),(cW HB hw255_8),(cW HB hw255_9),(cW HB hw255_10)⟩ (fun hHeld => ?_)
                            clear hK K
                            refine nn 115 (h := ?_)
                            exact norm_ (by simp only [putAll,Act.put,List.setIfInBounds_toArray,List.set_cons_zero,List.set_cons_succ]) (hCont (v253,v258) _ ⟨dup11 hHeld,(nk HO254),(by (with_reducible repeat (first | apply Kd.N_alloc | apply Kd.N_drewN | apply Kd.N_drew)); exact Kd.N_mono HO259.out (fun _ hk => ⟨hk.2,hk.1⟩)),(kk BK238),(bw HB)⟩)
                            ⟩ : Nonempty G_)) :); w6_DocToggles.bxo (G:=G_) (inferInstanceAs (Nonempty G_)))
                          rintro ⟨v253,v258⟩ w83 ⟨hS_,h0_,h1_,h2_,h3_⟩
                          have n0_ : Aside0 (Kd.N kOp 38 w83 w.heap.size (fun k_ => some k_ ≠ (v258 : Value).ownBlock ∧ k_ ≠ gb238) v253 t252):=⟨h0_⟩
                          have n1_ : Aside0 (Kd.N kOp 38 w83 w.heap.size (fun k_ => some k_ ≠ (v253 : Value).ownBlock ∧ k_ ≠ gb238) v258 y257):=⟨h1_⟩
                          have n2_ : Aside0 (w83.heap[gb238]? = some (.cells #[.slice (some ad240) l0_0.length c0_0, .slice A0_1 l0_1.length c0_1, .slice A0_2 l0_2.length c0_2, .slice A0_3 l0_3.length c0_3] 27 (0,0))):=⟨h2_⟩
                          have n3_ : Aside0 (Below w.heap.size w w83):=⟨h3_⟩
                          clear BK238
                          clear HB
                          clear h0_ h1_ h2_ h3_
                          have HO254:=n0_
                          have HO259:=n1_
                          have BK238:=n2_
                          have HB:=n3_
                          clear n0_ n1_ n2_ n3_
                          have hHeld : P11 w83 (ad244.add ((x7_3).toNat * 11)) (rd_Op (rd_LOp l0_0 x3_1) x7_3) A255_7 c255_7 (Q11 w83 (ad244.add ((x7_3).toNat * 11)) (rd_Op (rd_LOp l0_0 x3_1) x7_3) A255_7 c255_7):=hS_
                          obtain ⟨Ao85,co85,eo85⟩:=Kd.N_slice HO259.out
                          (first | subst eo85 | (injection eo85 with f1_ f2_ f3_; have f4_:=f1_.symm; have f5_:=f3_.symm; clear f1_ f2_ f3_; subst f4_; subst f5_))
                          refine norm_ (a' := ?_) ?_ ?_
                          rotate_left
                          ·simp only [putAll,Act.put,List.setIfInBounds_toArray,List.set_cons_zero,List.set_cons_succ]
                           rfl
                          refine on HT_ 21 (some 135) 4194303 (h:=fun K hK => ?_)
                          refine Kd.N_append_rows_step kOp (w0:=w) w.heap.size (by rfl) (.tmp 115) (.tmp 134) 24 38 (.agg #[(.int .i64 0),(.int .i64 0),(.int .i64 0),(.int .i64 0),(.int .i64 0),(.int .i64 0),(.string ⟨#[]⟩),(.slice none 0 0),(.int .i64 0),(.int .i64 0),(.int .i64 0)]) 112 rfl Try.underlying24 info38 rfl (by decide) (by omega) v253 t252 y257 _ _ _ (fun k_ => k_ ≠ gb238) (fun k_ => ((fun k_ => k_ ≠ gb238)) k_ ∧ some k_ ≠ (v253 : Value).ownBlock) rfl rfl ?aO ?aR (fun _ hk => hk) ?aF ?aB ?aS ?aL ?_
                          (case aR => exact (by skip; exact Kd.N_F (Kd.N_mono (ok':=(fun k_ => ((fun k_ => k_ ≠ gb238)) k_ ∧ some k_ ≠ (v253 : Value).ownBlock)) (HO259.out) (fun k_ hk => ⟨hk.2,hk.1⟩))))
                          (case aB => exact (bw HB))
                          (case aF => exact (fun k_ hk => Kd.freshB (kk BK238) k_ hk))
                          (case aO => exact (by (with_reducible repeat (first | apply Kd.N_alloc | apply Kd.N_drewN | apply Kd.N_drew)); exact Kd.N_mono HO254.out (fun _ hk => hk.2)))
                          (case aS => exact (below_size (bw HB)))
                          (case aL => have:=LMc40.out; omega)
                          intro v261 w84 ho hb hg hat
                          rw [← Ny260.out] at ho
                          have n0_:=Aside0.mk (blk_grown (kk BK238) hg (Kd.N_ne HO254.out BK238.out (by decide)))
                          have n1_:=Aside0.mk (Kd.N_afterv (ok:=(fun k_ => k_ ≠ gb238)) (by (with_reducible repeat (first | apply Kd.N_alloc | apply Kd.N_drewN | apply Kd.N_drew)); exact Kd.N_mono HO259.out (fun _ hk => ⟨hk.2,hk.1⟩)) hg hat)
                          have n2_:=Aside0.mk (hb)
                          have n3_:=Aside0.mk (ho)
                          clear BK238
                          clear HO259
                          clear HB
                          clear HO254
                          have BK238:=n0_
                          have HO259:=n1_
                          have HB:=n2_
                          have HO262:=n3_
                          clear n0_ n1_ n2_ n3_
                          clear ho hb hg hat
                          refine hK.out _ _ ⟨(cW HB hw255_0),(cW HB hw255_1),(cW HB hw255_2),(cW HB hw255_3),(cW HB hw255_4),(cW HB hw255_5),(cW HB hw255_6),(cW HB hw255_7),(cW HB hw255_8),(cW HB hw255_9),(cW HB hw255_10)⟩ (fun hHeld => ?_)
                          clear hK K
                          refine nn 135 (h := ?_)
                          refine pu HT_ 22 13 8388607 (h := ?_)
                          refine dn HT_ (h := ?_)
                          try go_wp2
                          have n0_:=Aside0.mk (Kd.N_drew HO259.out)
                          have n1_:=Aside0.mk (Kd.N_drew HO262.out)
                          have n2_:=Aside0.mk (blk_drew BK238.out)
                          have n3_:=Aside0.mk (below_drew1 HB.out)
                          clear HO259
                          clear HO262
                          clear BK238
                          clear HB
                          have HO259:=n0_
                          have HO262:=n1_
                          have BK238:=n2_
                          have HB:=n3_
                          clear n0_ n1_ n2_ n3_
                          have p266 : 0 ≤ (x7_3 : Int):=od
                          have q266 : x7_3 < ((rd_LOp l0_0 x3_1).length : Int):=od
                          obtain ⟨ad266,A266_7,c266_7,e266,hx266_0,hx266_1,hx266_2,hx266_3,hx266_4,hx266_5,hx266_6,hx266_7,hx266_8,hx266_9,hx266_10,hl266_7,hi266_7⟩:=at_Op HR240_0.out x7_3 p266 q266
                          have hw266_10:=hx266_10
                          have hw266_9:=hx266_9
                          have hw266_8:=hx266_8
                          have hw266_7:=hx266_7
                          have hw266_6:=hx266_6
                          have hw266_5:=hx266_5
                          have hw266_4:=hx266_4
                          have hw266_3:=hx266_3
                          have hw266_2:=hx266_2
                          have hw266_1:=hx266_1
                          have hw266_0:=hx266_0
                          obtain rfl : ad244 = ad266:=(by injection e266)
                          replace hx266_0:=cl HB hx266_0
                          replace hx266_1:=cl HB hx266_1
                          replace hx266_2:=cl HB hx266_2
                          replace hx266_3:=cl HB hx266_3
                          replace hx266_4:=cl HB hx266_4
                          replace hx266_5:=cl HB hx266_5
                          replace hx266_6:=cl HB hx266_6
                          replace hx266_7:=cl HB hx266_7
                          replace hx266_8:=cl HB hx266_8
                          replace hx266_9:=cl HB hx266_9
                          replace hx266_10:=cl HB hx266_10
                          have HR266_7:=Aside0.mk hi266_7
                          have HC266_7:=Aside0.mk hl266_7
                          clear hi266_7 hl266_7
                          replace p266:=eq_true p266
                          replace q266:=eq_true q266
                          refine stP (fun w' => Q11 w' (ad244.add ((x7_3).toNat * 11)) (rd_Op (rd_LOp l0_0 x3_1) x7_3) A266_7 c266_7) 19 ⟨(cW HB hw266_0),(cW HB hw266_1),(cW HB hw266_2),(cW HB hw266_3),(cW HB hw266_4),(cW HB hw266_5),(cW HB hw266_6),(cW HB hw266_7),(cW HB hw266_8),(cW HB hw266_9),(cW HB hw266_10)⟩ (h:=fun hHeld => ?_); refine with_tabW w6_DocToggles.tab23 w6_DocToggles.bits23 (fun HT_ HW_ => ?_)
                          generalize w84.drew = w86 at HO259 HO262 BK238 HB HR266_7 HR266_7 hx266_0 hx266_1 hx266_10 hx266_2 hx266_3 hx266_4 hx266_5 hx266_6 hx266_7 hx266_8 hx266_9 hx266_0 hx266_1 hx266_10 hx266_2 hx266_3 hx266_4 hx266_5 hx266_6 hx266_7 hx266_8 hx266_9 hHeld ⊢
                          refine pu HT_ 0 136 1 (h := ?_)
                          refine pu HT_ 2 138 5 (h := ?_)
                          refine pu HT_ 3 139 13 (h := ?_)
                          refine pu HT_ 4 140 29 (h := ?_)
                          refine pu HT_ 5 141 61 (h := ?_)
                          refine pu HT_ 6 142 125 (h := ?_)
                          refine pu HT_ 7 143 253 (h := ?_)
                          refine pu HT_ 9 145 765 (h := ?_)
                          refine pu HT_ 10 146 1789 (h := ?_)
                          refine pu HT_ 11 147 3837 (h := ?_)
                          refine pu HT_ 12 148 7933 (h := ?_)
                          refine pu HT_ 14 150 24317 (h := ?_)
                          refine tk HT_ HW_ hHeld 8 144 24573 (h := ?_)
                          refine tk HT_ HW_ hHeld 13 149 32765 (h := ?_)
                          refine pu HT_ 15 151 65533 (h := ?_)
                          refine join_ (σ:=Value × Value) 2 (bA 19 131071) (fun s_ => [(137,s_.1),(152,s_.2)]) (fun s_ w' => (P11 w' (ad244.add ((x7_3).toNat * 11)) (rd_Op (rd_LOp l0_0 x3_1) x7_3) A266_7 c266_7 (Q11 w' (ad244.add ((x7_3).toNat * 11)) (rd_Op (rd_LOp l0_0 x3_1) x7_3) A266_7 c266_7)) ∧ (Kd.N kOp 38 w' w.heap.size (fun k_ => some k_ ≠ (v261 : Value).ownBlock ∧ some k_ ≠ (s_.1 : Value).ownBlock ∧ some k_ ≠ (s_.2 : Value).ownBlock ∧ k_ ≠ gb238) (.slice Ao85 y257.length co85) y257) ∧ (Kd.N kOp 38 w' w.heap.size (fun k_ => some k_ ≠ (s_.1 : Value).ownBlock ∧ some k_ ≠ (s_.2 : Value).ownBlock ∧ k_ ≠ gb238) v261 y260) ∧ (Kd.N kOp 38 w' w.heap.size (fun k_ => some k_ ≠ (.slice Ao85 y257.length co85 : Value).ownBlock ∧ some k_ ≠ (v261 : Value).ownBlock ∧ some k_ ≠ (s_.2 : Value).ownBlock ∧ k_ ≠ gb238) s_.1 t263) ∧ (Kd.N kOp 38 w' w.heap.size (fun k_ => some k_ ≠ (.slice Ao85 y257.length co85 : Value).ownBlock ∧ some k_ ≠ (v261 : Value).ownBlock ∧ some k_ ≠ (s_.1 : Value).ownBlock ∧ k_ ≠ gb238) s_.2 y268) ∧ (w'.heap[gb238]? = some (.cells #[.slice (some ad240) l0_0.length c0_0, .slice A0_1 l0_1.length c0_1, .slice A0_2 l0_2.length c0_2, .slice A0_3 l0_3.length c0_3] 27 (0,0))) ∧ (Below w.heap.size w w')) ?_ ?_
                          rotate_left
                          ·show (let G_ : Prop:=_; G_)
                           intro G_
                           exact (let_tmp i_ : Nonempty G_:=(((⟨by
                            subst G_
                            intro hCont
                            refine two_ (i:=1) (j:=16) (Ni:=some 137) (Nj:=some 152) (bA 19 65535) (bA 19 131069) rfl rfl rfl rfl (two_of HT_.out (by kernel_rfl)) (by decide) (by decide) (fun K hK => ?_) (fun K hK => ?_)
                            ·show (let G_ : Prop:=_; G_)
                             intro G_
                             exact (let_tmp i_ : Nonempty G_:=(((⟨by
                              subst G_
                              skip
                              refine gS Try.func10 #[.slice (some ad244) (rd_LOp l0_0 x3_1).length c240_0] (h := ?_)
                              with_reducible refine (r0_CopyOps.calls kj31 _ _ (rd_LOp l0_0 x3_1) t263 _ ?side1 ?side2 A41.out).mono ?_
                              (case side1 => exact cb HR240_0 HB)
                              (case side2 => exact HC240_0.out)
                              rintro e w87 ⟨v264,rfl,ho0,hb⟩
                              refine ⟨_,rfl, ?_⟩
                              have n0_:=Aside0.mk (Kd.N_elder' (nk HO259) (Kd.N_base (Kd.S_N ho0)) hb)
                              have n1_:=Aside0.mk (Kd.N_elder' (nk HO262) (Kd.N_base (Kd.S_N ho0)) hb)
                              have n2_:=Aside0.mk (Kd.N_lower (Kd.N_mono (ok':=fun k_ => some k_ ≠ (.slice Ao85 y257.length co85 : Value).ownBlock ∧ some k_ ≠ (v261 : Value).ownBlock ∧ k_ ≠ gb238) (Kd.S_N (Kd.S_bound ho0)) (fun k_ hk_ => ⟨(Kd.fresh' (Kd.N_lt (nk HO259)) k_ hk_.2.1),(Kd.fresh' (Kd.N_lt (nk HO262)) k_ hk_.2.1),(Kd.freshB (kk BK238) k_ hk_.2.1)⟩)) (below_size (bw HB)))
                              have n3_:=bl BK238 hb
                              have n4_:=bs HB hb
                              clear HO259
                              clear HO262
                              clear BK238
                              clear HB
                              have HO259:=n0_
                              have HO262:=n1_
                              have HO265:=n2_
                              have BK238:=n3_
                              have HB:=n4_
                              clear n0_ n1_ n2_ n3_ n4_
                              (try clear hb)
                              (try clear hb2)
                              (try clear hk)
                              (try clear hi)
                              (try clear ho0)
                              refine hK.out _ _ ⟨(cW HB hw266_0),(cW HB hw266_1),(cW HB hw266_2),(cW HB hw266_3),(cW HB hw266_4),(cW HB hw266_5),(cW HB hw266_6),(cW HB hw266_7),(cW HB hw266_8),(cW HB hw266_9),(cW HB hw266_10)⟩ (fun hHeld => ?_)
                              clear hK K
                              refine nn 137 (h := ?_)
                              refine on HT_ 16 (some 152) 131071 (h:=fun K hK => ?_)
                              refine Kd.N_lit_step kOp _ 38 ?hg (N':=152) ?hd (xs:=([(⟨(wrap64 (1 + (Int.tmod (wrap64 (x3_1 + x7_3)) 8))),x11_4,2,(⟨0,0,0⟩ : SElem),(⟨#[]⟩ : ByteArray),([] : List (SElem)),(rd_Op (rd_LOp l0_0 x3_1) x7_3).f0,(rd_Op (rd_LOp l0_0 x3_1) x7_3).f1,t246⟩ : SOp)] : List (SOp))) (inner:=[.int .i64 (wrap64 (1 + (Int.tmod (wrap64 (x3_1 + x7_3)) 8))), .int .i64 x11_4, .int .i64 2, .int .i64 0, .int .i64 0, .int .i64 0, .string (⟨#[]⟩ : ByteArray), .slice none 0 0, .int .i64 ((rd_Op (rd_LOp l0_0 x3_1) x7_3).f0), .int .i64 ((rd_Op (rd_LOp l0_0 x3_1) x7_3).f1), .int .i64 t246]) (ok:=(fun k_ => some k_ ≠ (.slice Ao85 y257.length co85 : Value).ownBlock ∧ some k_ ≠ (v261 : Value).ownBlock ∧ some k_ ≠ (v264 : Value).ownBlock ∧ k_ ≠ gb238)) (okp:=(fun k_ => some k_ ≠ (.slice Ao85 y257.length co85 : Value).ownBlock ∧ some k_ ≠ (v261 : Value).ownBlock ∧ some k_ ≠ (v264 : Value).ownBlock ∧ k_ ≠ gb238)) ?hr ?hp (fun _ hk => hk) ((show ∀ k_,w87.heap.size ≤ k_ → (fun k_ => some k_ ≠ (.slice Ao85 y257.length co85 : Value).ownBlock ∧ some k_ ≠ (v261 : Value).ownBlock ∧ some k_ ≠ (v264 : Value).ownBlock ∧ k_ ≠ gb238) k_ from fun k_ hk => ⟨Kd.fresh' (Kd.N_lt (nk HO259)) k_ hk,Kd.fresh' (Kd.N_lt (nk HO262)) k_ hk,Kd.fresh' (Kd.N_lt (nk HO265)) k_ hk,Kd.freshB (kk BK238) k_ hk⟩) _ (Nat.le_refl _)) (Below.refl _ _) (Nat.le_refl _) (by simp) ?_; (case hd => rfl); (case hg => rfl); (case hr => first | (go_simp; done) | (go_simp; rfl)); (case hp => exact (Reps.front (show Kd.FK kOp _ _ (⟨(wrap64 (1 + (Int.tmod (wrap64 (x3_1 + x7_3)) 8))),x11_4,2,(⟨0,0,0⟩ : SElem),(⟨#[]⟩ : ByteArray),([] : List (SElem)),(rd_Op (rd_LOp l0_0 x3_1) x7_3).f0,(rd_Op (rd_LOp l0_0 x3_1) x7_3).f1,t246⟩ : SOp) [.int .i64 (wrap64 (1 + (Int.tmod (wrap64 (x3_1 + x7_3)) 8))), .int .i64 x11_4, .int .i64 2, .int .i64 0, .int .i64 0, .int .i64 0, .string (⟨#[]⟩ : ByteArray), .slice none 0 0, .int .i64 ((rd_Op (rd_LOp l0_0 x3_1) x7_3).f0), .int .i64 ((rd_Op (rd_LOp l0_0 x3_1) x7_3).f1), .int .i64 t246] from (kOp_mkF _ _ (⟨(wrap64 (1 + (Int.tmod (wrap64 (x3_1 + x7_3)) 8))),x11_4,2,(⟨0,0,0⟩ : SElem),(⟨#[]⟩ : ByteArray),([] : List (SElem)),(rd_Op (rd_LOp l0_0 x3_1) x7_3).f0,(rd_Op (rd_LOp l0_0 x3_1) x7_3).f1,t246⟩ : SOp) (Nat.le_refl _) (Kd.F_nil _ _ _))) rfl (Reps.none _ _) rfl))
                              intro v269 w88 ho89 hb hg_ hnew_
                              clear hg_ hnew_
                              (first | rw [← Ny268.out] at ho89 | (simp only [Int.reduceToNat] at ho89; rw [← Ny268.out] at ho89))
                              have n0_:=Aside0.mk (Kd.N_elder' (nk HO259) (Kd.N_base ho89) hb)
                              have n1_:=Aside0.mk (Kd.N_elder' (nk HO262) (Kd.N_base ho89) hb)
                              have n2_:=Aside0.mk (Kd.N_elder' (nk HO265) (Kd.N_base ho89) hb)
                              have n3_:=Aside0.mk (Kd.N_lower ho89 (below_size (bw HB)))
                              have n4_:=bl BK238 hb
                              have n5_:=bs HB hb
                              clear HO259
                              clear HO262
                              clear HO265
                              clear BK238
                              clear HB
                              have HO259:=n0_
                              have HO262:=n1_
                              have HO265:=n2_
                              have HO270:=n3_
                              have BK238:=n4_
                              have HB:=n5_
                              clear n0_ n1_ n2_ n3_ n4_ n5_
                              clear hb ho89
                              refine hK.out _ _ ⟨(cW HB hw266_0),(cW HB hw266_1),(cW HB hw266_2),(cW HB hw266_3),(cW HB hw266_4),(cW HB hw266_5),(cW HB hw266_6),(cW HB hw266_7),(cW HB hw266_8),(cW HB hw266_9),(cW HB hw266_10)⟩ (fun hHeld => ?_)
                              clear hK K
                              refine nn 152 (h := ?_)
                              exact norm_ (by simp only [putAll,Act.put,List.setIfInBounds_toArray,List.set_cons_zero,List.set_cons_succ]) (hCont (v264,v269) _ ⟨dup11 hHeld,(by (with_reducible repeat (first | apply Kd.N_alloc | apply Kd.N_drewN | apply Kd.N_drew)); exact Kd.N_mono HO259.out (fun _ hk => ⟨hk.1.1.2,⟨hk.1.2,⟨hk.2,hk.1.1.1⟩⟩⟩)),(by (with_reducible repeat (first | apply Kd.N_alloc | apply Kd.N_drewN | apply Kd.N_drew)); exact Kd.N_mono HO262.out (fun _ hk => ⟨hk.1.2,⟨hk.2,hk.1.1⟩⟩)),(by (with_reducible repeat (first | apply Kd.N_alloc | apply Kd.N_drewN | apply Kd.N_drew)); exact Kd.N_mono HO265.out (fun _ hk => ⟨hk.1.1,⟨hk.1.2.1,⟨hk.2,hk.1.2.2⟩⟩⟩)),(nk HO270),(kk BK238),(bw HB)⟩)
                              ⟩ : Nonempty G_)) :); w6_DocToggles.bxo (G:=G_) (inferInstanceAs (Nonempty G_)))
                            skip
                            refine Kd.N_lit_step kOp _ 38 ?hg (N':=152) ?hd (xs:=([(⟨(wrap64 (1 + (Int.tmod (wrap64 (x3_1 + x7_3)) 8))),x11_4,2,(⟨0,0,0⟩ : SElem),(⟨#[]⟩ : ByteArray),([] : List (SElem)),(rd_Op (rd_LOp l0_0 x3_1) x7_3).f0,(rd_Op (rd_LOp l0_0 x3_1) x7_3).f1,t246⟩ : SOp)] : List (SOp))) (inner:=[.int .i64 (wrap64 (1 + (Int.tmod (wrap64 (x3_1 + x7_3)) 8))), .int .i64 x11_4, .int .i64 2, .int .i64 0, .int .i64 0, .int .i64 0, .string (⟨#[]⟩ : ByteArray), .slice none 0 0, .int .i64 ((rd_Op (rd_LOp l0_0 x3_1) x7_3).f0), .int .i64 ((rd_Op (rd_LOp l0_0 x3_1) x7_3).f1), .int .i64 t246]) (ok:=(fun k_ => some k_ ≠ (.slice Ao85 y257.length co85 : Value).ownBlock ∧ some k_ ≠ (v261 : Value).ownBlock ∧ k_ ≠ gb238)) (okp:=(fun k_ => some k_ ≠ (.slice Ao85 y257.length co85 : Value).ownBlock ∧ some k_ ≠ (v261 : Value).ownBlock ∧ k_ ≠ gb238)) ?hr ?hp (fun _ hk => hk) ((show ∀ k_,w86.heap.size ≤ k_ → (fun k_ => some k_ ≠ (.slice Ao85 y257.length co85 : Value).ownBlock ∧ some k_ ≠ (v261 : Value).ownBlock ∧ k_ ≠ gb238) k_ from fun k_ hk => ⟨Kd.fresh' (Kd.N_lt (nk HO259)) k_ hk,Kd.fresh' (Kd.N_lt (nk HO262)) k_ hk,Kd.freshB (kk BK238) k_ hk⟩) _ (Nat.le_refl _)) (Below.refl _ _) (Nat.le_refl _) (by simp) ?_; (case hd => rfl); (case hg => rfl); (case hr => first | (go_simp; done) | (go_simp; rfl)); (case hp => exact (Reps.front (show Kd.FK kOp _ _ (⟨(wrap64 (1 + (Int.tmod (wrap64 (x3_1 + x7_3)) 8))),x11_4,2,(⟨0,0,0⟩ : SElem),(⟨#[]⟩ : ByteArray),([] : List (SElem)),(rd_Op (rd_LOp l0_0 x3_1) x7_3).f0,(rd_Op (rd_LOp l0_0 x3_1) x7_3).f1,t246⟩ : SOp) [.int .i64 (wrap64 (1 + (Int.tmod (wrap64 (x3_1 + x7_3)) 8))), .int .i64 x11_4, .int .i64 2, .int .i64 0, .int .i64 0, .int .i64 0, .string (⟨#[]⟩ : ByteArray), .slice none 0 0, .int .i64 ((rd_Op (rd_LOp l0_0 x3_1) x7_3).f0), .int .i64 ((rd_Op (rd_LOp l0_0 x3_1) x7_3).f1), .int .i64 t246] from (kOp_mkF _ _ (⟨(wrap64 (1 + (Int.tmod (wrap64 (x3_1 + x7_3)) 8))),x11_4,2,(⟨0,0,0⟩ : SElem),(⟨#[]⟩ : ByteArray),([] : List (SElem)),(rd_Op (rd_LOp l0_0 x3_1) x7_3).f0,(rd_Op (rd_LOp l0_0 x3_1) x7_3).f1,t246⟩ : SOp) (Nat.le_refl _) (Kd.F_nil _ _ _))) rfl (Reps.none _ _) rfl))
                            intro v269 w87 ho88 hb hg_ hnew_
                            clear hg_ hnew_
                            (first | rw [← Ny268.out] at ho88 | (simp only [Int.reduceToNat] at ho88; rw [← Ny268.out] at ho88))
                            have n0_:=Aside0.mk (Kd.N_elder' (nk HO259) (Kd.N_base ho88) hb)
                            have n1_:=Aside0.mk (Kd.N_elder' (nk HO262) (Kd.N_base ho88) hb)
                            have n2_:=Aside0.mk (Kd.N_lower ho88 (below_size (bw HB)))
                            have n3_:=bl BK238 hb
                            have n4_:=bs HB hb
                            clear HO259
                            clear HO262
                            clear BK238
                            clear HB
                            have HO259:=n0_
                            have HO262:=n1_
                            have HO270:=n2_
                            have BK238:=n3_
                            have HB:=n4_
                            clear n0_ n1_ n2_ n3_ n4_
                            clear hb ho88
                            refine hK.out _ _ ⟨(cW HB hw266_0),(cW HB hw266_1),(cW HB hw266_2),(cW HB hw266_3),(cW HB hw266_4),(cW HB hw266_5),(cW HB hw266_6),(cW HB hw266_7),(cW HB hw266_8),(cW HB hw266_9),(cW HB hw266_10)⟩ (fun hHeld => ?_)
                            clear hK K
                            refine nn 152 (h := ?_)
                            refine on HT_ 1 (some 137) 131071 (h:=fun K hK => ?_)
                            refine gS Try.func10 #[.slice (some ad244) (rd_LOp l0_0 x3_1).length c240_0] (h := ?_)
                            with_reducible refine (r0_CopyOps.calls kj31 _ _ (rd_LOp l0_0 x3_1) t263 _ ?side1 ?side2 A41.out).mono ?_
                            (case side1 => exact cb HR240_0 HB)
                            (case side2 => exact HC240_0.out)
                            rintro e w89 ⟨v264,rfl,ho0,hb⟩
                            refine ⟨_,rfl, ?_⟩
                            have n0_:=Aside0.mk (Kd.N_elder' (nk HO259) (Kd.N_base (Kd.S_N ho0)) hb)
                            have n1_:=Aside0.mk (Kd.N_elder' (nk HO262) (Kd.N_base (Kd.S_N ho0)) hb)
                            have n2_:=Aside0.mk (Kd.N_elder' (nk HO270) (Kd.N_base (Kd.S_N ho0)) hb)
                            have n3_:=Aside0.mk (Kd.N_lower (Kd.N_mono (ok':=fun k_ => some k_ ≠ (.slice Ao85 y257.length co85 : Value).ownBlock ∧ some k_ ≠ (v261 : Value).ownBlock ∧ some k_ ≠ (v269 : Value).ownBlock ∧ k_ ≠ gb238) (Kd.S_N (Kd.S_bound ho0)) (fun k_ hk_ => ⟨(Kd.fresh' (Kd.N_lt (nk HO259)) k_ hk_.2.1),(Kd.fresh' (Kd.N_lt (nk HO262)) k_ hk_.2.1),(Kd.fresh' (Kd.N_lt (nk HO270)) k_ hk_.2.1),(Kd.freshB (kk BK238) k_ hk_.2.1)⟩)) (below_size (bw HB)))
                            have n4_:=bl BK238 hb
                            have n5_:=bs HB hb
                            clear HO259
                            clear HO262
                            clear HO270
                            clear BK238
                            clear HB
                            have HO259:=n0_
                            have HO262:=n1_
                            have HO270:=n2_
                            have HO265:=n3_
                            have BK238:=n4_
                            have HB:=n5_
                            clear n0_ n1_ n2_ n3_ n4_ n5_
                            (try clear hb)
                            (try clear hb2)
                            (try clear hk)
                            (try clear hi)
                            (try clear ho0)
                            refine hK.out _ _ ⟨(cW HB hw266_0),(cW HB hw266_1),(cW HB hw266_2),(cW HB hw266_3),(cW HB hw266_4),(cW HB hw266_5),(cW HB hw266_6),(cW HB hw266_7),(cW HB hw266_8),(cW HB hw266_9),(cW HB hw266_10)⟩ (fun hHeld => ?_)
                            clear hK K
                            refine nn 137 (h := ?_)
                            exact norm_ (by simp only [putAll,Act.put,List.setIfInBounds_toArray,List.set_cons_zero,List.set_cons_succ]) (hCont (v264,v269) _ ⟨dup11 hHeld,(by (with_reducible repeat (first | apply Kd.N_alloc | apply Kd.N_drewN | apply Kd.N_drew)); exact Kd.N_mono HO259.out (fun _ hk => ⟨hk.1.1.2,⟨hk.2,⟨hk.1.2,hk.1.1.1⟩⟩⟩)),(by (with_reducible repeat (first | apply Kd.N_alloc | apply Kd.N_drewN | apply Kd.N_drew)); exact Kd.N_mono HO262.out (fun _ hk => ⟨hk.2,⟨hk.1.2,hk.1.1⟩⟩)),(nk HO265),(by (with_reducible repeat (first | apply Kd.N_alloc | apply Kd.N_drewN | apply Kd.N_drew)); exact Kd.N_mono HO270.out (fun _ hk => ⟨hk.1.1,⟨hk.1.2.1,⟨hk.2,hk.1.2.2⟩⟩⟩)),(kk BK238),(bw HB)⟩)
                            ⟩ : Nonempty G_)) :); w6_DocToggles.bxo (G:=G_) (inferInstanceAs (Nonempty G_)))
                          rintro ⟨v264,v269⟩ w90 ⟨hS_,h0_,h1_,h2_,h3_,h4_,h5_⟩
                          have n0_ : Aside0 (Kd.N kOp 38 w90 w.heap.size (fun k_ => some k_ ≠ (v261 : Value).ownBlock ∧ some k_ ≠ (v264 : Value).ownBlock ∧ some k_ ≠ (v269 : Value).ownBlock ∧ k_ ≠ gb238) (.slice Ao85 y257.length co85) y257):=⟨h0_⟩
                          have n1_ : Aside0 (Kd.N kOp 38 w90 w.heap.size (fun k_ => some k_ ≠ (v264 : Value).ownBlock ∧ some k_ ≠ (v269 : Value).ownBlock ∧ k_ ≠ gb238) v261 y260):=⟨h1_⟩
                          have n2_ : Aside0 (Kd.N kOp 38 w90 w.heap.size (fun k_ => some k_ ≠ (.slice Ao85 y257.length co85 : Value).ownBlock ∧ some k_ ≠ (v261 : Value).ownBlock ∧ some k_ ≠ (v269 : Value).ownBlock ∧ k_ ≠ gb238) v264 t263):=⟨h2_⟩
                          have n3_ : Aside0 (Kd.N kOp 38 w90 w.heap.size (fun k_ => some k_ ≠ (.slice Ao85 y257.length co85 : Value).ownBlock ∧ some k_ ≠ (v261 : Value).ownBlock ∧ some k_ ≠ (v264 : Value).ownBlock ∧ k_ ≠ gb238) v269 y268):=⟨h3_⟩
                          have n4_ : Aside0 (w90.heap[gb238]? = some (.cells #[.slice (some ad240) l0_0.length c0_0, .slice A0_1 l0_1.length c0_1, .slice A0_2 l0_2.length c0_2, .slice A0_3 l0_3.length c0_3] 27 (0,0))):=⟨h4_⟩
                          have n5_ : Aside0 (Below w.heap.size w w90):=⟨h5_⟩
                          clear HO259
                          clear HO262
                          clear BK238
                          clear HB
                          clear h0_ h1_ h2_ h3_ h4_ h5_
                          have HO259:=n0_
                          have HO262:=n1_
                          have HO265:=n2_
                          have HO270:=n3_
                          have BK238:=n4_
                          have HB:=n5_
                          clear n0_ n1_ n2_ n3_ n4_ n5_
                          have hHeld : P11 w90 (ad244.add ((x7_3).toNat * 11)) (rd_Op (rd_LOp l0_0 x3_1) x7_3) A266_7 c266_7 (Q11 w90 (ad244.add ((x7_3).toNat * 11)) (rd_Op (rd_LOp l0_0 x3_1) x7_3) A266_7 c266_7):=hS_
                          obtain ⟨Ao92,co92,eo92⟩:=Kd.N_slice HO270.out
                          (first | subst eo92 | (injection eo92 with f1_ f2_ f3_; have f4_:=f1_.symm; have f5_:=f3_.symm; clear f1_ f2_ f3_; subst f4_; subst f5_))
                          refine norm_ (a' := ?_) ?_ ?_
                          rotate_left
                          ·simp only [putAll,Act.put,List.setIfInBounds_toArray,List.set_cons_zero,List.set_cons_succ]
                           rfl
                          refine on HT_ 17 (some 153) 262143 (h:=fun K hK => ?_)
                          refine Kd.N_append_rows_step kOp (w0:=w) w.heap.size (by rfl) (.tmp 137) (.tmp 152) 24 38 (.agg #[(.int .i64 0),(.int .i64 0),(.int .i64 0),(.int .i64 0),(.int .i64 0),(.int .i64 0),(.string ⟨#[]⟩),(.slice none 0 0),(.int .i64 0),(.int .i64 0),(.int .i64 0)]) 112 rfl Try.underlying24 info38 rfl (by decide) (by omega) v264 t263 y268 _ _ _ (fun k_ => some k_ ≠ (.slice Ao85 y257.length co85 : Value).ownBlock ∧ some k_ ≠ (v261 : Value).ownBlock ∧ k_ ≠ gb238) (fun k_ => ((fun k_ => some k_ ≠ (.slice Ao85 y257.length co85 : Value).ownBlock ∧ some k_ ≠ (v261 : Value).ownBlock ∧ k_ ≠ gb238)) k_ ∧ some k_ ≠ (v264 : Value).ownBlock) rfl rfl ?aO ?aR (fun _ hk => hk) ?aF ?aB ?aS ?aL ?_
                          (case aR => exact (by skip; exact Kd.N_F (Kd.N_mono (ok':=(fun k_ => ((fun k_ => some k_ ≠ (.slice Ao85 y257.length co85 : Value).ownBlock ∧ some k_ ≠ (v261 : Value).ownBlock ∧ k_ ≠ gb238)) k_ ∧ some k_ ≠ (v264 : Value).ownBlock)) (HO270.out) (fun k_ hk => ⟨⟨hk.1,⟨hk.2.1,hk.2.2.2⟩⟩,hk.2.2.1⟩))))
                          (case aB => exact (bw HB))
                          (case aF => exact (fun k_ hk => ⟨Kd.fresh' (Kd.N_lt (nk HO259)) k_ hk,Kd.fresh' (Kd.N_lt (nk HO262)) k_ hk,Kd.freshB (kk BK238) k_ hk⟩))
                          (case aO => exact (by (with_reducible repeat (first | apply Kd.N_alloc | apply Kd.N_drewN | apply Kd.N_drew)); exact Kd.N_mono HO265.out (fun _ hk => ⟨hk.1,⟨hk.2.1,hk.2.2.2⟩⟩)))
                          (case aS => exact (below_size (bw HB)))
                          (case aL => have:=LMc42.out; omega)
                          intro v272 w91 ho hb hg hat
                          rw [← Ny271.out] at ho
                          have n0_:=Aside0.mk (blk_grown (kk BK238) hg (Kd.N_ne HO265.out BK238.out (by decide)))
                          have n1_:=Aside0.mk (Kd.N_afterv (ok:=(fun k_ => some k_ ≠ (v261 : Value).ownBlock ∧ some k_ ≠ (.slice Ao92 y268.length co92 : Value).ownBlock ∧ k_ ≠ gb238)) (by (with_reducible repeat (first | apply Kd.N_alloc | apply Kd.N_drewN | apply Kd.N_drew)); exact Kd.N_mono HO259.out (fun _ hk => ⟨⟨hk.1,⟨hk.2.2.1,hk.2.2.2⟩⟩,hk.2.1⟩)) hg hat)
                          have n2_:=Aside0.mk (Kd.N_afterv (ok:=(fun k_ => some k_ ≠ (.slice Ao92 y268.length co92 : Value).ownBlock ∧ k_ ≠ gb238)) (by (with_reducible repeat (first | apply Kd.N_alloc | apply Kd.N_drewN | apply Kd.N_drew)); exact Kd.N_mono HO262.out (fun _ hk => ⟨⟨hk.2.1,hk.2.2⟩,hk.1⟩)) hg hat)
                          have n3_:=Aside0.mk (Kd.N_afterv (ok:=(fun k_ => some k_ ≠ (.slice Ao85 y257.length co85 : Value).ownBlock ∧ some k_ ≠ (v261 : Value).ownBlock ∧ k_ ≠ gb238)) (by (with_reducible repeat (first | apply Kd.N_alloc | apply Kd.N_drewN | apply Kd.N_drew)); exact Kd.N_mono HO270.out (fun _ hk => ⟨⟨hk.1,⟨hk.2.1,hk.2.2.2⟩⟩,hk.2.2.1⟩)) hg hat)
                          have n4_:=Aside0.mk (hb)
                          have n5_:=Aside0.mk (ho)
                          clear BK238
                          clear HO259
                          clear HO262
                          clear HO270
                          clear HB
                          clear HO265
                          have BK238:=n0_
                          have HO259:=n1_
                          have HO262:=n2_
                          have HO270:=n3_
                          have HB:=n4_
                          have HO273:=n5_
                          clear n0_ n1_ n2_ n3_ n4_ n5_
                          clear ho hb hg hat
                          refine hK.out _ _ ⟨(cW HB hw266_0),(cW HB hw266_1),(cW HB hw266_2),(cW HB hw266_3),(cW HB hw266_4),(cW HB hw266_5),(cW HB hw266_6),(cW HB hw266_7),(cW HB hw266_8),(cW HB hw266_9),(cW HB hw266_10)⟩ (fun hHeld => ?_)
                          clear hK K
                          refine nn 153 (h := ?_)
                          refine pu HT_ 18 14 524287 (h := ?_)
                          refine dn HT_ (h := ?_)
                          obtain ⟨Ao93,co93,eo93⟩:=Kd.N_slice HO273.out
                          subst eo93
                          try go_wp2
                          have n0_:=Aside0.mk (Kd.N_drew HO259.out)
                          have n1_:=Aside0.mk (Kd.N_drew HO262.out)
                          have n2_:=Aside0.mk (Kd.N_drew HO270.out)
                          have n3_:=Aside0.mk (Kd.N_drew HO273.out)
                          have n4_:=Aside0.mk (blk_drew BK238.out)
                          have n5_:=Aside0.mk (below_drew1 HB.out)
                          clear HO259
                          clear HO262
                          clear HO270
                          clear HO273
                          clear BK238
                          clear HB
                          have HO259:=n0_
                          have HO262:=n1_
                          have HO270:=n2_
                          have HO273:=n3_
                          have BK238:=n4_
                          have HB:=n5_
                          clear n0_ n1_ n2_ n3_ n4_ n5_
                          have p277 : 0 ≤ (x7_3 : Int):=od
                          have q277 : x7_3 < ((rd_LOp l0_0 x3_1).length : Int):=od
                          obtain ⟨ad277,A277_7,c277_7,e277,hx277_0,hx277_1,hx277_2,hx277_3,hx277_4,hx277_5,hx277_6,hx277_7,hx277_8,hx277_9,hx277_10,hl277_7,hi277_7⟩:=at_Op HR240_0.out x7_3 p277 q277
                          have hw277_10:=hx277_10
                          have hw277_9:=hx277_9
                          have hw277_8:=hx277_8
                          have hw277_7:=hx277_7
                          have hw277_6:=hx277_6
                          have hw277_5:=hx277_5
                          have hw277_4:=hx277_4
                          have hw277_3:=hx277_3
                          have hw277_2:=hx277_2
                          have hw277_1:=hx277_1
                          have hw277_0:=hx277_0
                          obtain rfl : ad244 = ad277:=(by injection e277)
                          replace hx277_0:=cl HB hx277_0
                          replace hx277_1:=cl HB hx277_1
                          replace hx277_2:=cl HB hx277_2
                          replace hx277_3:=cl HB hx277_3
                          replace hx277_4:=cl HB hx277_4
                          replace hx277_5:=cl HB hx277_5
                          replace hx277_6:=cl HB hx277_6
                          replace hx277_7:=cl HB hx277_7
                          replace hx277_8:=cl HB hx277_8
                          replace hx277_9:=cl HB hx277_9
                          replace hx277_10:=cl HB hx277_10
                          have HR277_7:=Aside0.mk hi277_7
                          have HC277_7:=Aside0.mk hl277_7
                          clear hi277_7 hl277_7
                          replace p277:=eq_true p277
                          replace q277:=eq_true q277
                          refine stP (fun w' => Q11 w' (ad244.add ((x7_3).toNat * 11)) (rd_Op (rd_LOp l0_0 x3_1) x7_3) A277_7 c277_7) 21 ⟨(cW HB hw277_0),(cW HB hw277_1),(cW HB hw277_2),(cW HB hw277_3),(cW HB hw277_4),(cW HB hw277_5),(cW HB hw277_6),(cW HB hw277_7),(cW HB hw277_8),(cW HB hw277_9),(cW HB hw277_10)⟩ (h:=fun hHeld => ?_); refine with_tabW w6_DocToggles.tab24 w6_DocToggles.bits24 (fun HT_ HW_ => ?_)
                          generalize w91.drew = w94 at HO259 HO262 HO270 HO273 BK238 HB HR277_7 HR277_7 hx277_0 hx277_1 hx277_10 hx277_2 hx277_3 hx277_4 hx277_5 hx277_6 hx277_7 hx277_8 hx277_9 hx277_0 hx277_1 hx277_10 hx277_2 hx277_3 hx277_4 hx277_5 hx277_6 hx277_7 hx277_8 hx277_9 hHeld ⊢
                          refine pu HT_ 0 154 1 (h := ?_)
                          refine pu HT_ 2 156 5 (h := ?_)
                          refine pu HT_ 3 157 13 (h := ?_)
                          refine pu HT_ 4 158 29 (h := ?_)
                          refine pu HT_ 5 159 61 (h := ?_)
                          refine pu HT_ 6 160 125 (h := ?_)
                          refine pu HT_ 7 161 253 (h := ?_)
                          refine pu HT_ 8 162 509 (h := ?_)
                          refine pu HT_ 10 164 1533 (h := ?_)
                          refine pu HT_ 11 165 3581 (h := ?_)
                          refine pu HT_ 12 166 7677 (h := ?_)
                          refine pu HT_ 13 167 15869 (h := ?_)
                          refine pu HT_ 15 169 48637 (h := ?_)
                          refine pu HT_ 16 170 114173 (h := ?_)
                          refine tk HT_ HW_ hHeld 9 163 114685 (h := ?_)
                          refine tk HT_ HW_ hHeld 14 168 131069 (h := ?_)
                          refine pu HT_ 17 171 262141 (h := ?_)
                          refine join_ (σ:=Value × Value) 2 (bA 21 524287) (fun s_ => [(155,s_.1),(172,s_.2)]) (fun s_ w' => (P11 w' (ad244.add ((x7_3).toNat * 11)) (rd_Op (rd_LOp l0_0 x3_1) x7_3) A277_7 c277_7 (Q11 w' (ad244.add ((x7_3).toNat * 11)) (rd_Op (rd_LOp l0_0 x3_1) x7_3) A277_7 c277_7)) ∧ (Kd.N kOp 38 w' w.heap.size (fun k_ => some k_ ≠ (v261 : Value).ownBlock ∧ some k_ ≠ (.slice Ao92 y268.length co92 : Value).ownBlock ∧ some k_ ≠ (.slice Ao93 y271.length co93 : Value).ownBlock ∧ some k_ ≠ (s_.1 : Value).ownBlock ∧ some k_ ≠ (s_.2 : Value).ownBlock ∧ k_ ≠ gb238) (.slice Ao85 y257.length co85) y257) ∧ (Kd.N kOp 38 w' w.heap.size (fun k_ => some k_ ≠ (.slice Ao92 y268.length co92 : Value).ownBlock ∧ some k_ ≠ (.slice Ao93 y271.length co93 : Value).ownBlock ∧ some k_ ≠ (s_.1 : Value).ownBlock ∧ some k_ ≠ (s_.2 : Value).ownBlock ∧ k_ ≠ gb238) v261 y260) ∧ (Kd.N kOp 38 w' w.heap.size (fun k_ => some k_ ≠ (.slice Ao85 y257.length co85 : Value).ownBlock ∧ some k_ ≠ (v261 : Value).ownBlock ∧ some k_ ≠ (.slice Ao93 y271.length co93 : Value).ownBlock ∧ some k_ ≠ (s_.1 : Value).ownBlock ∧ some k_ ≠ (s_.2 : Value).ownBlock ∧ k_ ≠ gb238) (.slice Ao92 y268.length co92) y268) ∧ (Kd.N kOp 38 w' w.heap.size (fun k_ => some k_ ≠ (.slice Ao85 y257.length co85 : Value).ownBlock ∧ some k_ ≠ (v261 : Value).ownBlock ∧ some k_ ≠ (s_.1 : Value).ownBlock ∧ some k_ ≠ (s_.2 : Value).ownBlock ∧ k_ ≠ gb238) (.slice Ao93 y271.length co93) y271) ∧ (Kd.N kOp 38 w' w.heap.size (fun k_ => some k_ ≠ (.slice Ao85 y257.length co85 : Value).ownBlock ∧ some k_ ≠ (v261 : Value).ownBlock ∧ some k_ ≠ (.slice Ao92 y268.length co92 : Value).ownBlock ∧ some k_ ≠ (.slice Ao93 y271.length co93 : Value).ownBlock ∧ some k_ ≠ (s_.2 : Value).ownBlock ∧ k_ ≠ gb238) s_.1 t274) ∧ (Kd.N kOp 38 w' w.heap.size (fun k_ => some k_ ≠ (.slice Ao85 y257.length co85 : Value).ownBlock ∧ some k_ ≠ (v261 : Value).ownBlock ∧ some k_ ≠ (.slice Ao92 y268.length co92 : Value).ownBlock ∧ some k_ ≠ (.slice Ao93 y271.length co93 : Value).ownBlock ∧ some k_ ≠ (s_.1 : Value).ownBlock ∧ k_ ≠ gb238) s_.2 y279) ∧ (w'.heap[gb238]? = some (.cells #[.slice (some ad240) l0_0.length c0_0, .slice A0_1 l0_1.length c0_1, .slice A0_2 l0_2.length c0_2, .slice A0_3 l0_3.length c0_3] 27 (0,0))) ∧ (Below w.heap.size w w')) ?_ ?_
                          rotate_left
                          ·show (let G_ : Prop:=_; G_)
                           intro G_
                           exact (let_tmp i_ : Nonempty G_:=(((⟨by
                            subst G_
                            intro hCont
                            refine two_ (i:=1) (j:=18) (Ni:=some 155) (Nj:=some 172) (bA 21 262143) (bA 21 524285) rfl rfl rfl rfl (two_of HT_.out (by kernel_rfl)) (by decide) (by decide) (fun K hK => ?_) (fun K hK => ?_)
                            ·show (let G_ : Prop:=_; G_)
                             intro G_
                             exact (let_tmp i_ : Nonempty G_:=(((⟨by
                              subst G_
                              skip
                              refine gS Try.func10 #[.slice Ao93 y271.length co93] (h := ?_)
                              with_reducible refine (r0_CopyOps.calls kj31 _ _ y271 t274 _ ?side1 ?side2 A43.out).mono ?_
                              (case side1 => exact cn HO273)
                              (case side2 => exact (Kd.N_reads' HO273.out).2.1)
                              rintro e w95 ⟨v275,rfl,ho0,hb⟩
                              refine ⟨_,rfl, ?_⟩
                              have n0_:=Aside0.mk (Kd.N_elder' (nk HO259) (Kd.N_base (Kd.S_N ho0)) hb)
                              have n1_:=Aside0.mk (Kd.N_elder' (nk HO262) (Kd.N_base (Kd.S_N ho0)) hb)
                              have n2_:=Aside0.mk (Kd.N_elder' (nk HO270) (Kd.N_base (Kd.S_N ho0)) hb)
                              have n3_:=Aside0.mk (Kd.N_elder' (nk HO273) (Kd.N_base (Kd.S_N ho0)) hb)
                              have n4_:=Aside0.mk (Kd.N_lower (Kd.N_mono (ok':=fun k_ => some k_ ≠ (.slice Ao85 y257.length co85 : Value).ownBlock ∧ some k_ ≠ (v261 : Value).ownBlock ∧ some k_ ≠ (.slice Ao92 y268.length co92 : Value).ownBlock ∧ some k_ ≠ (.slice Ao93 y271.length co93 : Value).ownBlock ∧ k_ ≠ gb238) (Kd.S_N (Kd.S_bound ho0)) (fun k_ hk_ => ⟨(Kd.fresh' (Kd.N_lt (nk HO259)) k_ hk_.2.1),(Kd.fresh' (Kd.N_lt (nk HO262)) k_ hk_.2.1),(Kd.fresh' (Kd.N_lt (nk HO270)) k_ hk_.2.1),(Kd.fresh' (Kd.N_lt (nk HO273)) k_ hk_.2.1),(Kd.freshB (kk BK238) k_ hk_.2.1)⟩)) (below_size (bw HB)))
                              have n5_:=bl BK238 hb
                              have n6_:=bs HB hb
                              clear HO259
                              clear HO262
                              clear HO270
                              clear HO273
                              clear BK238
                              clear HB
                              have HO259:=n0_
                              have HO262:=n1_
                              have HO270:=n2_
                              have HO273:=n3_
                              have HO276:=n4_
                              have BK238:=n5_
                              have HB:=n6_
                              clear n0_ n1_ n2_ n3_ n4_ n5_ n6_
                              (try clear hb)
                              (try clear hb2)
                              (try clear hk)
                              (try clear hi)
                              (try clear ho0)
                              refine hK.out _ _ ⟨(cW HB hw277_0),(cW HB hw277_1),(cW HB hw277_2),(cW HB hw277_3),(cW HB hw277_4),(cW HB hw277_5),(cW HB hw277_6),(cW HB hw277_7),(cW HB hw277_8),(cW HB hw277_9),(cW HB hw277_10)⟩ (fun hHeld => ?_)
                              clear hK K
                              refine nn 155 (h := ?_)
                              refine on HT_ 18 (some 172) 524287 (h:=fun K hK => ?_)
                              refine Kd.N_lit_step kOp _ 38 ?hg (N':=172) ?hd (xs:=([(⟨(wrap64 (1 + (Int.tmod (wrap64 (x3_1 + x7_3)) 8))),wrap64 (x11_4 + 1),2,(⟨0,0,0⟩ : SElem),(⟨#[]⟩ : ByteArray),([] : List (SElem)),(rd_Op (rd_LOp l0_0 x3_1) x7_3).f0,(rd_Op (rd_LOp l0_0 x3_1) x7_3).f1,wrap64 (t246 + 1)⟩ : SOp)] : List (SOp))) (inner:=[.int .i64 (wrap64 (1 + (Int.tmod (wrap64 (x3_1 + x7_3)) 8))), .int .i64 (wrap64 (x11_4 + 1)), .int .i64 2, .int .i64 0, .int .i64 0, .int .i64 0, .string (⟨#[]⟩ : ByteArray), .slice none 0 0, .int .i64 ((rd_Op (rd_LOp l0_0 x3_1) x7_3).f0), .int .i64 ((rd_Op (rd_LOp l0_0 x3_1) x7_3).f1), .int .i64 (wrap64 (t246 + 1))]) (ok:=(fun k_ => some k_ ≠ (.slice Ao85 y257.length co85 : Value).ownBlock ∧ some k_ ≠ (v261 : Value).ownBlock ∧ some k_ ≠ (.slice Ao92 y268.length co92 : Value).ownBlock ∧ some k_ ≠ (.slice Ao93 y271.length co93 : Value).ownBlock ∧ some k_ ≠ (v275 : Value).ownBlock ∧ k_ ≠ gb238)) (okp:=(fun k_ => some k_ ≠ (.slice Ao85 y257.length co85 : Value).ownBlock ∧ some k_ ≠ (v261 : Value).ownBlock ∧ some k_ ≠ (.slice Ao92 y268.length co92 : Value).ownBlock ∧ some k_ ≠ (.slice Ao93 y271.length co93 : Value).ownBlock ∧ some k_ ≠ (v275 : Value).ownBlock ∧ k_ ≠ gb238)) ?hr ?hp (fun _ hk => hk) ((show ∀ k_,w95.heap.size ≤ k_ → (fun k_ => some k_ ≠ (.slice Ao85 y257.length co85 : Value).ownBlock ∧ some k_ ≠ (v261 : Value).ownBlock ∧ some k_ ≠ (.slice Ao92 y268.length co92 : Value).ownBlock ∧ some k_ ≠ (.slice Ao93 y271.length co93 : Value).ownBlock ∧ some k_ ≠ (v275 : Value).ownBlock ∧ k_ ≠ gb238) k_ from fun k_ hk => ⟨Kd.fresh' (Kd.N_lt (nk HO259)) k_ hk,Kd.fresh' (Kd.N_lt (nk HO262)) k_ hk,Kd.fresh' (Kd.N_lt (nk HO270)) k_ hk,Kd.fresh' (Kd.N_lt (nk HO273)) k_ hk,Kd.fresh' (Kd.N_lt (nk HO276)) k_ hk,Kd.freshB (kk BK238) k_ hk⟩) _ (Nat.le_refl _)) (Below.refl _ _) (Nat.le_refl _) (by simp) ?_; (case hd => rfl); (case hg => rfl); (case hr => first | (go_simp; done) | (go_simp; rfl)); (case hp => exact (Reps.front (show Kd.FK kOp _ _ (⟨(wrap64 (1 + (Int.tmod (wrap64 (x3_1 + x7_3)) 8))),wrap64 (x11_4 + 1),2,(⟨0,0,0⟩ : SElem),(⟨#[]⟩ : ByteArray),([] : List (SElem)),(rd_Op (rd_LOp l0_0 x3_1) x7_3).f0,(rd_Op (rd_LOp l0_0 x3_1) x7_3).f1,wrap64 (t246 + 1)⟩ : SOp) [.int .i64 (wrap64 (1 + (Int.tmod (wrap64 (x3_1 + x7_3)) 8))), .int .i64 (wrap64 (x11_4 + 1)), .int .i64 2, .int .i64 0, .int .i64 0, .int .i64 0, .string (⟨#[]⟩ : ByteArray), .slice none 0 0, .int .i64 ((rd_Op (rd_LOp l0_0 x3_1) x7_3).f0), .int .i64 ((rd_Op (rd_LOp l0_0 x3_1) x7_3).f1), .int .i64 (wrap64 (t246 + 1))] from (kOp_mkF _ _ (⟨(wrap64 (1 + (Int.tmod (wrap64 (x3_1 + x7_3)) 8))),wrap64 (x11_4 + 1),2,(⟨0,0,0⟩ : SElem),(⟨#[]⟩ : ByteArray),([] : List (SElem)),(rd_Op (rd_LOp l0_0 x3_1) x7_3).f0,(rd_Op (rd_LOp l0_0 x3_1) x7_3).f1,wrap64 (t246 + 1)⟩ : SOp) (Nat.le_refl _) (Kd.F_nil _ _ _))) rfl (Reps.none _ _) rfl))
                              intro v280 w96 ho97 hb hg_ hnew_
                              clear hg_ hnew_
                              (first | rw [← Ny279.out] at ho97 | (simp only [Int.reduceToNat] at ho97; rw [← Ny279.out] at ho97))
                              have n0_:=Aside0.mk (Kd.N_elder' (nk HO259) (Kd.N_base ho97) hb)
                              have n1_:=Aside0.mk (Kd.N_elder' (nk HO262) (Kd.N_base ho97) hb)
                              have n2_:=Aside0.mk (Kd.N_elder' (nk HO270) (Kd.N_base ho97) hb)
                              have n3_:=Aside0.mk (Kd.N_elder' (nk HO273) (Kd.N_base ho97) hb)
                              have n4_:=Aside0.mk (Kd.N_elder' (nk HO276) (Kd.N_base ho97) hb)
                              have n5_:=Aside0.mk (Kd.N_lower ho97 (below_size (bw HB)))
                              have n6_:=bl BK238 hb
                              have n7_:=bs HB hb
                              clear HO259
                              clear HO262
                              clear HO270
                              clear HO273
                              clear HO276
                              clear BK238
                              clear HB
                              have HO259:=n0_
                              have HO262:=n1_
                              have HO270:=n2_
                              have HO273:=n3_
                              have HO276:=n4_
                              have HO281:=n5_
                              have BK238:=n6_
                              have HB:=n7_
                              clear n0_ n1_ n2_ n3_ n4_ n5_ n6_ n7_
                              clear hb ho97
                              refine hK.out _ _ ⟨(cW HB hw277_0),(cW HB hw277_1),(cW HB hw277_2),(cW HB hw277_3),(cW HB hw277_4),(cW HB hw277_5),(cW HB hw277_6),(cW HB hw277_7),(cW HB hw277_8),(cW HB hw277_9),(cW HB hw277_10)⟩ (fun hHeld => ?_)
                              clear hK K
                              refine nn 172 (h := ?_)
                              exact norm_ (by simp only [putAll,Act.put,List.setIfInBounds_toArray,List.set_cons_zero,List.set_cons_succ]) (hCont (v275,v280) _ ⟨dup11 hHeld,(by (with_reducible repeat (first | apply Kd.N_alloc | apply Kd.N_drewN | apply Kd.N_drew)); exact Kd.N_mono HO259.out (fun _ hk => ⟨hk.1.1.1.1,⟨hk.1.1.1.2.1,⟨hk.1.1.2,⟨hk.1.2,⟨hk.2,hk.1.1.1.2.2⟩⟩⟩⟩⟩)),(by (with_reducible repeat (first | apply Kd.N_alloc | apply Kd.N_drewN | apply Kd.N_drew)); exact Kd.N_mono HO262.out (fun _ hk => ⟨hk.1.1.1.1,⟨hk.1.1.2,⟨hk.1.2,⟨hk.2,hk.1.1.1.2⟩⟩⟩⟩)),(by (with_reducible repeat (first | apply Kd.N_alloc | apply Kd.N_drewN | apply Kd.N_drew)); exact Kd.N_mono HO270.out (fun _ hk => ⟨hk.1.1.1.1,⟨hk.1.1.1.2.1,⟨hk.1.1.2,⟨hk.1.2,⟨hk.2,hk.1.1.1.2.2⟩⟩⟩⟩⟩)),(by (with_reducible repeat (first | apply Kd.N_alloc | apply Kd.N_drewN | apply Kd.N_drew)); exact Kd.N_mono HO273.out (fun _ hk => ⟨hk.1.1.1,⟨hk.1.1.2.1,⟨hk.1.2,⟨hk.2,hk.1.1.2.2⟩⟩⟩⟩)),(by (with_reducible repeat (first | apply Kd.N_alloc | apply Kd.N_drewN | apply Kd.N_drew)); exact Kd.N_mono HO276.out (fun _ hk => ⟨hk.1.1,⟨hk.1.2.1,⟨hk.1.2.2.1,⟨hk.1.2.2.2.1,⟨hk.2,hk.1.2.2.2.2⟩⟩⟩⟩⟩)),(nk HO281),(kk BK238),(bw HB)⟩)
                              ⟩ : Nonempty G_)) :); w6_DocToggles.bxo (G:=G_) (inferInstanceAs (Nonempty G_)))
                            skip
                            refine Kd.N_lit_step kOp _ 38 ?hg (N':=172) ?hd (xs:=([(⟨(wrap64 (1 + (Int.tmod (wrap64 (x3_1 + x7_3)) 8))),wrap64 (x11_4 + 1),2,(⟨0,0,0⟩ : SElem),(⟨#[]⟩ : ByteArray),([] : List (SElem)),(rd_Op (rd_LOp l0_0 x3_1) x7_3).f0,(rd_Op (rd_LOp l0_0 x3_1) x7_3).f1,wrap64 (t246 + 1)⟩ : SOp)] : List (SOp))) (inner:=[.int .i64 (wrap64 (1 + (Int.tmod (wrap64 (x3_1 + x7_3)) 8))), .int .i64 (wrap64 (x11_4 + 1)), .int .i64 2, .int .i64 0, .int .i64 0, .int .i64 0, .string (⟨#[]⟩ : ByteArray), .slice none 0 0, .int .i64 ((rd_Op (rd_LOp l0_0 x3_1) x7_3).f0), .int .i64 ((rd_Op (rd_LOp l0_0 x3_1) x7_3).f1), .int .i64 (wrap64 (t246 + 1))]) (ok:=(fun k_ => some k_ ≠ (.slice Ao85 y257.length co85 : Value).ownBlock ∧ some k_ ≠ (v261 : Value).ownBlock ∧ some k_ ≠ (.slice Ao92 y268.length co92 : Value).ownBlock ∧ some k_ ≠ (.slice Ao93 y271.length co93 : Value).ownBlock ∧ k_ ≠ gb238)) (okp:=(fun k_ => some k_ ≠ (.slice Ao85 y257.length co85 : Value).ownBlock ∧ some k_ ≠ (v261 : Value).ownBlock ∧ some k_ ≠ (.slice Ao92 y268.length co92 : Value).ownBlock ∧ some k_ ≠ (.slice Ao93 y271.length co93 : Value).ownBlock ∧ k_ ≠ gb238)) ?hr ?hp (fun _ hk => hk) ((show ∀ k_,w94.heap.size ≤ k_ → (fun k_ => some k_ ≠ (.slice Ao85 y257.length co85 : Value).ownBlock ∧ some k_ ≠ (v261 : Value).ownBlock ∧ some k_ ≠ (.slice Ao92 y268.length co92 : Value).ownBlock ∧ some k_ ≠ (.slice Ao93 y271.length co93 : Value).ownBlock ∧ k_ ≠ gb238) k_ from fun k_ hk => ⟨Kd.fresh' (Kd.N_lt (nk HO259)) k_ hk,Kd.fresh' (Kd.N_lt (nk HO262)) k_ hk,Kd.fresh' (Kd.N_lt (nk HO270)) k_ hk,Kd.fresh' (Kd.N_lt (nk HO273)) k_ hk,Kd.freshB (kk BK238) k_ hk⟩) _ (Nat.le_refl _)) (Below.refl _ _) (Nat.le_refl _) (by simp) ?_; (case hd => rfl); (case hg => rfl); (case hr => first | (go_simp; done) | (go_simp; rfl)); (case hp => exact (Reps.front (show Kd.FK kOp _ _ (⟨(wrap64 (1 + (Int.tmod (wrap64 (x3_1 + x7_3)) 8))),wrap64 (x11_4 + 1),2,(⟨0,0,0⟩ : SElem),(⟨#[]⟩ : ByteArray),([] : List (SElem)),(rd_Op (rd_LOp l0_0 x3_1) x7_3).f0,(rd_Op (rd_LOp l0_0 x3_1) x7_3).f1,wrap64 (t246 + 1)⟩ : SOp) [.int .i64 (wrap64 (1 + (Int.tmod (wrap64 (x3_1 + x7_3)) 8))), .int .i64 (wrap64 (x11_4 + 1)), .int .i64 2, .int .i64 0, .int .i64 0, .int .i64 0, .string (⟨#[]⟩ : ByteArray), .slice none 0 0, .int .i64 ((rd_Op (rd_LOp l0_0 x3_1) x7_3).f0), .int .i64 ((rd_Op (rd_LOp l0_0 x3_1) x7_3).f1), .int .i64 (wrap64 (t246 + 1))] from (kOp_mkF _ _ (⟨(wrap64 (1 + (Int.tmod (wrap64 (x3_1 + x7_3)) 8))),wrap64 (x11_4 + 1),2,(⟨0,0,0⟩ : SElem),(⟨#[]⟩ : ByteArray),([] : List (SElem)),(rd_Op (rd_LOp l0_0 x3_1) x7_3).f0,(rd_Op (rd_LOp l0_0 x3_1) x7_3).f1,wrap64 (t246 + 1)⟩ : SOp) (Nat.le_refl _) (Kd.F_nil _ _ _))) rfl (Reps.none _ _) rfl))
                            intro v280 w95 ho96 hb hg_ hnew_
                            clear hg_ hnew_
                            (first | rw [← Ny279.out] at ho96 | (simp only [Int.reduceToNat] at ho96; rw [← Ny279.out] at ho96))
                            have n0_:=Aside0.mk (Kd.N_elder' (nk HO259) (Kd.N_base ho96) hb)
                            have n1_:=Aside0.mk (Kd.N_elder' (nk HO262) (Kd.N_base ho96) hb)
                            have n2_:=Aside0.mk (Kd.N_elder' (nk HO270) (Kd.N_base ho96) hb)
                            have n3_:=Aside0.mk (Kd.N_elder' (nk HO273) (Kd.N_base ho96) hb)
                            have n4_:=Aside0.mk (Kd.N_lower ho96 (below_size (bw HB)))
                            have n5_:=bl BK238 hb
                            have n6_:=bs HB hb
                            clear HO259
                            clear HO262
                            clear HO270
                            clear HO273
                            clear BK238
                            clear HB
                            have HO259:=n0_
                            have HO262:=n1_
                            have HO270:=n2_
                            have HO273:=n3_
                            have HO281:=n4_
                            have BK238:=n5_
                            have HB:=n6_
                            clear n0_ n1_ n2_ n3_ n4_ n5_ n6_
                            clear hb ho96
                            refine hK.out _ _ ⟨(cW HB hw277_0),(cW HB hw277_1),(cW HB hw277_2),(cW HB hw277_3),(cW HB hw277_4),(cW HB hw277_5),(cW HB hw277_6),(cW HB hw277_7),(cW HB hw277_8),(cW HB hw277_9),(cW HB hw277_10)⟩ (fun hHeld => ?_)
                            clear hK K
                            refine nn 172 (h := ?_)
                            refine on HT_ 1 (some 155) 524287 (h:=fun K hK => ?_)
                            refine gS Try.func10 #[.slice Ao93 y271.length co93] (h := ?_)
                            with_reducible refine (r0_CopyOps.calls kj31 _ _ y271 t274 _ ?side1 ?side2 A43.out).mono ?_
                            (case side1 => exact cn HO273)
                            (case side2 => exact (Kd.N_reads' HO273.out).2.1)
                            rintro e w97 ⟨v275,rfl,ho0,hb⟩
                            refine ⟨_,rfl, ?_⟩
                            have n0_:=Aside0.mk (Kd.N_elder' (nk HO259) (Kd.N_base (Kd.S_N ho0)) hb)
                            have n1_:=Aside0.mk (Kd.N_elder' (nk HO262) (Kd.N_base (Kd.S_N ho0)) hb)
                            have n2_:=Aside0.mk (Kd.N_elder' (nk HO270) (Kd.N_base (Kd.S_N ho0)) hb)
                            have n3_:=Aside0.mk (Kd.N_elder' (nk HO273) (Kd.N_base (Kd.S_N ho0)) hb)
                            have n4_:=Aside0.mk (Kd.N_elder' (nk HO281) (Kd.N_base (Kd.S_N ho0)) hb)
                            have n5_:=Aside0.mk (Kd.N_lower (Kd.N_mono (ok':=fun k_ => some k_ ≠ (.slice Ao85 y257.length co85 : Value).ownBlock ∧ some k_ ≠ (v261 : Value).ownBlock ∧ some k_ ≠ (.slice Ao92 y268.length co92 : Value).ownBlock ∧ some k_ ≠ (.slice Ao93 y271.length co93 : Value).ownBlock ∧ some k_ ≠ (v280 : Value).ownBlock ∧ k_ ≠ gb238) (Kd.S_N (Kd.S_bound ho0)) (fun k_ hk_ => ⟨(Kd.fresh' (Kd.N_lt (nk HO259)) k_ hk_.2.1),(Kd.fresh' (Kd.N_lt (nk HO262)) k_ hk_.2.1),(Kd.fresh' (Kd.N_lt (nk HO270)) k_ hk_.2.1),(Kd.fresh' (Kd.N_lt (nk HO273)) k_ hk_.2.1),(Kd.fresh' (Kd.N_lt (nk HO281)) k_ hk_.2.1),(Kd.freshB (kk BK238) k_ hk_.2.1)⟩)) (below_size (bw HB)))
                            have n6_:=bl BK238 hb
                            have n7_:=bs HB hb
                            clear HO259
                            clear HO262
                            clear HO270
                            clear HO273
                            clear HO281
                            clear BK238
                            clear HB
                            have HO259:=n0_
                            have HO262:=n1_
                            have HO270:=n2_
                            have HO273:=n3_
                            have HO281:=n4_
                            have HO276:=n5_
                            have BK238:=n6_
                            have HB:=n7_
                            clear n0_ n1_ n2_ n3_ n4_ n5_ n6_ n7_
                            (try clear hb)
                            (try clear hb2)
                            (try clear hk)
                            (try clear hi)
                            (try clear ho0)
                            refine hK.out _ _ ⟨(cW HB hw277_0),(cW HB hw277_1),(cW HB hw277_2),(cW HB hw277_3),(cW HB hw277_4),(cW HB hw277_5),(cW HB hw277_6),(cW HB hw277_7),(cW HB hw277_8),(cW HB hw277_9),(cW HB hw277_10)⟩ (fun hHeld => ?_)
                            clear hK K
                            refine nn 155 (h := ?_)
                            exact norm_ (by simp only [putAll,Act.put,List.setIfInBounds_toArray,List.set_cons_zero,List.set_cons_succ]) (hCont (v275,v280) _ ⟨dup11 hHeld,(by (with_reducible repeat (first | apply Kd.N_alloc | apply Kd.N_drewN | apply Kd.N_drew)); exact Kd.N_mono HO259.out (fun _ hk => ⟨hk.1.1.1.1,⟨hk.1.1.1.2.1,⟨hk.1.1.2,⟨hk.2,⟨hk.1.2,hk.1.1.1.2.2⟩⟩⟩⟩⟩)),(by (with_reducible repeat (first | apply Kd.N_alloc | apply Kd.N_drewN | apply Kd.N_drew)); exact Kd.N_mono HO262.out (fun _ hk => ⟨hk.1.1.1.1,⟨hk.1.1.2,⟨hk.2,⟨hk.1.2,hk.1.1.1.2⟩⟩⟩⟩)),(by (with_reducible repeat (first | apply Kd.N_alloc | apply Kd.N_drewN | apply Kd.N_drew)); exact Kd.N_mono HO270.out (fun _ hk => ⟨hk.1.1.1.1,⟨hk.1.1.1.2.1,⟨hk.1.1.2,⟨hk.2,⟨hk.1.2,hk.1.1.1.2.2⟩⟩⟩⟩⟩)),(by (with_reducible repeat (first | apply Kd.N_alloc | apply Kd.N_drewN | apply Kd.N_drew)); exact Kd.N_mono HO273.out (fun _ hk => ⟨hk.1.1.1,⟨hk.1.1.2.1,⟨hk.2,⟨hk.1.2,hk.1.1.2.2⟩⟩⟩⟩)),(nk HO276),(by (with_reducible repeat (first | apply Kd.N_alloc | apply Kd.N_drewN | apply Kd.N_drew)); exact Kd.N_mono HO281.out (fun _ hk => ⟨hk.1.1,⟨hk.1.2.1,⟨hk.1.2.2.1,⟨hk.1.2.2.2.1,⟨hk.2,hk.1.2.2.2.2⟩⟩⟩⟩⟩)),(kk BK238),(bw HB)⟩)
                            ⟩ : Nonempty G_)) :); w6_DocToggles.bxo (G:=G_) (inferInstanceAs (Nonempty G_)))
                          rintro ⟨v275,v280⟩ w98 ⟨hS_,h0_,h1_,h2_,h3_,h4_,h5_,h6_,h7_⟩
                          have n0_ : Aside0 (Kd.N kOp 38 w98 w.heap.size (fun k_ => some k_ ≠ (v261 : Value).ownBlock ∧ some k_ ≠ (.slice Ao92 y268.length co92 : Value).ownBlock ∧ some k_ ≠ (.slice Ao93 y271.length co93 : Value).ownBlock ∧ some k_ ≠ (v275 : Value).ownBlock ∧ some k_ ≠ (v280 : Value).ownBlock ∧ k_ ≠ gb238) (.slice Ao85 y257.length co85) y257):=⟨h0_⟩
                          have n1_ : Aside0 (Kd.N kOp 38 w98 w.heap.size (fun k_ => some k_ ≠ (.slice Ao92 y268.length co92 : Value).ownBlock ∧ some k_ ≠ (.slice Ao93 y271.length co93 : Value).ownBlock ∧ some k_ ≠ (v275 : Value).ownBlock ∧ some k_ ≠ (v280 : Value).ownBlock ∧ k_ ≠ gb238) v261 y260):=⟨h1_⟩
                          have n2_ : Aside0 (Kd.N kOp 38 w98 w.heap.size (fun k_ => some k_ ≠ (.slice Ao85 y257.length co85 : Value).ownBlock ∧ some k_ ≠ (v261 : Value).ownBlock ∧ some k_ ≠ (.slice Ao93 y271.length co93 : Value).ownBlock ∧ some k_ ≠ (v275 : Value).ownBlock ∧ some k_ ≠ (v280 : Value).ownBlock ∧ k_ ≠ gb238) (.slice Ao92 y268.length co92) y268):=⟨h2_⟩
                          have n3_ : Aside0 (Kd.N kOp 38 w98 w.heap.size (fun k_ => some k_ ≠ (.slice Ao85 y257.length co85 : Value).ownBlock ∧ some k_ ≠ (v261 : Value).ownBlock ∧ some k_ ≠ (v275 : Value).ownBlock ∧ some k_ ≠ (v280 : Value).ownBlock ∧ k_ ≠ gb238) (.slice Ao93 y271.length co93) y271):=⟨h3_⟩
                          have n4_ : Aside0 (Kd.N kOp 38 w98 w.heap.size (fun k_ => some k_ ≠ (.slice Ao85 y257.length co85 : Value).ownBlock ∧ some k_ ≠ (v261 : Value).ownBlock ∧ some k_ ≠ (.slice Ao92 y268.length co92 : Value).ownBlock ∧ some k_ ≠ (.slice Ao93 y271.length co93 : Value).ownBlock ∧ some k_ ≠ (v280 : Value).ownBlock ∧ k_ ≠ gb238) v275 t274):=⟨h4_⟩
                          have n5_ : Aside0 (Kd.N kOp 38 w98 w.heap.size (fun k_ => some k_ ≠ (.slice Ao85 y257.length co85 : Value).ownBlock ∧ some k_ ≠ (v261 : Value).ownBlock ∧ some k_ ≠ (.slice Ao92 y268.length co92 : Value).ownBlock ∧ some k_ ≠ (.slice Ao93 y271.length co93 : Value).ownBlock ∧ some k_ ≠ (v275 : Value).ownBlock ∧ k_ ≠ gb238) v280 y279):=⟨h5_⟩
                          have n6_ : Aside0 (w98.heap[gb238]? = some (.cells #[.slice (some ad240) l0_0.length c0_0, .slice A0_1 l0_1.length c0_1, .slice A0_2 l0_2.length c0_2, .slice A0_3 l0_3.length c0_3] 27 (0,0))):=⟨h6_⟩
                          have n7_ : Aside0 (Below w.heap.size w w98):=⟨h7_⟩
                          clear HO259
                          clear HO262
                          clear HO270
                          clear HO273
                          clear BK238
                          clear HB
                          clear h0_ h1_ h2_ h3_ h4_ h5_ h6_ h7_
                          have HO259:=n0_
                          have HO262:=n1_
                          have HO270:=n2_
                          have HO273:=n3_
                          have HO276:=n4_
                          have HO281:=n5_
                          have BK238:=n6_
                          have HB:=n7_
                          clear n0_ n1_ n2_ n3_ n4_ n5_ n6_ n7_
                          have hHeld : P11 w98 (ad244.add ((x7_3).toNat * 11)) (rd_Op (rd_LOp l0_0 x3_1) x7_3) A277_7 c277_7 (Q11 w98 (ad244.add ((x7_3).toNat * 11)) (rd_Op (rd_LOp l0_0 x3_1) x7_3) A277_7 c277_7):=hS_
                          obtain ⟨Ao100,co100,eo100⟩:=Kd.N_slice HO281.out
                          (first | subst eo100 | (injection eo100 with f1_ f2_ f3_; have f4_:=f1_.symm; have f5_:=f3_.symm; clear f1_ f2_ f3_; subst f4_; subst f5_))
                          refine norm_ (a' := ?_) ?_ ?_
                          rotate_left
                          ·simp only [putAll,Act.put,List.setIfInBounds_toArray,List.set_cons_zero,List.set_cons_succ]
                           rfl
                          refine on HT_ 19 (some 173) 1048575 (h:=fun K hK => ?_)
                          refine Kd.N_append_rows_step kOp (w0:=w) w.heap.size (by rfl) (.tmp 155) (.tmp 172) 24 38 (.agg #[(.int .i64 0),(.int .i64 0),(.int .i64 0),(.int .i64 0),(.int .i64 0),(.int .i64 0),(.string ⟨#[]⟩),(.slice none 0 0),(.int .i64 0),(.int .i64 0),(.int .i64 0)]) 112 rfl Try.underlying24 info38 rfl (by decide) (by omega) v275 t274 y279 _ _ _ (fun k_ => some k_ ≠ (.slice Ao85 y257.length co85 : Value).ownBlock ∧ some k_ ≠ (v261 : Value).ownBlock ∧ some k_ ≠ (.slice Ao92 y268.length co92 : Value).ownBlock ∧ some k_ ≠ (.slice Ao93 y271.length co93 : Value).ownBlock ∧ k_ ≠ gb238) (fun k_ => ((fun k_ => some k_ ≠ (.slice Ao85 y257.length co85 : Value).ownBlock ∧ some k_ ≠ (v261 : Value).ownBlock ∧ some k_ ≠ (.slice Ao92 y268.length co92 : Value).ownBlock ∧ some k_ ≠ (.slice Ao93 y271.length co93 : Value).ownBlock ∧ k_ ≠ gb238)) k_ ∧ some k_ ≠ (v275 : Value).ownBlock) rfl rfl ?aO ?aR (fun _ hk => hk) ?aF ?aB ?aS ?aL ?_
                          (case aR => exact (by skip; exact Kd.N_F (Kd.N_mono (ok':=(fun k_ => ((fun k_ => some k_ ≠ (.slice Ao85 y257.length co85 : Value).ownBlock ∧ some k_ ≠ (v261 : Value).ownBlock ∧ some k_ ≠ (.slice Ao92 y268.length co92 : Value).ownBlock ∧ some k_ ≠ (.slice Ao93 y271.length co93 : Value).ownBlock ∧ k_ ≠ gb238)) k_ ∧ some k_ ≠ (v275 : Value).ownBlock)) (HO281.out) (fun k_ hk => ⟨⟨hk.1,⟨hk.2.1,⟨hk.2.2.1,⟨hk.2.2.2.1,hk.2.2.2.2.2⟩⟩⟩⟩,hk.2.2.2.2.1⟩))))
                          (case aB => exact (bw HB))
                          (case aF => exact (fun k_ hk => ⟨Kd.fresh' (Kd.N_lt (nk HO259)) k_ hk,Kd.fresh' (Kd.N_lt (nk HO262)) k_ hk,Kd.fresh' (Kd.N_lt (nk HO270)) k_ hk,Kd.fresh' (Kd.N_lt (nk HO273)) k_ hk,Kd.freshB (kk BK238) k_ hk⟩))
                          (case aO => exact (by (with_reducible repeat (first | apply Kd.N_alloc | apply Kd.N_drewN | apply Kd.N_drew)); exact Kd.N_mono HO276.out (fun _ hk => ⟨hk.1,⟨hk.2.1,⟨hk.2.2.1,⟨hk.2.2.2.1,hk.2.2.2.2.2⟩⟩⟩⟩)))
                          (case aS => exact (below_size (bw HB)))
                          (case aL => have:=LMc44.out; omega)
                          intro v283 w99 ho hb hg hat
                          rw [← Ny282.out] at ho
                          have n0_:=Aside0.mk (blk_grown (kk BK238) hg (Kd.N_ne HO276.out BK238.out (by decide)))
                          have n1_:=Aside0.mk (Kd.N_afterv (ok:=(fun k_ => some k_ ≠ (v261 : Value).ownBlock ∧ some k_ ≠ (.slice Ao92 y268.length co92 : Value).ownBlock ∧ some k_ ≠ (.slice Ao93 y271.length co93 : Value).ownBlock ∧ some k_ ≠ (.slice Ao100 y279.length co100 : Value).ownBlock ∧ k_ ≠ gb238)) (by (with_reducible repeat (first | apply Kd.N_alloc | apply Kd.N_drewN | apply Kd.N_drew)); exact Kd.N_mono HO259.out (fun _ hk => ⟨⟨hk.1,⟨hk.2.1,⟨hk.2.2.1,⟨hk.2.2.2.2.1,hk.2.2.2.2.2⟩⟩⟩⟩,hk.2.2.2.1⟩)) hg hat)
                          have n2_:=Aside0.mk (Kd.N_afterv (ok:=(fun k_ => some k_ ≠ (.slice Ao92 y268.length co92 : Value).ownBlock ∧ some k_ ≠ (.slice Ao93 y271.length co93 : Value).ownBlock ∧ some k_ ≠ (.slice Ao100 y279.length co100 : Value).ownBlock ∧ k_ ≠ gb238)) (by (with_reducible repeat (first | apply Kd.N_alloc | apply Kd.N_drewN | apply Kd.N_drew)); exact Kd.N_mono HO262.out (fun _ hk => ⟨⟨hk.1,⟨hk.2.1,⟨hk.2.2.2.1,hk.2.2.2.2⟩⟩⟩,hk.2.2.1⟩)) hg hat)
                          have n3_:=Aside0.mk (Kd.N_afterv (ok:=(fun k_ => some k_ ≠ (.slice Ao85 y257.length co85 : Value).ownBlock ∧ some k_ ≠ (v261 : Value).ownBlock ∧ some k_ ≠ (.slice Ao93 y271.length co93 : Value).ownBlock ∧ some k_ ≠ (.slice Ao100 y279.length co100 : Value).ownBlock ∧ k_ ≠ gb238)) (by (with_reducible repeat (first | apply Kd.N_alloc | apply Kd.N_drewN | apply Kd.N_drew)); exact Kd.N_mono HO270.out (fun _ hk => ⟨⟨hk.1,⟨hk.2.1,⟨hk.2.2.1,⟨hk.2.2.2.2.1,hk.2.2.2.2.2⟩⟩⟩⟩,hk.2.2.2.1⟩)) hg hat)
                          have n4_:=Aside0.mk (Kd.N_afterv (ok:=(fun k_ => some k_ ≠ (.slice Ao85 y257.length co85 : Value).ownBlock ∧ some k_ ≠ (v261 : Value).ownBlock ∧ some k_ ≠ (.slice Ao100 y279.length co100 : Value).ownBlock ∧ k_ ≠ gb238)) (by (with_reducible repeat (first | apply Kd.N_alloc | apply Kd.N_drewN | apply Kd.N_drew)); exact Kd.N_mono HO273.out (fun _ hk => ⟨⟨hk.1,⟨hk.2.1,⟨hk.2.2.2.1,hk.2.2.2.2⟩⟩⟩,hk.2.2.1⟩)) hg hat)
                          have n5_:=Aside0.mk (Kd.N_afterv (ok:=(fun k_ => some k_ ≠ (.slice Ao85 y257.length co85 : Value).ownBlock ∧ some k_ ≠ (v261 : Value).ownBlock ∧ some k_ ≠ (.slice Ao92 y268.length co92 : Value).ownBlock ∧ some k_ ≠ (.slice Ao93 y271.length co93 : Value).ownBlock ∧ k_ ≠ gb238)) (by (with_reducible repeat (first | apply Kd.N_alloc | apply Kd.N_drewN | apply Kd.N_drew)); exact Kd.N_mono HO281.out (fun _ hk => ⟨⟨hk.1,⟨hk.2.1,⟨hk.2.2.1,⟨hk.2.2.2.1,hk.2.2.2.2.2⟩⟩⟩⟩,hk.2.2.2.2.1⟩)) hg hat)
                          have n6_:=Aside0.mk (hb)
                          have n7_:=Aside0.mk (ho)
                          clear BK238
                          clear HO259
                          clear HO262
                          clear HO270
                          clear HO273
                          clear HO281
                          clear HB
                          clear HO276
                          have BK238:=n0_
                          have HO259:=n1_
                          have HO262:=n2_
                          have HO270:=n3_
                          have HO273:=n4_
                          have HO281:=n5_
                          have HB:=n6_
                          have HO284:=n7_
                          clear n0_ n1_ n2_ n3_ n4_ n5_ n6_ n7_
                          clear ho hb hg hat
                          refine hK.out _ _ ⟨(cW HB hw277_0),(cW HB hw277_1),(cW HB hw277_2),(cW HB hw277_3),(cW HB hw277_4),(cW HB hw277_5),(cW HB hw277_6),(cW HB hw277_7),(cW HB hw277_8),(cW HB hw277_9),(cW HB hw277_10)⟩ (fun hHeld => ?_)
                          clear hK K
                          refine nn 173 (h := ?_)
                          refine pu HT_ 20 15 2097151 (h := ?_)
                          refine dn HT_ (h := ?_)
                          obtain ⟨Ao101,co101,eo101⟩:=Kd.N_slice HO284.out
                          subst eo101
                          obtain ⟨Ao102,co102,eo102⟩:=Kd.N_slice HO262.out
                          subst eo102
                          try go_wp2_with (first | ((with_reducible refine gate_callee (f:=7) rfl ?_); refine gl (some 179) Try.func7 #[.slice Ao102 y260.length co102] (h := ?_); (with_reducible refine (doc_Text.calls _ _ y260 t285 t286 _ ?side1 ?side2 A69.out).mono ?_); (case side1 => exact cn HO262); (case side2 => exact (Kd.N_reads' HO262.out).2.1); rintro e w103 ⟨rfl,hb⟩; refine ⟨_,rfl, ?_⟩; replace HO259:=nb HO259 hb; replace HO262:=nb HO262 hb; replace HO270:=nb HO270 hb; replace HO273:=nb HO273 hb; replace HO281:=nb HO281 hb; replace HO284:=nb HO284 hb; replace BK238:=bl BK238 hb; replace HB:=bs HB hb; clear hb) | ((with_reducible refine gate_callee (f:=7) rfl ?_); refine gl (some 184) Try.func7 #[.slice Ao101 y282.length co101] (h := ?_); (with_reducible refine (doc_Text.calls _ _ y282 t287 t288 _ ?side1 ?side2 A70.out).mono ?_); (case side1 => exact cn HO284); (case side2 => exact (Kd.N_reads' HO284.out).2.1); rintro e w104 ⟨rfl,hb⟩; refine ⟨_,rfl, ?_⟩; replace HO259:=nb HO259 hb; replace HO262:=nb HO262 hb; replace HO270:=nb HO270 hb; replace HO273:=nb HO273 hb; replace HO281:=nb HO281 hb; replace HO284:=nb HO284 hb; replace BK238:=bl BK238 hb; replace HB:=bs HB hb; clear hb))
                          have n0_:=Aside0.mk (Kd.N_drew HO259.out)
                          have n1_:=Aside0.mk (Kd.N_drew HO262.out)
                          have n2_:=Aside0.mk (Kd.N_drew HO270.out)
                          have n3_:=Aside0.mk (Kd.N_drew HO273.out)
                          have n4_:=Aside0.mk (Kd.N_drew HO281.out)
                          have n5_:=Aside0.mk (Kd.N_drew HO284.out)
                          have n6_:=Aside0.mk (blk_drew BK238.out)
                          have n7_:=Aside0.mk (below_drew1 HB.out)
                          clear HO259
                          clear HO262
                          clear HO270
                          clear HO273
                          clear HO281
                          clear HO284
                          clear BK238
                          clear HB
                          have HO259:=n0_
                          have HO262:=n1_
                          have HO270:=n2_
                          have HO273:=n3_
                          have HO281:=n4_
                          have HO284:=n5_
                          have BK238:=n6_
                          have HB:=n7_
                          clear n0_ n1_ n2_ n3_ n4_ n5_ n6_ n7_
                          have p289 : 0 ≤ (x7_3 : Int):=od
                          have q289 : x7_3 < ((rd_LOp l0_0 x3_1).length : Int):=od
                          obtain ⟨ad289,A289_7,c289_7,e289,hx289_0,hx289_1,hx289_2,hx289_3,hx289_4,hx289_5,hx289_6,hx289_7,hx289_8,hx289_9,hx289_10,hl289_7,hi289_7⟩:=at_Op HR240_0.out x7_3 p289 q289
                          have hw289_10:=hx289_10
                          have hw289_9:=hx289_9
                          have hw289_8:=hx289_8
                          have hw289_7:=hx289_7
                          have hw289_6:=hx289_6
                          have hw289_5:=hx289_5
                          have hw289_4:=hx289_4
                          have hw289_3:=hx289_3
                          have hw289_2:=hx289_2
                          have hw289_1:=hx289_1
                          have hw289_0:=hx289_0
                          obtain rfl : ad244 = ad289:=(by injection e289)
                          replace hx289_0:=cl HB hx289_0
                          replace hx289_1:=cl HB hx289_1
                          replace hx289_2:=cl HB hx289_2
                          replace hx289_3:=cl HB hx289_3
                          replace hx289_4:=cl HB hx289_4
                          replace hx289_5:=cl HB hx289_5
                          replace hx289_6:=cl HB hx289_6
                          replace hx289_7:=cl HB hx289_7
                          replace hx289_8:=cl HB hx289_8
                          replace hx289_9:=cl HB hx289_9
                          replace hx289_10:=cl HB hx289_10
                          have HR289_7:=Aside0.mk hi289_7
                          have HC289_7:=Aside0.mk hl289_7
                          clear hi289_7 hl289_7
                          replace p289:=eq_true p289
                          replace q289:=eq_true q289
                          refine stP (fun w' => Q11 w' (ad244.add ((x7_3).toNat * 11)) (rd_Op (rd_LOp l0_0 x3_1) x7_3) A289_7 c289_7) 17 ⟨(cW HB hw289_0),(cW HB hw289_1),(cW HB hw289_2),(cW HB hw289_3),(cW HB hw289_4),(cW HB hw289_5),(cW HB hw289_6),(cW HB hw289_7),(cW HB hw289_8),(cW HB hw289_9),(cW HB hw289_10)⟩ (h:=fun hHeld => ?_); refine with_tabW w6_DocToggles.tab28 w6_DocToggles.bits28 (fun HT_ HW_ => ?_)
                          generalize w104.drew = w105 at HO259 HO262 HO270 HO273 HO281 HO284 BK238 HB HR289_7 HR289_7 hx289_0 hx289_1 hx289_10 hx289_2 hx289_3 hx289_4 hx289_5 hx289_6 hx289_7 hx289_8 hx289_9 hx289_0 hx289_1 hx289_10 hx289_2 hx289_3 hx289_4 hx289_5 hx289_6 hx289_7 hx289_8 hx289_9 hHeld ⊢
                          refine pu HT_ 0 188 1 (h := ?_)
                          refine pu HT_ 1 189 3 (h := ?_)
                          refine pu HT_ 2 190 7 (h := ?_)
                          refine pu HT_ 3 191 15 (h := ?_)
                          refine pu HT_ 4 192 31 (h := ?_)
                          refine pu HT_ 6 194 95 (h := ?_)
                          refine pu HT_ 7 195 223 (h := ?_)
                          refine pu HT_ 8 196 479 (h := ?_)
                          refine pu HT_ 9 197 991 (h := ?_)
                          refine tk HT_ HW_ hHeld 5 193 1023 (h := ?_)
                          refine tk HT_ HW_ hHeld 10 198 2047 (h := ?_)
                          refine on HT_ 11 (some 199) 4095 (h:=fun K hK => ?_)
                          refine gS Try.func11 #[.slice (some ad244) (rd_LOp l0_0 x3_1).length c240_0, .int .i64 ((rd_Op (rd_LOp l0_0 x3_1) x7_3).f0), .int .i64 ((rd_Op (rd_LOp l0_0 x3_1) x7_3).f1)] (h := ?_)
                          with_reducible refine (doc_Effective.calls kj31 _ _ (rd_LOp l0_0 x3_1) ((rd_Op (rd_LOp l0_0 x3_1) x7_3).f0) ((rd_Op (rd_LOp l0_0 x3_1) x7_3).f1) t291 t292 _ ?side1 ?side2 A71.out).mono ?_
                          (case side1 => exact cb HR240_0 HB)
                          (case side2 => exact HC240_0.out)
                          rintro e w106 ⟨rfl,hb⟩
                          refine ⟨_,rfl, ?_⟩
                          have n0_:=nb HO259 hb
                          have n1_:=nb HO262 hb
                          have n2_:=nb HO270 hb
                          have n3_:=nb HO273 hb
                          have n4_:=nb HO281 hb
                          have n5_:=nb HO284 hb
                          have n6_:=bl BK238 hb
                          have n7_:=bs HB hb
                          clear HO259
                          clear HO262
                          clear HO270
                          clear HO273
                          clear HO281
                          clear HO284
                          clear BK238
                          clear HB
                          have HO259:=n0_
                          have HO262:=n1_
                          have HO270:=n2_
                          have HO273:=n3_
                          have HO281:=n4_
                          have HO284:=n5_
                          have BK238:=n6_
                          have HB:=n7_
                          clear n0_ n1_ n2_ n3_ n4_ n5_ n6_ n7_
                          (try clear hb)
                          (try clear hb2)
                          (try clear hk)
                          (try clear hi)
                          refine hK.out _ _ ⟨(cW HB hw289_0),(cW HB hw289_1),(cW HB hw289_2),(cW HB hw289_3),(cW HB hw289_4),(cW HB hw289_5),(cW HB hw289_6),(cW HB hw289_7),(cW HB hw289_8),(cW HB hw289_9),(cW HB hw289_10)⟩ (fun hHeld => ?_)
                          clear hK K
                          refine nn 199 (h := ?_)
                          refine pu HT_ 12 187 8191 (h := ?_)
                          refine pu HT_ 13 200 16383 (h := ?_)
                          refine pu HT_ 14 201 32767 (h := ?_)
                          refine pu HT_ 15 20 65535 (h := ?_)
                          refine pu HT_ 16 21 131071 (h := ?_)
                          refine dn HT_ (h := ?_)
                          try go_wp2
                          have n0_:=Aside0.mk (Kd.N_drew HO259.out)
                          have n1_:=Aside0.mk (Kd.N_drew HO262.out)
                          have n2_:=Aside0.mk (Kd.N_drew HO270.out)
                          have n3_:=Aside0.mk (Kd.N_drew HO273.out)
                          have n4_:=Aside0.mk (Kd.N_drew HO281.out)
                          have n5_:=Aside0.mk (Kd.N_drew HO284.out)
                          have n6_:=Aside0.mk (blk_drew BK238.out)
                          have n7_:=Aside0.mk (below_drew1 HB.out)
                          clear HO259
                          clear HO262
                          clear HO270
                          clear HO273
                          clear HO281
                          clear HO284
                          clear BK238
                          clear HB
                          have HO259:=n0_
                          have HO262:=n1_
                          have HO270:=n2_
                          have HO273:=n3_
                          have HO281:=n4_
                          have HO284:=n5_
                          have BK238:=n6_
                          have HB:=n7_
                          clear n0_ n1_ n2_ n3_ n4_ n5_ n6_ n7_
                          have p293 : 0 ≤ (x7_3 : Int):=od
                          have q293 : x7_3 < ((rd_LOp l0_0 x3_1).length : Int):=od
                          obtain ⟨ad293,A293_7,c293_7,e293,hx293_0,hx293_1,hx293_2,hx293_3,hx293_4,hx293_5,hx293_6,hx293_7,hx293_8,hx293_9,hx293_10,hl293_7,hi293_7⟩:=at_Op HR240_0.out x7_3 p293 q293
                          have hw293_10:=hx293_10
                          have hw293_9:=hx293_9
                          have hw293_8:=hx293_8
                          have hw293_7:=hx293_7
                          have hw293_6:=hx293_6
                          have hw293_5:=hx293_5
                          have hw293_4:=hx293_4
                          have hw293_3:=hx293_3
                          have hw293_2:=hx293_2
                          have hw293_1:=hx293_1
                          have hw293_0:=hx293_0
                          obtain rfl : ad244 = ad293:=(by injection e293)
                          replace hx293_0:=cl HB hx293_0
                          replace hx293_1:=cl HB hx293_1
                          replace hx293_2:=cl HB hx293_2
                          replace hx293_3:=cl HB hx293_3
                          replace hx293_4:=cl HB hx293_4
                          replace hx293_5:=cl HB hx293_5
                          replace hx293_6:=cl HB hx293_6
                          replace hx293_7:=cl HB hx293_7
                          replace hx293_8:=cl HB hx293_8
                          replace hx293_9:=cl HB hx293_9
                          replace hx293_10:=cl HB hx293_10
                          have HR293_7:=Aside0.mk hi293_7
                          have HC293_7:=Aside0.mk hl293_7
                          clear hi293_7 hl293_7
                          replace p293:=eq_true p293
                          replace q293:=eq_true q293
                          refine stP (fun w' => Q11 w' (ad244.add ((x7_3).toNat * 11)) (rd_Op (rd_LOp l0_0 x3_1) x7_3) A293_7 c293_7) 17 ⟨(cW HB hw293_0),(cW HB hw293_1),(cW HB hw293_2),(cW HB hw293_3),(cW HB hw293_4),(cW HB hw293_5),(cW HB hw293_6),(cW HB hw293_7),(cW HB hw293_8),(cW HB hw293_9),(cW HB hw293_10)⟩ (h:=fun hHeld => ?_); refine with_tabW w6_DocToggles.tab29 w6_DocToggles.bits29 (fun HT_ HW_ => ?_)
                          generalize w106.drew = w107 at HO259 HO262 HO270 HO273 HO281 HO284 BK238 HB HR293_7 HR293_7 hx293_0 hx293_1 hx293_10 hx293_2 hx293_3 hx293_4 hx293_5 hx293_6 hx293_7 hx293_8 hx293_9 hx293_0 hx293_1 hx293_10 hx293_2 hx293_3 hx293_4 hx293_5 hx293_6 hx293_7 hx293_8 hx293_9 hHeld ⊢
                          refine pu HT_ 0 203 1 (h := ?_)
                          refine pu HT_ 1 204 3 (h := ?_)
                          refine pu HT_ 2 205 7 (h := ?_)
                          refine pu HT_ 3 206 15 (h := ?_)
                          refine pu HT_ 4 207 31 (h := ?_)
                          refine pu HT_ 6 209 95 (h := ?_)
                          refine pu HT_ 7 210 223 (h := ?_)
                          refine pu HT_ 8 211 479 (h := ?_)
                          refine pu HT_ 9 212 991 (h := ?_)
                          refine tk HT_ HW_ hHeld 5 208 1023 (h := ?_)
                          refine tk HT_ HW_ hHeld 10 213 2047 (h := ?_)
                          refine on HT_ 11 (some 214) 4095 (h:=fun K hK => ?_)
                          refine gS Try.func11 #[.slice Ao93 y271.length co93, .int .i64 ((rd_Op (rd_LOp l0_0 x3_1) x7_3).f0), .int .i64 ((rd_Op (rd_LOp l0_0 x3_1) x7_3).f1)] (h := ?_)
                          with_reducible refine (doc_Effective.calls kj31 _ _ y271 ((rd_Op (rd_LOp l0_0 x3_1) x7_3).f0) ((rd_Op (rd_LOp l0_0 x3_1) x7_3).f1) t295 t296 _ ?side1 ?side2 A72.out).mono ?_
                          (case side1 => exact cn HO273)
                          (case side2 => exact (Kd.N_reads' HO273.out).2.1)
                          rintro e w108 ⟨rfl,hb⟩
                          refine ⟨_,rfl, ?_⟩
                          have n0_:=nb HO259 hb
                          have n1_:=nb HO262 hb
                          have n2_:=nb HO270 hb
                          have n3_:=nb HO273 hb
                          have n4_:=nb HO281 hb
                          have n5_:=nb HO284 hb
                          have n6_:=bl BK238 hb
                          have n7_:=bs HB hb
                          clear HO259
                          clear HO262
                          clear HO270
                          clear HO273
                          clear HO281
                          clear HO284
                          clear BK238
                          clear HB
                          have HO259:=n0_
                          have HO262:=n1_
                          have HO270:=n2_
                          have HO273:=n3_
                          have HO281:=n4_
                          have HO284:=n5_
                          have BK238:=n6_
                          have HB:=n7_
                          clear n0_ n1_ n2_ n3_ n4_ n5_ n6_ n7_
                          (try clear hb)
                          (try clear hb2)
                          (try clear hk)
                          (try clear hi)
                          refine hK.out _ _ ⟨(cW HB hw293_0),(cW HB hw293_1),(cW HB hw293_2),(cW HB hw293_3),(cW HB hw293_4),(cW HB hw293_5),(cW HB hw293_6),(cW HB hw293_7),(cW HB hw293_8),(cW HB hw293_9),(cW HB hw293_10)⟩ (fun hHeld => ?_)
                          clear hK K
                          refine nn 214 (h := ?_)
                          refine pu HT_ 12 202 8191 (h := ?_)
                          refine pu HT_ 13 215 16383 (h := ?_)
                          refine pu HT_ 14 216 32767 (h := ?_)
                          refine pu HT_ 15 22 65535 (h := ?_)
                          refine pu HT_ 16 23 131071 (h := ?_)
                          refine dn HT_ (h := ?_)
                          have p297 : 0 ≤ (((rd_LOp l0_0 x3_1).length : Int) : Int):=od
                          have q297 : ((rd_LOp l0_0 x3_1).length : Int) < (y260.length : Int):=od
                          obtain ⟨ad297,A297_7,c297_7,e297,hx297_0,hx297_1,hx297_2,hx297_3,hx297_4,hx297_5,hx297_6,hx297_7,hx297_8,hx297_9,hx297_10,hl297_7,hi297_7⟩:=at_Op (Kd.N_reads' HO262.out).2.2 ((rd_LOp l0_0 x3_1).length : Int) p297 q297
                          cases e297
                          obtain ⟨ce297,hce297,hMe297,hcc297⟩:=Kd.N_get HO262.out zOp ((rd_LOp l0_0 x3_1).length : Int) p297 (by first | exact q297 | exact od | (have e_:=(Kd.N_reads' HO262.out).1; omega))
                          obtain ⟨ua297_7,uc297_7,rfl,ul297_7,ge297_7⟩:=kOp_openF hMe297
                          have hv297_7:=hcc297 7 _ rfl
                          rw [add_field _ _ 7 (by omega)] at hv297_7
                          replace hv297_7:=Option.some.inj (hv297_7.symm.trans hx297_7)
                          injection hv297_7 with hva_ hvn_ hvc_
                          rw [hva_] at ge297_7
                          rw [hvc_] at ul297_7
                          have HL297_7:=Aside0.mk (show Kd.V kElem 36 _ w.heap.size _ _ ((rd_Op y260 ((rd_LOp l0_0 x3_1).length : Int)).f5) from Kd.V_mk ul297_7 ge297_7)
                          clear hva_ hvn_ hvc_ ge297_7 ul297_7
                          clear hcc297 hce297
                          have HR297_7:=Aside0.mk hi297_7
                          have HC297_7:=Aside0.mk hl297_7
                          clear hi297_7 hl297_7
                          (try simp only [Go.IntWalk.toNatUp] at hx297_0)
                          (try simp only [Go.IntWalk.toNatUp] at hx297_1)
                          (try simp only [Go.IntWalk.toNatUp] at hx297_2)
                          (try simp only [Go.IntWalk.toNatUp] at hx297_3)
                          (try simp only [Go.IntWalk.toNatUp] at hx297_4)
                          (try simp only [Go.IntWalk.toNatUp] at hx297_5)
                          (try simp only [Go.IntWalk.toNatUp] at hx297_6)
                          (try simp only [Go.IntWalk.toNatUp] at hx297_7)
                          (try simp only [Go.IntWalk.toNatUp] at hx297_8)
                          (try simp only [Go.IntWalk.toNatUp] at hx297_9)
                          (try simp only [Go.IntWalk.toNatUp] at hx297_10)
                          replace p297:=eq_true p297
                          replace q297:=eq_true q297
                          go_upto_region 32 with (first | ((with_reducible refine gate_callee (f:=12) rfl ?_); refine gl (some 224) Try.func12 #[.slice (some ad244) (rd_LOp l0_0 x3_1).length c240_0, .agg #[.int .i64 ((rd_Op y260 ((rd_LOp l0_0 x3_1).length : Int)).f0), .int .i64 ((rd_Op y260 ((rd_LOp l0_0 x3_1).length : Int)).f1), .int .i64 ((rd_Op y260 ((rd_LOp l0_0 x3_1).length : Int)).f2), .int .i64 ((rd_Op y260 ((rd_LOp l0_0 x3_1).length : Int)).f3.f0), .int .i64 ((rd_Op y260 ((rd_LOp l0_0 x3_1).length : Int)).f3.f1), .int .i64 ((rd_Op y260 ((rd_LOp l0_0 x3_1).length : Int)).f3.f2), .string ((rd_Op y260 ((rd_LOp l0_0 x3_1).length : Int)).f4), .slice A297_7 ((rd_Op y260 ((rd_LOp l0_0 x3_1).length : Int)).f5).length c297_7, .int .i64 ((rd_Op y260 ((rd_LOp l0_0 x3_1).length : Int)).f6), .int .i64 ((rd_Op y260 ((rd_LOp l0_0 x3_1).length : Int)).f7), .int .i64 ((rd_Op y260 ((rd_LOp l0_0 x3_1).length : Int)).f8)]] (h := ?_); (with_reducible refine (doc_Idle.calls _ _ (rd_LOp l0_0 x3_1) ((rd_Op y260 ((rd_LOp l0_0 x3_1).length : Int)).f0) ((rd_Op y260 ((rd_LOp l0_0 x3_1).length : Int)).f1) ((rd_Op y260 ((rd_LOp l0_0 x3_1).length : Int)).f2) ((rd_Op y260 ((rd_LOp l0_0 x3_1).length : Int)).f3.f0) ((rd_Op y260 ((rd_LOp l0_0 x3_1).length : Int)).f3.f1) ((rd_Op y260 ((rd_LOp l0_0 x3_1).length : Int)).f3.f2) ((rd_Op y260 ((rd_LOp l0_0 x3_1).length : Int)).f4) _ _ ((rd_Op y260 ((rd_LOp l0_0 x3_1).length : Int)).f5) ((rd_Op y260 ((rd_LOp l0_0 x3_1).length : Int)).f6) ((rd_Op y260 ((rd_LOp l0_0 x3_1).length : Int)).f7) ((rd_Op y260 ((rd_LOp l0_0 x3_1).length : Int)).f8) t298 t299 _ ?side1 ?side2 ?side3 ?side4 A75.out).mono ?_); (case side1 => exact cb HR240_0 HB); (case side2 => exact HC240_0.out); (case side3 => repeat (first | exact (ck HR297_7) | (with_reducible refine Kd.C_alloc ?_ _) | (with_reducible refine Kd.C_drewN ?_ _) | (with_reducible refine Kd.C_drew ?_))); (case side4 => exact HC297_7.out); rintro e w109 ⟨rfl,hb⟩; refine ⟨_,rfl, ?_⟩; replace HO259:=nb HO259 hb; replace HO262:=nb HO262 hb; replace HO270:=nb HO270 hb; replace HO273:=nb HO273 hb; replace HO281:=nb HO281 hb; replace HO284:=nb HO284 hb; replace HL297_7:=Aside0.mk (Kd.V_below (by (with_reducible repeat (first | apply Kd.V_alloc | apply Kd.V_drewN | apply Kd.V_drew)); exact HL297_7.out) hb); replace BK238:=bl BK238 hb; replace HR297_7:=Aside0.mk (Kd.C_below (ck HR297_7) hb); replace HB:=bs HB hb; clear hb; have p300 : 0 ≤ (((rd_LOp l0_0 x3_1).length : Int) : Int):=od; have q300 : ((rd_LOp l0_0 x3_1).length : Int) < (y271.length : Int):=od; obtain ⟨ad300,A300_7,c300_7,e300,hx300_0,hx300_1,hx300_2,hx300_3,hx300_4,hx300_5,hx300_6,hx300_7,hx300_8,hx300_9,hx300_10,hl300_7,hi300_7⟩:=at_Op (Kd.N_reads' HO273.out).2.2 ((rd_LOp l0_0 x3_1).length : Int) p300 q300; cases e300; obtain ⟨ce300,hce300,hMe300,hcc300⟩:=Kd.N_get HO273.out zOp ((rd_LOp l0_0 x3_1).length : Int) p300 (by first | exact q300 | exact od | (have e_:=(Kd.N_reads' HO273.out).1; omega)); obtain ⟨ua300_7,uc300_7,rfl,ul300_7,ge300_7⟩:=kOp_openF hMe300; have hv300_7:=hcc300 7 _ rfl; rw [add_field _ _ 7 (by omega)] at hv300_7; replace hv300_7:=Option.some.inj (hv300_7.symm.trans hx300_7); injection hv300_7 with hva_ hvn_ hvc_; rw [hva_] at ge300_7; rw [hvc_] at ul300_7; have HL300_7:=Aside0.mk (show Kd.V kElem 36 _ w.heap.size _ _ ((rd_Op y271 ((rd_LOp l0_0 x3_1).length : Int)).f5) from Kd.V_mk ul300_7 ge300_7); clear hva_ hvn_ hvc_ ge300_7 ul300_7; clear hcc300 hce300; have HR300_7:=Aside0.mk hi300_7; have HC300_7:=Aside0.mk hl300_7; clear hi300_7 hl300_7; (try simp only [Go.IntWalk.toNatUp] at hx300_0); (try simp only [Go.IntWalk.toNatUp] at hx300_1); (try simp only [Go.IntWalk.toNatUp] at hx300_2); (try simp only [Go.IntWalk.toNatUp] at hx300_3); (try simp only [Go.IntWalk.toNatUp] at hx300_4); (try simp only [Go.IntWalk.toNatUp] at hx300_5); (try simp only [Go.IntWalk.toNatUp] at hx300_6); (try simp only [Go.IntWalk.toNatUp] at hx300_7); (try simp only [Go.IntWalk.toNatUp] at hx300_8); (try simp only [Go.IntWalk.toNatUp] at hx300_9); (try simp only [Go.IntWalk.toNatUp] at hx300_10); replace p300:=eq_true p300; replace q300:=eq_true q300) | ((with_reducible refine gate_callee (f:=12) rfl ?_); refine gl (some 234) Try.func12 #[.slice (some ad244) (rd_LOp l0_0 x3_1).length c240_0, .agg #[.int .i64 ((rd_Op y271 ((rd_LOp l0_0 x3_1).length : Int)).f0), .int .i64 ((rd_Op y271 ((rd_LOp l0_0 x3_1).length : Int)).f1), .int .i64 ((rd_Op y271 ((rd_LOp l0_0 x3_1).length : Int)).f2), .int .i64 ((rd_Op y271 ((rd_LOp l0_0 x3_1).length : Int)).f3.f0), .int .i64 ((rd_Op y271 ((rd_LOp l0_0 x3_1).length : Int)).f3.f1), .int .i64 ((rd_Op y271 ((rd_LOp l0_0 x3_1).length : Int)).f3.f2), .string ((rd_Op y271 ((rd_LOp l0_0 x3_1).length : Int)).f4), .slice A300_7 ((rd_Op y271 ((rd_LOp l0_0 x3_1).length : Int)).f5).length c300_7, .int .i64 ((rd_Op y271 ((rd_LOp l0_0 x3_1).length : Int)).f6), .int .i64 ((rd_Op y271 ((rd_LOp l0_0 x3_1).length : Int)).f7), .int .i64 ((rd_Op y271 ((rd_LOp l0_0 x3_1).length : Int)).f8)]] (h := ?_); (with_reducible refine (doc_Idle.calls _ _ (rd_LOp l0_0 x3_1) ((rd_Op y271 ((rd_LOp l0_0 x3_1).length : Int)).f0) ((rd_Op y271 ((rd_LOp l0_0 x3_1).length : Int)).f1) ((rd_Op y271 ((rd_LOp l0_0 x3_1).length : Int)).f2) ((rd_Op y271 ((rd_LOp l0_0 x3_1).length : Int)).f3.f0) ((rd_Op y271 ((rd_LOp l0_0 x3_1).length : Int)).f3.f1) ((rd_Op y271 ((rd_LOp l0_0 x3_1).length : Int)).f3.f2) ((rd_Op y271 ((rd_LOp l0_0 x3_1).length : Int)).f4) _ _ ((rd_Op y271 ((rd_LOp l0_0 x3_1).length : Int)).f5) ((rd_Op y271 ((rd_LOp l0_0 x3_1).length : Int)).f6) ((rd_Op y271 ((rd_LOp l0_0 x3_1).length : Int)).f7) ((rd_Op y271 ((rd_LOp l0_0 x3_1).length : Int)).f8) t301 t302 _ ?side1 ?side2 ?side3 ?side4 A77.out).mono ?_); (case side1 => exact cb HR240_0 HB); (case side2 => exact HC240_0.out); (case side3 => repeat (first | exact (ck HR300_7) | (with_reducible refine Kd.C_alloc ?_ _) | (with_reducible refine Kd.C_drewN ?_ _) | (with_reducible refine Kd.C_drew ?_))); (case side4 => exact HC300_7.out); rintro e w110 ⟨rfl,hb⟩; refine ⟨_,rfl, ?_⟩; replace HO259:=nb HO259 hb; replace HO262:=nb HO262 hb; replace HO270:=nb HO270 hb; replace HO273:=nb HO273 hb; replace HO281:=nb HO281 hb; replace HO284:=nb HO284 hb; replace HL297_7:=Aside0.mk (Kd.V_below (by (with_reducible repeat (first | apply Kd.V_alloc | apply Kd.V_drewN | apply Kd.V_drew)); exact HL297_7.out) hb); replace HL300_7:=Aside0.mk (Kd.V_below (by (with_reducible repeat (first | apply Kd.V_alloc | apply Kd.V_drewN | apply Kd.V_drew)); exact HL300_7.out) hb); replace BK238:=bl BK238 hb; replace HR297_7:=Aside0.mk (Kd.C_below (ck HR297_7) hb); replace HR300_7:=Aside0.mk (Kd.C_below (ck HR300_7) hb); replace HB:=bs HB hb; clear hb))
                          (try simp only [Act.put,List.setIfInBounds_toArray,List.set_cons_zero,List.set_cons_succ])
                          go_cut [276] (fun v276 wc => ∃ (kq : Nat) (x276_77 : Bool),v276 = .bool x276_77 ∧ Aside0 (w6_DocToggles.j5 kq x3_1 (rd_LOp l0_0 x3_1) t241 x7_3 x276_77 l0_0 l0_1 l0_2 l0_3 = some r) ∧ Aside0 (kq ≤ kj31) ∧ Aside0 (wc.heap[gb238]? = some (.cells #[(.slice (some ad240) l0_0.length c0_0),(.slice A0_1 l0_1.length c0_1),(.slice A0_2 l0_2.length c0_2),(.slice A0_3 l0_3.length c0_3)] 27 (0,0))) ∧ Aside0 (Kd.C kElem wc A297_7 ((rd_Op y260 ((rd_LOp l0_0 x3_1).length : Int)).f5).length ((rd_Op y260 ((rd_LOp l0_0 x3_1).length : Int)).f5)) ∧ Aside0 (Kd.C kElem wc A300_7 ((rd_Op y271 ((rd_LOp l0_0 x3_1).length : Int)).f5).length ((rd_Op y271 ((rd_LOp l0_0 x3_1).length : Int)).f5)) ∧ Aside0 (Below w.heap.size w wc))
                          case first =>
                           have H:=HC78.out
                           clear HC78
                           obtain ⟨t303,A111,H⟩:=bE H
                           obtain ⟨t304,A112,H⟩:=bE H
                           obtain ⟨t305,A113,H⟩:=bE H
                           obtain ⟨t306,A114,H⟩:=bE H
                           obtain ⟨t307,A115,H⟩:=bE H
                           obtain ⟨t308,A116,H⟩:=bE H
                           by_cases c117 : (wrap64 ((wrap64 ((wrap64 ((wrap64 ((wrap64 (t303 + t304)) + t305)) + t306)) + t307)) + t308)) = 0; rotate_left
                           ·rw [if_neg c117] at H
                            obtain ⟨c117b0,c117b1⟩:=bF c117
                            (first | rw [c117b0] | (simp only [i64_w,i32_w]; rw [c117b0]) | skip)
                            have H':=Aside0.mk H
                            clear H
                            go_wp2_with (first | ((with_reducible refine gate_callee (f:=8) rfl ?_); refine gl (some 238) Try.func8 #[.int .i64 t286] (h := ?_); (with_reducible refine (w6_num.calls t286 t303 _ A111.out).mono ?_); rintro e w' ⟨rfl,⟨nd,rfl⟩⟩; refine ⟨_,rfl, ?_⟩) | ((with_reducible refine gate_callee (f:=8) rfl ?_); refine gl (some 240) Try.func8 #[.int .i64 t288] (h := ?_); (with_reducible refine (w6_num.calls t288 t304 _ A112.out).mono ?_); rintro e w' ⟨rfl,⟨nd,rfl⟩⟩; refine ⟨_,rfl, ?_⟩) | ((with_reducible refine gate_callee (f:=8) rfl ?_); refine gl (some 243) Try.func8 #[.int .i64 t292] (h := ?_); (with_reducible refine (w6_num.calls t292 t305 _ A113.out).mono ?_); rintro e w' ⟨rfl,⟨nd,rfl⟩⟩; refine ⟨_,rfl, ?_⟩) | ((with_reducible refine gate_callee (f:=8) rfl ?_); refine gl (some 246) Try.func8 #[.int .i64 t296] (h := ?_); (with_reducible refine (w6_num.calls t296 t306 _ A114.out).mono ?_); rintro e w' ⟨rfl,⟨nd,rfl⟩⟩; refine ⟨_,rfl, ?_⟩) | ((with_reducible refine gate_callee (f:=8) rfl ?_); refine gl (some 249) Try.func8 #[.int .i64 t299] (h := ?_); (with_reducible refine (w6_num.calls t299 t307 _ A115.out).mono ?_); rintro e w' ⟨rfl,⟨nd,rfl⟩⟩; refine ⟨_,rfl, ?_⟩) | ((with_reducible refine gate_callee (f:=8) rfl ?_); refine gl (some 252) Try.func8 #[.int .i64 t302] (h := ?_); (with_reducible refine (w6_num.calls t302 t308 _ A116.out).mono ?_); rintro e w' ⟨rfl,⟨nd,rfl⟩⟩; refine ⟨_,rfl, ?_⟩))
                            go_meet
                            case rel => exact ⟨_,(true),rf,H',⟨by have:=HK1.out; have:=HJ9.out; have:=HK3.out; have:=HK4.out; have:=HJ31.out; first | omega | exact Nat.le_refl _⟩,⟨kk BK238⟩,⟨ck HR297_7⟩,⟨ck HR300_7⟩,⟨bw HB⟩⟩
                           show (let G_ : Prop:=_; G_)
                           intro G_
                           exact (let_tmp i_ : Nonempty G_:=(((⟨by
                            subst G_
                            rw [if_pos c117] at H
                            obtain ⟨c117b0,c117b1⟩:=bT c117
                            clear c117
                            (first | rw [c117b0] | (simp only [i64_w,i32_w]; rw [c117b0]) | skip)
                            by_cases c118 : t285.toList = t241.toList; rotate_left
                            ·rw [if_neg c118] at H
                             obtain ⟨c118b0,c118b1⟩:=bF c118
                             have H':=Aside0.mk H
                             clear H
                             go_wp2_with (first | ((with_reducible refine gate_callee (f:=8) rfl ?_); refine gl (some 238) Try.func8 #[.int .i64 t286] (h := ?_); (with_reducible refine (w6_num.calls t286 t303 _ A111.out).mono ?_); rintro e w' ⟨rfl,⟨nd,rfl⟩⟩; refine ⟨_,rfl, ?_⟩) | ((with_reducible refine gate_callee (f:=8) rfl ?_); refine gl (some 240) Try.func8 #[.int .i64 t288] (h := ?_); (with_reducible refine (w6_num.calls t288 t304 _ A112.out).mono ?_); rintro e w' ⟨rfl,⟨nd,rfl⟩⟩; refine ⟨_,rfl, ?_⟩) | ((with_reducible refine gate_callee (f:=8) rfl ?_); refine gl (some 243) Try.func8 #[.int .i64 t292] (h := ?_); (with_reducible refine (w6_num.calls t292 t305 _ A113.out).mono ?_); rintro e w' ⟨rfl,⟨nd,rfl⟩⟩; refine ⟨_,rfl, ?_⟩) | ((with_reducible refine gate_callee (f:=8) rfl ?_); refine gl (some 246) Try.func8 #[.int .i64 t296] (h := ?_); (with_reducible refine (w6_num.calls t296 t306 _ A114.out).mono ?_); rintro e w' ⟨rfl,⟨nd,rfl⟩⟩; refine ⟨_,rfl, ?_⟩) | ((with_reducible refine gate_callee (f:=8) rfl ?_); refine gl (some 249) Try.func8 #[.int .i64 t299] (h := ?_); (with_reducible refine (w6_num.calls t299 t307 _ A115.out).mono ?_); rintro e w' ⟨rfl,⟨nd,rfl⟩⟩; refine ⟨_,rfl, ?_⟩) | ((with_reducible refine gate_callee (f:=8) rfl ?_); refine gl (some 252) Try.func8 #[.int .i64 t302] (h := ?_); (with_reducible refine (w6_num.calls t302 t308 _ A116.out).mono ?_); rintro e w' ⟨rfl,⟨nd,rfl⟩⟩; refine ⟨_,rfl, ?_⟩))
                             go_meet
                             case rel => exact ⟨_,(true),rf,H',⟨by have:=HK1.out; have:=HJ9.out; have:=HK3.out; have:=HK4.out; have:=HJ31.out; first | omega | exact Nat.le_refl _⟩,⟨kk BK238⟩,⟨ck HR297_7⟩,⟨ck HR300_7⟩,⟨bw HB⟩⟩
                            show (let G_ : Prop:=_; G_)
                            intro G_
                            exact (let_tmp i_ : Nonempty G_:=(((⟨by
                             subst G_
                             rw [if_pos c118] at H
                             obtain ⟨c118b0,c118b1⟩:=bT c118
                             clear c118
                             by_cases c119 : t287.toList = t241.toList; rotate_left
                             ·rw [if_neg c119] at H
                              obtain ⟨c119b0,c119b1⟩:=bF c119
                              have H':=Aside0.mk H
                              clear H
                              go_wp2_with (first | ((with_reducible refine gate_callee (f:=8) rfl ?_); refine gl (some 238) Try.func8 #[.int .i64 t286] (h := ?_); (with_reducible refine (w6_num.calls t286 t303 _ A111.out).mono ?_); rintro e w' ⟨rfl,⟨nd,rfl⟩⟩; refine ⟨_,rfl, ?_⟩) | ((with_reducible refine gate_callee (f:=8) rfl ?_); refine gl (some 240) Try.func8 #[.int .i64 t288] (h := ?_); (with_reducible refine (w6_num.calls t288 t304 _ A112.out).mono ?_); rintro e w' ⟨rfl,⟨nd,rfl⟩⟩; refine ⟨_,rfl, ?_⟩) | ((with_reducible refine gate_callee (f:=8) rfl ?_); refine gl (some 243) Try.func8 #[.int .i64 t292] (h := ?_); (with_reducible refine (w6_num.calls t292 t305 _ A113.out).mono ?_); rintro e w' ⟨rfl,⟨nd,rfl⟩⟩; refine ⟨_,rfl, ?_⟩) | ((with_reducible refine gate_callee (f:=8) rfl ?_); refine gl (some 246) Try.func8 #[.int .i64 t296] (h := ?_); (with_reducible refine (w6_num.calls t296 t306 _ A114.out).mono ?_); rintro e w' ⟨rfl,⟨nd,rfl⟩⟩; refine ⟨_,rfl, ?_⟩) | ((with_reducible refine gate_callee (f:=8) rfl ?_); refine gl (some 249) Try.func8 #[.int .i64 t299] (h := ?_); (with_reducible refine (w6_num.calls t299 t307 _ A115.out).mono ?_); rintro e w' ⟨rfl,⟨nd,rfl⟩⟩; refine ⟨_,rfl, ?_⟩) | ((with_reducible refine gate_callee (f:=8) rfl ?_); refine gl (some 252) Try.func8 #[.int .i64 t302] (h := ?_); (with_reducible refine (w6_num.calls t302 t308 _ A116.out).mono ?_); rintro e w' ⟨rfl,⟨nd,rfl⟩⟩; refine ⟨_,rfl, ?_⟩))
                              go_meet
                              case rel => exact ⟨_,(true),rf,H',⟨by have:=HK1.out; have:=HJ9.out; have:=HK3.out; have:=HK4.out; have:=HJ31.out; first | omega | exact Nat.le_refl _⟩,⟨kk BK238⟩,⟨ck HR297_7⟩,⟨ck HR300_7⟩,⟨bw HB⟩⟩
                             show (let G_ : Prop:=_; G_)
                             intro G_
                             exact (let_tmp i_ : Nonempty G_:=(((⟨by
                              subst G_
                              rw [if_pos c119] at H
                              obtain ⟨c119b0,c119b1⟩:=bT c119
                              clear c119
                              by_cases c120 : (t291 == t295) = true
                              ·rw [if_pos c120] at H
                               have c120b0 : (t291 == t295) = true:=c120
                               (try (have c120b1 : decide (t291 = t295) = true:=by simpa using c120))
                               (try (have c120b2 : (t291 == t295) = true:=by simpa using c120))
                               clear c120
                               have H':=Aside0.mk H
                               clear H
                               go_wp2_with (first | ((with_reducible refine gate_callee (f:=8) rfl ?_); refine gl (some 238) Try.func8 #[.int .i64 t286] (h := ?_); (with_reducible refine (w6_num.calls t286 t303 _ A111.out).mono ?_); rintro e w' ⟨rfl,⟨nd,rfl⟩⟩; refine ⟨_,rfl, ?_⟩) | ((with_reducible refine gate_callee (f:=8) rfl ?_); refine gl (some 240) Try.func8 #[.int .i64 t288] (h := ?_); (with_reducible refine (w6_num.calls t288 t304 _ A112.out).mono ?_); rintro e w' ⟨rfl,⟨nd,rfl⟩⟩; refine ⟨_,rfl, ?_⟩) | ((with_reducible refine gate_callee (f:=8) rfl ?_); refine gl (some 243) Try.func8 #[.int .i64 t292] (h := ?_); (with_reducible refine (w6_num.calls t292 t305 _ A113.out).mono ?_); rintro e w' ⟨rfl,⟨nd,rfl⟩⟩; refine ⟨_,rfl, ?_⟩) | ((with_reducible refine gate_callee (f:=8) rfl ?_); refine gl (some 246) Try.func8 #[.int .i64 t296] (h := ?_); (with_reducible refine (w6_num.calls t296 t306 _ A114.out).mono ?_); rintro e w' ⟨rfl,⟨nd,rfl⟩⟩; refine ⟨_,rfl, ?_⟩) | ((with_reducible refine gate_callee (f:=8) rfl ?_); refine gl (some 249) Try.func8 #[.int .i64 t299] (h := ?_); (with_reducible refine (w6_num.calls t299 t307 _ A115.out).mono ?_); rintro e w' ⟨rfl,⟨nd,rfl⟩⟩; refine ⟨_,rfl, ?_⟩) | ((with_reducible refine gate_callee (f:=8) rfl ?_); refine gl (some 252) Try.func8 #[.int .i64 t302] (h := ?_); (with_reducible refine (w6_num.calls t302 t308 _ A116.out).mono ?_); rintro e w' ⟨rfl,⟨nd,rfl⟩⟩; refine ⟨_,rfl, ?_⟩))
                               go_meet
                               case rel => exact ⟨_,(true),rf,H',⟨by have:=HK1.out; have:=HJ9.out; have:=HK3.out; have:=HK4.out; have:=HJ31.out; first | omega | exact Nat.le_refl _⟩,⟨kk BK238⟩,⟨ck HR297_7⟩,⟨ck HR300_7⟩,⟨bw HB⟩⟩
                              rw [if_neg c120] at H
                              have c120b0 : (t291 == t295) = false:=by simpa using c120
                              (try (have c120b1 : decide (t291 = t295) = false:=by simpa using c120))
                              (try (have c120b2 : (t291 == t295) = false:=by simpa using c120))
                              (try (have c120b3 : ¬ (t291 = t295):=by simpa using c120))
                              clear c120
                              by_cases c121 : t298 = true
                              ·subst c121
                               rw [if_pos rfl] at H
                               have H':=Aside0.mk H
                               clear H
                               go_wp2_with (first | ((with_reducible refine gate_callee (f:=8) rfl ?_); refine gl (some 238) Try.func8 #[.int .i64 t286] (h := ?_); (with_reducible refine (w6_num.calls t286 t303 _ A111.out).mono ?_); rintro e w' ⟨rfl,⟨nd,rfl⟩⟩; refine ⟨_,rfl, ?_⟩) | ((with_reducible refine gate_callee (f:=8) rfl ?_); refine gl (some 240) Try.func8 #[.int .i64 t288] (h := ?_); (with_reducible refine (w6_num.calls t288 t304 _ A112.out).mono ?_); rintro e w' ⟨rfl,⟨nd,rfl⟩⟩; refine ⟨_,rfl, ?_⟩) | ((with_reducible refine gate_callee (f:=8) rfl ?_); refine gl (some 243) Try.func8 #[.int .i64 t292] (h := ?_); (with_reducible refine (w6_num.calls t292 t305 _ A113.out).mono ?_); rintro e w' ⟨rfl,⟨nd,rfl⟩⟩; refine ⟨_,rfl, ?_⟩) | ((with_reducible refine gate_callee (f:=8) rfl ?_); refine gl (some 246) Try.func8 #[.int .i64 t296] (h := ?_); (with_reducible refine (w6_num.calls t296 t306 _ A114.out).mono ?_); rintro e w' ⟨rfl,⟨nd,rfl⟩⟩; refine ⟨_,rfl, ?_⟩) | ((with_reducible refine gate_callee (f:=8) rfl ?_); refine gl (some 249) Try.func8 #[.int .i64 t299] (h := ?_); (with_reducible refine (w6_num.calls t299 t307 _ A115.out).mono ?_); rintro e w' ⟨rfl,⟨nd,rfl⟩⟩; refine ⟨_,rfl, ?_⟩) | ((with_reducible refine gate_callee (f:=8) rfl ?_); refine gl (some 252) Try.func8 #[.int .i64 t302] (h := ?_); (with_reducible refine (w6_num.calls t302 t308 _ A116.out).mono ?_); rintro e w' ⟨rfl,⟨nd,rfl⟩⟩; refine ⟨_,rfl, ?_⟩))
                               go_meet
                               case rel => exact ⟨_,(t301),rf,H',⟨by have:=HK1.out; have:=HJ9.out; have:=HK3.out; have:=HK4.out; have:=HJ31.out; first | omega | exact Nat.le_refl _⟩,⟨kk BK238⟩,⟨ck HR297_7⟩,⟨ck HR300_7⟩,⟨bw HB⟩⟩
                              replace c121:=Bool.eq_false_iff.mpr c121
                              subst c121
                              rw [if_neg nft] at H
                              have H':=Aside0.mk H
                              clear H
                              go_wp2_with (first | ((with_reducible refine gate_callee (f:=8) rfl ?_); refine gl (some 238) Try.func8 #[.int .i64 t286] (h := ?_); (with_reducible refine (w6_num.calls t286 t303 _ A111.out).mono ?_); rintro e w' ⟨rfl,⟨nd,rfl⟩⟩; refine ⟨_,rfl, ?_⟩) | ((with_reducible refine gate_callee (f:=8) rfl ?_); refine gl (some 240) Try.func8 #[.int .i64 t288] (h := ?_); (with_reducible refine (w6_num.calls t288 t304 _ A112.out).mono ?_); rintro e w' ⟨rfl,⟨nd,rfl⟩⟩; refine ⟨_,rfl, ?_⟩) | ((with_reducible refine gate_callee (f:=8) rfl ?_); refine gl (some 243) Try.func8 #[.int .i64 t292] (h := ?_); (with_reducible refine (w6_num.calls t292 t305 _ A113.out).mono ?_); rintro e w' ⟨rfl,⟨nd,rfl⟩⟩; refine ⟨_,rfl, ?_⟩) | ((with_reducible refine gate_callee (f:=8) rfl ?_); refine gl (some 246) Try.func8 #[.int .i64 t296] (h := ?_); (with_reducible refine (w6_num.calls t296 t306 _ A114.out).mono ?_); rintro e w' ⟨rfl,⟨nd,rfl⟩⟩; refine ⟨_,rfl, ?_⟩) | ((with_reducible refine gate_callee (f:=8) rfl ?_); refine gl (some 249) Try.func8 #[.int .i64 t299] (h := ?_); (with_reducible refine (w6_num.calls t299 t307 _ A115.out).mono ?_); rintro e w' ⟨rfl,⟨nd,rfl⟩⟩; refine ⟨_,rfl, ?_⟩) | ((with_reducible refine gate_callee (f:=8) rfl ?_); refine gl (some 252) Try.func8 #[.int .i64 t302] (h := ?_); (with_reducible refine (w6_num.calls t302 t308 _ A116.out).mono ?_); rintro e w' ⟨rfl,⟨nd,rfl⟩⟩; refine ⟨_,rfl, ?_⟩))
                              go_meet
                              case rel => exact ⟨_,(true),rf,H',⟨by have:=HK1.out; have:=HJ9.out; have:=HK3.out; have:=HK4.out; have:=HJ31.out; first | omega | exact Nat.le_refl _⟩,⟨kk BK238⟩,⟨ck HR297_7⟩,⟨ck HR300_7⟩,⟨bw HB⟩⟩
                              ⟩ : Nonempty G_)) :); w6_DocToggles.bxo (G:=G_) (inferInstanceAs (Nonempty G_)))
                             ⟩ : Nonempty G_)) :); w6_DocToggles.bxo (G:=G_) (inferInstanceAs (Nonempty G_)))
                            ⟩ : Nonempty G_)) :); w6_DocToggles.bxo (G:=G_) (inferInstanceAs (Nonempty G_)))
                          case rest =>
                           clear HC78
                           try clear hx289_0; try clear hx289_1; try clear hx289_10; try clear hx289_2; try clear hx289_3; try clear hx289_4; try clear hx289_5; try clear hx289_6; try clear hx289_7; try clear hx289_8; try clear hx289_9; try clear hx289_0; try clear hx289_1; try clear hx289_10; try clear hx289_2; try clear hx289_3; try clear hx289_4; try clear hx289_5; try clear hx289_6; try clear hx289_7; try clear hx289_8; try clear hx289_9; try clear hx293_0; try clear hx293_1; try clear hx293_10; try clear hx293_2; try clear hx293_3; try clear hx293_4; try clear hx293_5; try clear hx293_6; try clear hx293_7; try clear hx293_8; try clear hx293_9; try clear hx293_0; try clear hx293_1; try clear hx293_10; try clear hx293_2; try clear hx293_3; try clear hx293_4; try clear hx293_5; try clear hx293_6; try clear hx293_7; try clear hx293_8; try clear hx293_9; try clear hx297_0; try clear hx297_1; try clear hx297_10; try clear hx297_2; try clear hx297_3; try clear hx297_4; try clear hx297_5; try clear hx297_6; try clear hx297_7; try clear hx297_8; try clear hx297_9; try clear hx300_0; try clear hx300_1; try clear hx300_10; try clear hx300_2; try clear hx300_3; try clear hx300_4; try clear hx300_5; try clear hx300_6; try clear hx300_7; try clear hx300_8; try clear hx300_9; try clear p289; try clear p293; try clear p293; try clear p297; try clear p300; try clear q289; try clear q293; try clear q293; try clear q297; try clear q300
                           obtain ⟨kq,x276_77,rfl,HA,HJ77,BK238,HR297_7,HR300_7,HB⟩:=hcut
                           cases kq with
                           | zero => exact absurd HA.out (by simp [w6_DocToggles.j5])
                           | succ kj77 =>
                            have H:=HA.out
                            clear HA
                            simp only [w6_DocToggles.j5] at H
                            by_cases c122 : x276_77 = true
                            ·subst c122
                             rw [if_pos rfl] at H
                             obtain rfl:=Option.some.inj H
                             go_wp2
                             go_ret
                             exact ⟨re,bw HB⟩
                            replace c122:=Bool.eq_false_iff.mpr c122
                            subst c122
                            rw [if_neg nft] at H
                            have H':=Aside0.mk H
                            clear H
                            go_wp2
                            go_roundg kj77
                            case measure => have:=HK1.out; have:=HJ9.out; have:=HK3.out; have:=HK4.out; have:=HJ31.out; have:=HJ77.out; omega
                            case rel => exact ⟨(wrap64 (x7_3 + 1)),rf,H',⟨by have:=HK1.out; have:=HJ9.out; have:=HK3.out; have:=HK4.out; have:=HJ31.out; have:=HJ77.out; omega⟩,⟨kk BK238⟩,⟨bw HB⟩⟩
                          ⟩ : Nonempty G_)) :); w6_DocToggles.bxo (G:=G_) (inferInstanceAs (Nonempty G_)))
                         ⟩ : Nonempty G_)) :); w6_DocToggles.bxo (G:=G_) (inferInstanceAs (Nonempty G_)))
                        ⟩ : Nonempty G_)) :); w6_DocToggles.bxo (G:=G_) (inferInstanceAs (Nonempty G_)))
                       ⟩ : Nonempty G_)) :); w6_DocToggles.bxo (G:=G_) (inferInstanceAs (Nonempty G_)))
                      ⟩ : Nonempty G_)) :); w6_DocToggles.bxo (G:=G_) (inferInstanceAs (Nonempty G_)))
                     ⟩ : Nonempty G_)) :); w6_DocToggles.bxo (G:=G_) (inferInstanceAs (Nonempty G_)))
                    ⟩ : Nonempty G_)) :); w6_DocToggles.bxo (G:=G_) (inferInstanceAs (Nonempty G_)))
                   ⟩ : Nonempty G_)) :); w6_DocToggles.bxo (G:=G_) (inferInstanceAs (Nonempty G_)))
              ⟩ : Nonempty G_)) :); w6_DocToggles.bxo (G:=G_) (inferInstanceAs (Nonempty G_)))
             ⟩ : Nonempty G_)) :); w6_DocToggles.bxo (G:=G_) (inferInstanceAs (Nonempty G_)))
            ⟩ : Nonempty G_)) :); w6_DocToggles.bxo (G:=G_) (inferInstanceAs (Nonempty G_)))
         ⟩ : Nonempty G_)) :); w6_DocToggles.bxo (G:=G_) (inferInstanceAs (Nonempty G_)))
        ⟩ : Nonempty G_)) :); w6_DocToggles.bxo (G:=G_) (inferInstanceAs (Nonempty G_)))
       ⟩ : Nonempty G_)) :); w6_DocToggles.bxo (G:=G_) (inferInstanceAs (Nonempty G_)))
      ⟩ : Nonempty G_)) :); w6_DocToggles.bxo (G:=G_) (inferInstanceAs (Nonempty G_)))
end Go.Proofs.Ytonoaflfobajcaa.L
end
