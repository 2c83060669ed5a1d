/- Part 11 of the proof that for every argument the laws DocWrites, DocGoes, DocUndoes and DocIdles answer true: with more and more that is written, that goes, that is toggled, or that is toggled idly, a row's text and its visible elements are the page's. -/
import Derived.Test.YtonoaflfobajcaaDoorZDW10
section
namespace Go.Proofs.YtonoaflfobajcaaDoor.L
open Go.RowKit Go.Proofs.YtonoaflfobajcaaDoorW.PrintWords Go.Proofs.YtonoaflfobajcaaDoorW.PrintLast Go.Proofs.YtonoaflfobajcaaDoorW.PrintMore
attribute [local go_sem] max2_int min2_int max_two min_two max_three min_three max_four min_four
set_option linter.unusedVariables false
set_option linter.unusedSimpArgs false
theorem w6_with.bxo {G : Prop} (h : Nonempty G) : G:=h.elim id
mutual
def w6_with.l0 : Nat → Int → Int → List (List (SOp)) → List (SElem) → List (SOp) → List Int → Option (Bool)
 | 0,_,_,_,_,_,_ => none
 | k + 1,x1,x5,x407000,x407001,x407002,x407003 => if x5 < (x407000.length : Int) then (w6_with.j1 k x1 x5 (decide (x5 < 4)) x407000 x407001 x407002 x407003) else (w6_with.j1 k x1 x5 false x407000 x407001 x407002 x407003)
def w6_with.j1 : Nat → Int → Int → Bool → List (List (SOp)) → List (SElem) → List (SOp) → List Int → Option (Bool)
 | 0,_,_,_,_,_,_,_ => none
 | k + 1,x1,x5,x27,x407000,x407001,x407002,x407003 => if x27 = true then (if 0 ≤ x5 then (if x5 < (x407000.length : Int) then ((r4_Row.f k (rd_LOp x407000 x5)).bind fun t410 => (if t410 = true then ((r0_CopyOps.f k (rd_LOp x407000 x5)).bind fun t412 => (w6_with.l1 k x1 x5 t412 0 x407000 x407001 x407002 x407003)) else (w6_with.l0 k x1 (wrap64 (x5 + 1)) x407000 x407001 x407002 x407003))) else (none)) else (none)) else ((w6_wakes.f).bind fun t408 => (some t408))
def w6_with.l1 : Nat → Int → Int → List (SOp) → Int → List (List (SOp)) → List (SElem) → List (SOp) → List Int → Option (Bool)
 | 0,_,_,_,_,_,_,_,_ => none
 | k + 1,x1,x5,x6,x7,x407000,x407001,x407002,x407003 => if x7 < 8 then ((r4_Many.f k x6 (wrap64 (1 + (Int.tmod (wrap64 (x7 + x5)) 3)))).bind fun t415 => ((r4_Visible.f k x6).bind fun t417 => (if x1 = 0 then (if (t417.length : Int) > 0 then (if (Int.tmod x7 2) = 0 then (if (t417.length : Int) = 0 then (none) else (if 0 ≤ (Int.tmod x7 (t417.length : Int)) then (if (Int.tmod x7 (t417.length : Int)) < (t417.length : Int) then (w6_with.j3 k x1 x5 x6 x7 x407000 x407001 x407002 x407003 (wrap64 (1 + (Int.tmod (wrap64 (x7 + x5)) 3))) (wrap64 (t415 + 1)) 1 ((rd_Elem t417 (Int.tmod x7 (t417.length : Int))).f0) ((rd_Elem t417 (Int.tmod x7 (t417.length : Int))).f1) ((rd_Elem t417 (Int.tmod x7 (t417.length : Int))).f2) (⟨#[120,121]⟩ : ByteArray) ([] : List (SElem)) 0 0 0) else (none)) else (none))) else (w6_with.j3 k x1 x5 x6 x7 x407000 x407001 x407002 x407003 (wrap64 (1 + (Int.tmod (wrap64 (x7 + x5)) 3))) (wrap64 (t415 + 1)) 1 0 0 0 (⟨#[120,121]⟩ : ByteArray) ([] : List (SElem)) 0 0 0)) else (w6_with.j3 k x1 x5 x6 x7 x407000 x407001 x407002 x407003 (wrap64 (1 + (Int.tmod (wrap64 (x7 + x5)) 3))) (wrap64 (t415 + 1)) 1 0 0 0 (⟨#[120,121]⟩ : ByteArray) ([] : List (SElem)) 0 0 0)) else (if x1 = 1 then (if (t417.length : Int) = 0 then (w6_with.l1 k x1 x5 x6 (wrap64 (x7 + 1)) x407000 x407001 x407002 x407003) else (if 0 ≤ (Int.tmod (wrap64 (x7 * 5)) (t417.length : Int)) then (if (Int.tmod (wrap64 (x7 * 5)) (t417.length : Int)) < (t417.length : Int) then (w6_with.j3 k x1 x5 x6 x7 x407000 x407001 x407002 x407003 (wrap64 (1 + (Int.tmod (wrap64 (x7 + x5)) 3))) (wrap64 (t415 + 1)) 1 0 0 0 (⟨#[]⟩ : ByteArray) (([(⟨(rd_Elem t417 (Int.tmod (wrap64 (x7 * 5)) (t417.length : Int))).f0,(rd_Elem t417 (Int.tmod (wrap64 (x7 * 5)) (t417.length : Int))).f1,(rd_Elem t417 (Int.tmod (wrap64 (x7 * 5)) (t417.length : Int))).f2⟩ : SElem)] : List (SElem))) 0 0 0) else (none)) else (none))) else (if (x6.length : Int) = 0 then (w6_with.l1 k x1 x5 x6 (wrap64 (x7 + 1)) x407000 x407001 x407002 x407003) else (if 0 ≤ (Int.tmod (wrap64 ((wrap64 (x7 * 3)) + x1)) (x6.length : Int)) then (if (Int.tmod (wrap64 ((wrap64 (x7 * 3)) + x1)) (x6.length : Int)) < (x6.length : Int) then (if ((rd_Op x6 (Int.tmod (wrap64 ((wrap64 (x7 * 3)) + x1)) (x6.length : Int))).f2) = 1 then ((r4_Count.f k x6 ((rd_Op x6 (Int.tmod (wrap64 ((wrap64 (x7 * 3)) + x1)) (x6.length : Int))).f0) ((rd_Op x6 (Int.tmod (wrap64 ((wrap64 (x7 * 3)) + x1)) (x6.length : Int))).f1)).bind fun t427 => (if x1 = 3 then (if (Int.tmod x7 2) = 1 then (w6_with.j3 k x1 x5 x6 x7 x407000 x407001 x407002 x407003 (wrap64 (1 + (Int.tmod (wrap64 (x7 + x5)) 3))) (wrap64 (t415 + 1)) 2 0 0 0 (⟨#[]⟩ : ByteArray) ([] : List (SElem)) ((rd_Op x6 (Int.tmod (wrap64 ((wrap64 (x7 * 3)) + x1)) (x6.length : Int))).f0) ((rd_Op x6 (Int.tmod (wrap64 ((wrap64 (x7 * 3)) + x1)) (x6.length : Int))).f1) (wrap64 (t427 + 1))) else (w6_with.j3 k x1 x5 x6 x7 x407000 x407001 x407002 x407003 (wrap64 (1 + (Int.tmod (wrap64 (x7 + x5)) 3))) (wrap64 (t415 + 1)) 2 0 0 0 (⟨#[]⟩ : ByteArray) ([] : List (SElem)) ((rd_Op x6 (Int.tmod (wrap64 ((wrap64 (x7 * 3)) + x1)) (x6.length : Int))).f0) ((rd_Op x6 (Int.tmod (wrap64 ((wrap64 (x7 * 3)) + x1)) (x6.length : Int))).f1) t427)) else (w6_with.j3 k x1 x5 x6 x7 x407000 x407001 x407002 x407003 (wrap64 (1 + (Int.tmod (wrap64 (x7 + x5)) 3))) (wrap64 (t415 + 1)) 2 0 0 0 (⟨#[]⟩ : ByteArray) ([] : List (SElem)) ((rd_Op x6 (Int.tmod (wrap64 ((wrap64 (x7 * 3)) + x1)) (x6.length : Int))).f0) ((rd_Op x6 (Int.tmod (wrap64 ((wrap64 (x7 * 3)) + x1)) (x6.length : Int))).f1) t427))) else (w6_with.l1 k x1 x5 x6 (wrap64 (x7 + 1)) x407000 x407001 x407002 x407003)) else (none)) else (none))))))) else (w6_with.l0 k x1 (wrap64 (x5 + 1)) x407000 x407001 x407002 x407003)
def w6_with.j3 : Nat → Int → Int → List (SOp) → Int → List (List (SOp)) → List (SElem) → List (SOp) → List Int → Int → Int → Int → Int → Int → Int → ByteArray → List (SElem) → Int → Int → Int → Option (Bool)
 | 0,_,_,_,_,_,_,_,_,_,_,_,_,_,_,_,_,_,_,_ => none
 | k + 1,x1,x5,x6,x7,x407000,x407001,x407002,x407003,x417000,x417001,x417002,x417003,x417004,x417005,x417006,x417007,x417008,x417009,x417010 => (r4_Behind.f k x6 x417000 x417001 x417002 x417003 x417004 x417005 x417006 x417007 x417008 x417009 x417010).bind fun t428 => ((r4_Row.f k t428).bind fun t431 => (if t431 = true then ((doc_Text.f t428).bind fun bt432 => ((doc_Visible.f t428).bind fun bt434 => ((w6_num.f bt432.2).bind fun t438 => (if t438 = 0 then ((w6_num.f bt434.2).bind fun t439 => (if t439 = 0 then ((r4_Text.f k t428).bind fun t440 => (if bt432.1.toList = t440.toList then ((r4_Visible.f k t428).bind fun t441 => ((r0_EqElems.f k bt434.1 t441).bind fun t444 => (w6_with.j4 k x1 x5 t428 x7 (!t444) x407000 x407001 x407002 x407003))) else (w6_with.j4 k x1 x5 t428 x7 true x407000 x407001 x407002 x407003))) else (w6_with.j4 k x1 x5 t428 x7 true x407000 x407001 x407002 x407003))) else (w6_with.j4 k x1 x5 t428 x7 true x407000 x407001 x407002 x407003))))) else (w6_with.l1 k x1 x5 x6 (wrap64 (x7 + 1)) x407000 x407001 x407002 x407003)))
def w6_with.j4 : Nat → Int → Int → List (SOp) → Int → Bool → List (List (SOp)) → List (SElem) → List (SOp) → List Int → Option (Bool)
 | 0,_,_,_,_,_,_,_,_,_ => none
 | k + 1,x1,x5,x6,x7,x175,x407000,x407001,x407002,x407003 => if x175 = true then (some false) else (w6_with.l1 k x1 x5 x6 (wrap64 (x7 + 1)) x407000 x407001 x407002 x407003)
end
def w6_with.f (k : Nat) (l0_0 : List (List (SOp))) (l0_1 : List (SElem)) (l0_2 : List (SOp)) (l0_3 : List Int) (a1 : Int) : Option (Bool):=(w5_Heavy.f k l0_0 l0_1 l0_2 l0_3).bind fun t407 => (if t407 = true then (some true) else (w6_with.l0 k a1 0 l0_0 l0_1 l0_2 l0_3))
def w6_with.T18 : Bool × List (List Nat × List Nat):=(true,[([],[]),([0],[0]),([],[]),([2],[2]),([],[]),([],[]),([5],[5]),([],[]),([7],[7]),([4,6,8],[4,6,8]),([],[]),([10,9],[10]),([0,1,10,11],[]),([12,1,11,0,1,10,11],[1,12]),([0,1,2,3,10,11,12,13],[]),([14,3,13,0,1,2,3,10,11,12,13],[3,14]),([0,1,2,3,4,5,6,7,8,9,10,11,12,13,14,15],[]),([16,9,15,0,1,2,3,4,5,6,7,8,9,10,11,12,13,14,15],[9,16])])
def w6_with.B18 : List Nat:=[0,1,0,4,0,0,32,0,128,496,0,2032,4083,8179,16383,32767,65535,131071]
theorem w6_with.tab18 : rtab .any (opsOf Tryd.f30 18) = w6_with.T18:=by kernel_rfl
theorem w6_with.bits18 : waitsOk w6_with.T18.2 w6_with.B18 = true:=by kernel_rfl
def w6_with.T27 : Bool × List (List Nat × List Nat):=(true,[([],[]),([],[]),([1],[1]),([],[]),([3],[3]),([2,4],[2,4]),([0,5],[0,5]),([6],[6]),([7],[7]),([],[]),([9],[9]),([0,1,2,3,4,5,6,7,8,9,10],[]),([11,8,10,0,1,2,3,4,5,6,7,8,9,10],[8,11])])
def w6_with.B27 : List Nat:=[0,0,2,0,8,30,63,127,255,0,512,2047,4095]
theorem w6_with.tab27 : rtab .any (opsOf Tryd.f30 27) = w6_with.T27:=by kernel_rfl
theorem w6_with.bits27 : waitsOk w6_with.T27.2 w6_with.B27 = true:=by kernel_rfl
set_option maxHeartbeats 40000000 in
set_option maxRecDepth 100000 in
theorem w6_with.calls (k : Nat) (A0_0 : Option Addr) (c0_0 : Nat) (l0_0 : List (List (SOp))) (A0_1 : Option Addr) (c0_1 : Nat) (l0_1 : List (SElem)) (A0_2 : Option Addr) (c0_2 : Nat) (l0_2 : List (SOp)) (A0_3 : Option Addr) (c0_3 : Nat) (l0_3 : List Int) (a1 : Int) (r : Bool) (w : World) (hr0_0 : Kd.C (Kd.slice 55 kOp) w A0_0 l0_0.length l0_0) (hc0_0 : l0_0.length ≤ c0_0) (hr0_1 : Kd.C kElem w A0_1 l0_1.length l0_1) (hc0_1 : l0_1.length ≤ c0_1) (hr0_2 : Kd.C kOp w A0_2 l0_2.length l0_2) (hc0_2 : l0_2.length ≤ c0_2) (hr0_3 : Kd.C (Kd.int .i64) w A0_3 l0_3.length l0_3) (hc0_3 : l0_3.length ≤ c0_3) (hT : GT w) (h : w6_with.f k l0_0 l0_1 l0_2 l0_3 a1 = some r) :
  Calls Tryd.prog 30 #[.agg #[.slice A0_0 l0_0.length c0_0, .slice A0_1 l0_1.length c0_1, .slice A0_2 l0_2.length c0_2, .slice A0_3 l0_3.length c0_3], .int .i64 a1] w fun e w' => e = .returned (.bool r) ∧ Below w.heap.size w w':=by
 have hu27:=Tryd.underlying27
 have hu55:=Tryd.underlying55
 have hu43:=Tryd.underlying43
 have HR0_0:=Aside0.mk hr0_0
 have HC0_0:=Aside0.mk hc0_0
 clear hr0_0 hc0_0
 have HR0_1:=Aside0.mk hr0_1
 have HC0_1:=Aside0.mk hc0_1
 clear hr0_1 hc0_1
 have HR0_2:=Aside0.mk hr0_2
 have HC0_2:=Aside0.mk hc0_2
 clear hr0_2 hc0_2
 have HR0_3:=Aside0.mk hr0_3
 have HC0_3:=Aside0.mk hc0_3
 clear hr0_3 hc0_3
 have HB:=Aside0.mk (Below.refl w.heap.size w)
 unfold w6_with.f at h; have H:=h
 clear h
 obtain ⟨t407,A3,H⟩:=bE H
 by_cases c4 : t407 = true
 ·subst c4
  rw [if_pos rfl] at H
  obtain rfl:=Option.some.inj H
  go_enter Tryd.func30,Tryd.ntmps30
  go_wp2_with (first | ((with_reducible refine gate_dst (N:=2) rfl ?_); refine bx 2 #[.slice A0_0 l0_0.length c0_0, .slice A0_1 l0_1.length c0_1, .slice A0_2 l0_2.length c0_2, .slice A0_3 l0_3.length c0_3] 27 (h := ?_); intro gb406 hg w5 hbox hb; have BK406:=Aside0.mk (hbox); have GW406:=bz HB hg; have GE406:=bz HB hg; replace HB:=bs HB hb; clear hb hbox hg; obtain ⟨_,_,_,_,_,_,_,_⟩:=kc4 BK406) | ((with_reducible refine gate_callee (f:=12) rfl ?_); refine gl (some 18) Tryd.func12 #[.agg #[.slice A0_0 l0_0.length c0_0, .slice A0_1 l0_1.length c0_1, .slice A0_2 l0_2.length c0_2, .slice A0_3 l0_3.length c0_3]] (h := ?_); (with_reducible refine (w5_Heavy.calls k _ _ l0_0 _ _ l0_1 _ _ l0_2 _ _ l0_3 true _ ?side1 ?side2 ?side3 ?side4 ?side5 ?side6 ?side7 ?side8 A3.out).mono ?_); (case side1 => exact cb HR0_0 HB); (case side2 => exact HC0_0.out); (case side3 => exact cb HR0_1 HB); (case side4 => exact HC0_1.out); (case side5 => exact cb HR0_2 HB); (case side6 => exact HC0_2.out); (case side7 => exact cb HR0_3 HB); (case side8 => exact HC0_3.out); rintro e w7 ⟨rfl,hb⟩; refine ⟨_,rfl, ?_⟩; replace BK406:=bl BK406 hb; replace HB:=bs HB hb; clear hb))
  go_ret
  exact ⟨re,bw HB⟩
 replace c4:=Bool.eq_false_iff.mpr c4
 subst c4
 rw [if_neg nft] at H
 have H':=Aside0.mk H
 clear H
 go_enter Tryd.func30,Tryd.ntmps30
 go_wp2_with (first | ((with_reducible refine gate_dst (N:=2) rfl ?_); refine bx 2 #[.slice A0_0 l0_0.length c0_0, .slice A0_1 l0_1.length c0_1, .slice A0_2 l0_2.length c0_2, .slice A0_3 l0_3.length c0_3] 27 (h := ?_); intro gb406 hg w8 hbox hb; have BK406:=Aside0.mk (hbox); have GW406:=bz HB hg; have GE406:=bz HB hg; replace HB:=bs HB hb; clear hb hbox hg; obtain ⟨_,_,_,_,_,_,_,_⟩:=kc4 BK406) | ((with_reducible refine gate_callee (f:=12) rfl ?_); refine gl (some 18) Tryd.func12 #[.agg #[.slice A0_0 l0_0.length c0_0, .slice A0_1 l0_1.length c0_1, .slice A0_2 l0_2.length c0_2, .slice A0_3 l0_3.length c0_3]] (h := ?_); (with_reducible refine (w5_Heavy.calls k _ _ l0_0 _ _ l0_1 _ _ l0_2 _ _ l0_3 false _ ?side1 ?side2 ?side3 ?side4 ?side5 ?side6 ?side7 ?side8 A3.out).mono ?_); (case side1 => exact cb HR0_0 HB); (case side2 => exact HC0_0.out); (case side3 => exact cb HR0_1 HB); (case side4 => exact HC0_1.out); (case side5 => exact cb HR0_2 HB); (case side6 => exact HC0_2.out); (case side7 => exact cb HR0_3 HB); (case side8 => exact HC0_3.out); rintro e w10 ⟨rfl,hb⟩; refine ⟨_,rfl, ?_⟩; replace BK406:=bl BK406 hb; replace HB:=bs HB hb; clear hb))
 go_loopg [5] k (fun kq v5 w' => ∃ (x5_1 : Int),v5 = .int .i64 x5_1 ∧ Aside0 (w6_with.l0 kq a1 x5_1 l0_0 l0_1 l0_2 l0_3 = some r) ∧ Aside0 (kq ≤ k) ∧ Aside0 (w'.heap[gb406]? = some (.cells #[(.slice A0_0 l0_0.length c0_0),(.slice A0_1 l0_1.length c0_1),(.slice A0_2 l0_2.length c0_2),(.slice A0_3 l0_3.length c0_3)] 27 (0,0))) ∧ Aside0 (Below w.heap.size w w'))
 case atStart => exact ⟨(0),rf,H',⟨Nat.le_refl _⟩,⟨kk BK406⟩,⟨bw HB⟩⟩
 case round =>
  clear H'
  try clear c4
  obtain ⟨x5_1,rfl,HA,HK1,BK406,HB⟩:=hrel
  cases gk with
  | zero => exact absurd HA.out (by simp [w6_with.l0])
  | succ k1 =>
   have H:=HA.out
   clear HA
   simp only [w6_with.l0] at H
   have HC11:=Aside0.mk H
   clear H
   go_upto_region 4 with (fail)
   go_cut [27] (fun v27 wc => ∃ (kq : Nat) (x27_10 : Bool),v27 = .bool x27_10 ∧ Aside0 (w6_with.j1 kq a1 x5_1 x27_10 l0_0 l0_1 l0_2 l0_3 = some r) ∧ Aside0 (kq ≤ k1) ∧ Aside0 (wc.heap[gb406]? = some (.cells #[(.slice A0_0 l0_0.length c0_0),(.slice A0_1 l0_1.length c0_1),(.slice A0_2 l0_2.length c0_2),(.slice A0_3 l0_3.length c0_3)] 27 (0,0))) ∧ Aside0 (Below w.heap.size w wc))
   case first =>
    have H:=HC11.out
    clear HC11
    by_cases c12 : x5_1 < (l0_0.length : Int)
    ·show (let G_ : Prop:=_; G_)
     intro G_
     exact (let_tmp i_ : Nonempty G_:=(((⟨by
      subst G_
      rw [if_pos c12] at H
      have c12b0:=decide_eq_true c12
      clear c12
      (first | rw [c12b0] | (simp only [i64_w,i32_w]; rw [c12b0]) | skip)
      have H':=Aside0.mk H
      clear H
      obtain ⟨_,_,_,_,_,_,_,_⟩:=kc4 BK406
      go_wp2
      go_meet
      case rel => exact ⟨_,(decide (x5_1 < 4)),rf,H',⟨by have:=HK1.out; first | omega | exact Nat.le_refl _⟩,⟨kk BK406⟩,⟨bw HB⟩⟩
      ⟩ : Nonempty G_)) :); w6_with.bxo (G:=G_) (inferInstanceAs (Nonempty G_)))
    rw [if_neg c12] at H
    have c12b0:=decide_eq_false c12
    clear c12
    (first | rw [c12b0] | (simp only [i64_w,i32_w]; rw [c12b0]) | skip)
    have H':=Aside0.mk H
    clear H
    obtain ⟨_,_,_,_,_,_,_,_⟩:=kc4 BK406
    go_wp2
    go_meet
    case rel => exact ⟨_,(false),rf,H',⟨by have:=HK1.out; first | omega | exact Nat.le_refl _⟩,⟨kk BK406⟩,⟨bw HB⟩⟩
   case rest =>
    clear HC11
    obtain ⟨kq,x27_10,rfl,HA,HJ10,BK406,HB⟩:=hcut
    cases kq with
    | zero => exact absurd HA.out (by simp [w6_with.j1])
    | succ kj10 =>
     have H:=HA.out
     clear HA
     simp only [w6_with.j1] at H
     by_cases c15 : x27_10 = true; rotate_left
     ·replace c15:=Bool.eq_false_iff.mpr c15
      subst c15
      rw [if_neg nft] at H
      obtain ⟨t408,A144,H⟩:=bE H
      obtain rfl:=Option.some.inj H
      go_wp2_with (first | ((with_reducible refine gate_callee (f:=74) rfl ?_); refine gl (some 176) Tryd.func74 #[] (h := ?_); (with_reducible refine (w6_wakes.calls  t408 _ A144.out).mono ?_); rintro e w145 ⟨rfl,hb⟩; refine ⟨_,rfl, ?_⟩; replace BK406:=bl BK406 hb; replace HB:=bs HB hb; clear hb))
      go_ret
      exact ⟨re,bw HB⟩
     show (let G_ : Prop:=_; G_)
     intro G_
     exact (let_tmp i_ : Nonempty G_:=(((⟨by
      subst G_
      subst c15
      rw [if_pos rfl] at H
      by_cases c16 : 0 ≤ x5_1; rotate_left
      ·rw [if_neg c16] at H
       exact absurd H (by simp)
      show (let G_ : Prop:=_; G_)
      intro G_
      exact (let_tmp i_ : Nonempty G_:=(((⟨by
       subst G_
       rw [if_pos c16] at H
       have c16b0:=decide_eq_true c16
       clear c16
       by_cases c17 : x5_1 < (l0_0.length : Int); rotate_left
       ·rw [if_neg c17] at H
        exact absurd H (by simp)
       show (let G_ : Prop:=_; G_)
       intro G_
       exact (let_tmp i_ : Nonempty G_:=(((⟨by
        subst G_
        rw [if_pos c17] at H
        have c17b0:=decide_eq_true c17
        clear c17
        obtain ⟨t410,A18,H⟩:=bE H
        by_cases c19 : t410 = true; rotate_left
        ·replace c19:=Bool.eq_false_iff.mpr c19
         subst c19
         rw [if_neg nft] at H
         have H':=Aside0.mk H
         clear H
         obtain ⟨_,_,_,_,_,_,_,_⟩:=kc4 BK406
         have p409 : 0 ≤ (x5_1 : Int):=od
         have q409 : x5_1 < (l0_0.length : Int):=od
         obtain ⟨ad409,A409_0,c409_0,e409,hx409_0,hl409_0,hi409_0⟩:=at_LOp HR0_0.out x5_1 p409 q409
         cases e409
         replace hx409_0:=cl HB hx409_0
         have HR409_0:=Aside0.mk hi409_0
         have HC409_0:=Aside0.mk hl409_0
         clear hi409_0 hl409_0
         replace p409:=eq_true p409
         replace q409:=eq_true q409
         go_wp2_with (first | ((with_reducible refine gate_callee (f:=15) rfl ?_); refine gl (some 35) Tryd.func15 #[.slice A409_0 (rd_LOp l0_0 x5_1).length c409_0] (h := ?_); (with_reducible refine (r4_Row.calls kj10 _ _ (rd_LOp l0_0 x5_1) false _ ?side1 ?side2 ?side3 A18.out).mono ?_); (case side1 => exact cb HR409_0 HB); (case side2 => exact HC409_0.out); (case side3 => exact (hT.below (bw HB))); rintro e w143 ⟨rfl,hb⟩; refine ⟨_,rfl, ?_⟩; replace BK406:=bl BK406 hb; replace HB:=bs HB hb; clear hb))
         go_roundg kj10
         case measure => have:=HK1.out; have:=HJ10.out; omega
         case rel => exact ⟨(wrap64 (x5_1 + 1)),rf,H',⟨by have:=HK1.out; have:=HJ10.out; omega⟩,⟨kk BK406⟩,⟨bw HB⟩⟩
        show (let G_ : Prop:=_; G_)
        intro G_
        exact (let_tmp i_ : Nonempty G_:=(((⟨by
         subst G_
         subst c19
         rw [if_pos rfl] at H
         obtain ⟨t412,A20,H⟩:=bE H
         have H':=Aside0.mk H
         clear H
         obtain ⟨_,_,_,_,_,_,_,_⟩:=kc4 BK406
         have p409 : 0 ≤ (x5_1 : Int):=od
         have q409 : x5_1 < (l0_0.length : Int):=od
         obtain ⟨ad409,A409_0,c409_0,e409,hx409_0,hl409_0,hi409_0⟩:=at_LOp HR0_0.out x5_1 p409 q409
         cases e409
         replace hx409_0:=cl HB hx409_0
         have HR409_0:=Aside0.mk hi409_0
         have HC409_0:=Aside0.mk hl409_0
         clear hi409_0 hl409_0
         replace p409:=eq_true p409
         replace q409:=eq_true q409
         go_wp2_with (first | ((with_reducible refine gate_callee (f:=15) rfl ?_); refine gl (some 35) Tryd.func15 #[.slice A409_0 (rd_LOp l0_0 x5_1).length c409_0] (h := ?_); (with_reducible refine (r4_Row.calls kj10 _ _ (rd_LOp l0_0 x5_1) true _ ?side1 ?side2 ?side3 A18.out).mono ?_); (case side1 => exact cb HR409_0 HB); (case side2 => exact HC409_0.out); (case side3 => exact (hT.below (bw HB))); rintro e w22 ⟨rfl,hb⟩; refine ⟨_,rfl, ?_⟩; replace BK406:=bl BK406 hb; replace HB:=bs HB hb; clear hb; obtain ⟨_,_,_,_,_,_,_,_⟩:=kc4 BK406; have p411 : 0 ≤ (x5_1 : Int):=od; have q411 : x5_1 < (l0_0.length : Int):=od; obtain ⟨ad411,A411_0,c411_0,e411,hx411_0,hl411_0,hi411_0⟩:=at_LOp HR0_0.out x5_1 p411 q411; obtain rfl : ad409 = ad411:=(by injection e411); replace hx411_0:=cl HB hx411_0; have HR411_0:=Aside0.mk hi411_0; have HC411_0:=Aside0.mk hl411_0; clear hi411_0 hl411_0; replace p411:=eq_true p411; replace q411:=eq_true q411) | ((with_reducible refine gate_callee (f:=14) rfl ?_); refine gl (some 42) Tryd.func14 #[.slice A411_0 (rd_LOp l0_0 x5_1).length c411_0] (h := ?_); (with_reducible refine (r0_CopyOps.calls kj10 _ _ (rd_LOp l0_0 x5_1) t412 _ ?side1 ?side2 A20.out).mono ?_); (case side1 => exact cb HR411_0 HB); (case side2 => exact HC411_0.out); rintro e w24 ⟨v413,rfl,ho0,hb⟩; refine ⟨_,rfl, ?_⟩; have HO414:=Aside0.mk (Kd.S_lower ho0 (below_size (bw HB))); replace BK406:=bl BK406 hb; replace HB:=bs HB hb; clear hb; clear ho0))
         go_loopg [6,7] kj10 (fun kq v6 v7 w' => ∃ (x6_3 : List (SOp)) (x7_3 : Int),v7 = .int .i64 x7_3 ∧ Aside0 (w6_with.l1 kq a1 x5_1 x6_3 x7_3 l0_0 l0_1 l0_2 l0_3 = some r) ∧ Aside0 (kq ≤ kj10) ∧ Aside0 (Kd.S kOp 55 w' w.heap.size (fun _ => True) v6 x6_3) ∧ Aside0 (w'.heap[gb406]? = some (.cells #[(.slice (some ad409) l0_0.length c0_0),(.slice A0_1 l0_1.length c0_1),(.slice A0_2 l0_2.length c0_2),(.slice A0_3 l0_3.length c0_3)] 27 (0,0))) ∧ Aside0 (Below w.heap.size w w'))
         case atStart => exact ⟨(t412),(0),rf,H',⟨Nat.le_refl _⟩,⟨sk HO414⟩,⟨kk BK406⟩,⟨bw HB⟩⟩
         case round =>
          clear H'
          try clear c15; try clear c16b0; try clear c17b0; try clear c19; try clear hx409_0; try clear hx411_0; try clear p409; try clear p411; try clear q409; try clear q411
          obtain ⟨x6_3,x7_3,rfl,HA,HK3,HO_6,BK406,HB⟩:=hrel
          cases gk with
          | zero => exact absurd HA.out (by simp [w6_with.l1])
          | succ k3 =>
           have H:=HA.out
           clear HA
           simp only [w6_with.l1] at H
           by_cases c25 : x7_3 < 8; rotate_left
           ·rw [if_neg c25] at H
            have c25b0:=decide_eq_false c25
            clear c25
            have H':=Aside0.mk H
            clear H
            go_wp2
            go_roundg k3
            case measure => have:=HK1.out; have:=HJ10.out; have:=HK3.out; omega
            case rel => exact ⟨(wrap64 (x5_1 + 1)),rf,H',⟨by have:=HK1.out; have:=HJ10.out; have:=HK3.out; omega⟩,⟨kk BK406⟩,⟨bw HB⟩⟩
           show (let G_ : Prop:=_; G_)
           intro G_
           exact (let_tmp i_ : Nonempty G_:=(((⟨by
            subst G_
            rw [if_pos c25] at H
            have c25b0:=decide_eq_true c25
            clear c25
            obtain ⟨t415,A26,H⟩:=bE H
            obtain ⟨t417,A27,H⟩:=bE H
            have HC28:=Aside0.mk H
            clear H
            obtain ⟨Ao29,co29,eo29⟩:=Kd.S_slice HO_6.out
            subst eo29
            go_upto_block 4 with (first | ((with_reducible refine gate_callee (f:=68) rfl ?_); refine gl (some 55) Tryd.func68 #[.slice Ao29 x6_3.length co29, .int .i64 (wrap64 (1 + (Int.tmod (wrap64 (x7_3 + x5_1)) 3)))] (h := ?_); (with_reducible refine (r4_Many.calls k3 _ _ x6_3 (wrap64 (1 + (Int.tmod (wrap64 (x7_3 + x5_1)) 3))) t415 _ ?side1 ?side2 A26.out).mono ?_); (case side1 => exact cs HO_6); (case side2 => exact (Kd.S_reads' HO_6.out).2.1); rintro e w' ⟨rfl,⟨nd,rfl⟩⟩; refine ⟨_,rfl, ?_⟩; (try (rw [drewN_self wr]; generalize hq_ : World.drewN wr _ = wr; have n0_ : Aside0 (Kd.S kOp 55 wr w.heap.size (fun _ => True) (.slice Ao29 x6_3.length co29) x6_3):=⟨by rw [← hq_]; exact (sk HO_6)⟩; have n1_ : Aside0 (wr.heap[gb406]? = some (.cells #[.slice (some ad409) l0_0.length c0_0, .slice A0_1 l0_1.length c0_1, .slice A0_2 l0_2.length c0_2, .slice A0_3 l0_3.length c0_3] 27 (0,0))):=⟨by rw [← hq_]; exact (kk BK406)⟩; have n2_ : Aside0 (Below w.heap.size w wr):=⟨by rw [← hq_]; exact (bw HB)⟩; clear HO_6 BK406 HB hq_; have HO_6:=n0_; have BK406:=n1_; have HB:=n2_; clear n0_ n1_ n2_))) | ((with_reducible refine gate_dst (N:=9) rfl ?_); refine bx 9 #[.int .i64 0, .int .i64 0, .int .i64 0, .int .i64 0, .int .i64 0, .int .i64 0, .string (⟨#[]⟩ : ByteArray), .slice none 0 0, .int .i64 0, .int .i64 0, .int .i64 0] 55 (h := ?_); intro gb416 hg w30 hbox hb; have BK416:=Aside0.mk (hbox); have GW416:=bz HB hg; have GE416:=bz HB hg; have NB406_416:=bn BK406 hg; have NB416_406:=bm BK406 hg; replace HO_6:=Aside0.mk (Kd.S_below (Kd.S_elderB (sk HO_6) gb416 (Nat.le_of_eq hg.symm)) hb); replace BK406:=bl BK406 hb; replace HB:=bs HB hb; clear hb hbox hg; have hnb31:=NB416_406.out; have hnc31:=NB406_416.out; obtain ⟨_,_,_,_,_,_,_,_,_,_,_,_,_,_,_,_,_,_,_,_,_,_⟩:=kc11 BK416) | ((with_reducible refine gate_callee (f:=31) rfl ?_); refine gl (some 59) Tryd.func31 #[.slice Ao29 x6_3.length co29] (h := ?_); (with_reducible refine (r4_Visible.calls k3 _ _ x6_3 t417 _ ?side1 ?side2 ?side3 A27.out).mono ?_); (case side1 => refine (Kd.S_reads' (e:=55) (base:=w.heap.size) (ok:=fun k_ => (True ∧ k_ ≠ gb416)) (n:=x6_3.length) (c:=co29) ?_).2.2; exact (by (with_reducible repeat (first | apply Kd.S_alloc | apply Kd.S_drewN | apply Kd.S_drew)); exact (Kd.S_mono (sf11 (Kd.S_mono HO_6.out (fun k_ hk => (⟨hk,hk.2⟩ : _ ∧ k_ ≠ gb416)))) (fun _ h_ => h_.1)))); (case side2 => exact (Kd.S_reads' HO_6.out).2.1); (case side3 => exact (hT.below (bw HB))); rintro e w33 ⟨v418,rfl,ho0,hb⟩; refine ⟨_,rfl, ?_⟩; have HO419:=Aside0.mk (Kd.R_lower ho0 (below_size (bw HB))); replace HO_6:=Aside0.mk (Kd.S_elder' (by (with_reducible repeat (first | apply Kd.S_alloc | apply Kd.S_drewN | apply Kd.S_drew)); exact (Kd.S_mono (sf11 (Kd.S_mono HO_6.out (fun k_ hk => (⟨hk,hk.2⟩ : _ ∧ k_ ≠ gb416)))) (fun _ h_ => h_.1))) (Kd.R_base ho0) hb); replace BK406:=bl BK406 hb; replace BK416:=Aside0.mk (blk_below (bp11 (kk BK416)) hb); replace HB:=bs HB hb; clear hb; clear ho0))
            (try simp only [Act.put,List.setIfInBounds_toArray,List.set_cons_zero,List.set_cons_succ])
            go_cut [] (fun wc => ∃ (kq : Nat) (x417002_27 : Int) (x417003_27 : Int) (x417004_27 : Int) (x417005_27 : Int) (x417006_27 : ByteArray) (x417007_27 : List (SElem)) (x417008_27 : Int) (x417009_27 : Int) (x417010_27 : Int) (u417007 : Value),Aside0 (w6_with.j3 kq a1 x5_1 x6_3 x7_3 l0_0 l0_1 l0_2 l0_3 (wrap64 (1 + (Int.tmod (wrap64 (x7_3 + x5_1)) 3))) (wrap64 (t415 + 1)) x417002_27 x417003_27 x417004_27 x417005_27 x417006_27 x417007_27 x417008_27 x417009_27 x417010_27 = some r) ∧ Aside0 (kq ≤ k3) ∧ Aside0 (Kd.S kOp 55 wc w.heap.size (fun k_ => some k_ ≠ (u417007 : Value).ownBlock ∧ k_ ≠ gb416) (.slice Ao29 x6_3.length co29) x6_3) ∧ Aside0 (Kd.R kElem 43 wc w.heap.size (fun _ => True) u417007 x417007_27) ∧ Aside0 (wc.heap[gb406]? = some (.cells #[(.slice (some ad409) l0_0.length c0_0),(.slice A0_1 l0_1.length c0_1),(.slice A0_2 l0_2.length c0_2),(.slice A0_3 l0_3.length c0_3)] 27 (0,0))) ∧ Aside0 (wc.heap[gb416]? = some (.cells #[.int .i64 (wrap64 (1 + (Int.tmod (wrap64 (x7_3 + x5_1)) 3))), .int .i64 (wrap64 (t415 + 1)), .int .i64 x417002_27, .int .i64 x417003_27, .int .i64 x417004_27, .int .i64 x417005_27, .string x417006_27,u417007, .int .i64 x417008_27, .int .i64 x417009_27, .int .i64 x417010_27] 55 (0,0))) ∧ Aside0 (Below w.heap.size w wc))
            case first =>
             have H:=HC28.out
             clear HC28
             by_cases c34 : a1 = 0
             ·show (let G_ : Prop:=_; G_)
              intro G_
              exact (let_tmp i_ : Nonempty G_:=(((⟨by
               subst G_
               rw [if_pos c34] at H
               obtain ⟨c34b0,c34b1⟩:=bT c34
               clear c34
               (first | rw [c34b0] | (simp only [i64_w,i32_w]; rw [c34b0]) | skip)
               by_cases c35 : (t417.length : Int) > 0; rotate_left
               ·rw [if_neg c35] at H
                have c35b0:=decide_eq_false c35
                have c35b1 : decide (0 < t417.length) = false:=decide_eq_false (by omega)
                clear c35
                have H':=Aside0.mk H
                clear H
                have hnb47:=NB416_406.out
                have hnc47:=NB406_416.out
                obtain ⟨_,_,_,_,_,_,_,_,_,_,_,_,_,_,_,_,_,_,_,_,_,_⟩:=kc11 BK416
                obtain ⟨Ao49,co49,eo49⟩:=Kd.R_slice HO419.out
                subst eo49
                go_wp2
                go_meet
                case rel => exact ⟨_,(1),(0),(0),(0),((⟨#[120,121]⟩ : ByteArray)),(([] : List (SElem))),(0),(0),(0),(.slice none 0 0),H',⟨by have:=HK1.out; have:=HJ10.out; have:=HK3.out; first | omega | exact Nat.le_refl _⟩,⟨by (with_reducible repeat (first | apply Kd.S_alloc | apply Kd.S_drewN | apply Kd.S_drew)); exact Kd.S_mono (Kd.S_far (p:=⟨gb416,6,none⟩) (Kd.S_far (p:=⟨gb416,2,none⟩) (Kd.S_mono HO_6.out (fun k_ hk => (⟨hk,hk.1.2⟩ : _ ∧ k_ ≠ gb416))) (fun _ hk => hk.2) (.int .i64 1)) (fun _ hk => hk.2) (.string (⟨#[120,121]⟩ : ByteArray))) (fun _ hk => ⟨(by simp [Value.ownBlock]),hk.1.1.2⟩)⟩,⟨by first | exact Kd.R_nil _ _ _ _ _ | exact Kd.N_nil _ _ _ _ _ | exact Kd.V_nil _ _ _ _ _ | exact Kd.Q_nil _ _ _ _ _ | exact Kd.S_nil _ _ _ _ _⟩,⟨kk BK406⟩,⟨bp (bp (kk BK416) 2) 6⟩,⟨bw HB⟩⟩
               show (let G_ : Prop:=_; G_)
               intro G_
               exact (let_tmp i_ : Nonempty G_:=(((⟨by
                subst G_
                rw [if_pos c35] at H
                have c35b0:=decide_eq_true c35
                have c35b1 : decide (0 < t417.length) = true:=decide_eq_true (by omega)
                clear c35
                by_cases c36 : (Int.tmod x7_3 2) = 0; rotate_left
                ·rw [if_neg c36] at H
                 obtain ⟨c36b0,c36b1⟩:=bF c36
                 have H':=Aside0.mk H
                 clear H
                 have hnb44:=NB416_406.out
                 have hnc44:=NB406_416.out
                 obtain ⟨_,_,_,_,_,_,_,_,_,_,_,_,_,_,_,_,_,_,_,_,_,_⟩:=kc11 BK416
                 obtain ⟨Ao46,co46,eo46⟩:=Kd.R_slice HO419.out
                 subst eo46
                 go_wp2
                 go_meet
                 case rel => exact ⟨_,(1),(0),(0),(0),((⟨#[120,121]⟩ : ByteArray)),(([] : List (SElem))),(0),(0),(0),(.slice none 0 0),H',⟨by have:=HK1.out; have:=HJ10.out; have:=HK3.out; first | omega | exact Nat.le_refl _⟩,⟨by (with_reducible repeat (first | apply Kd.S_alloc | apply Kd.S_drewN | apply Kd.S_drew)); exact Kd.S_mono (Kd.S_far (p:=⟨gb416,6,none⟩) (Kd.S_far (p:=⟨gb416,2,none⟩) (Kd.S_mono HO_6.out (fun k_ hk => (⟨hk,hk.1.2⟩ : _ ∧ k_ ≠ gb416))) (fun _ hk => hk.2) (.int .i64 1)) (fun _ hk => hk.2) (.string (⟨#[120,121]⟩ : ByteArray))) (fun _ hk => ⟨(by simp [Value.ownBlock]),hk.1.1.2⟩)⟩,⟨by first | exact Kd.R_nil _ _ _ _ _ | exact Kd.N_nil _ _ _ _ _ | exact Kd.V_nil _ _ _ _ _ | exact Kd.Q_nil _ _ _ _ _ | exact Kd.S_nil _ _ _ _ _⟩,⟨kk BK406⟩,⟨bp (bp (kk BK416) 2) 6⟩,⟨bw HB⟩⟩
                show (let G_ : Prop:=_; G_)
                intro G_
                exact (let_tmp i_ : Nonempty G_:=(((⟨by
                 subst G_
                 rw [if_pos c36] at H
                 obtain ⟨c36b0,c36b1⟩:=bT c36
                 clear c36
                 by_cases c37 : (t417.length : Int) = 0
                 ·rw [if_pos c37] at H
                  exact absurd H (by simp)
                 rw [if_neg c37] at H
                 obtain ⟨c37b0,c37b1⟩:=bF c37
                 have c37b2 : ¬ (t417 = []):=fun h_ => c37 (by rw [h_]; rfl)
                 obtain ⟨ji38,hji38⟩ : ∃ j_ : Int,(Int.tmod x7_3 (t417.length : Int)) = j_:=⟨_,rfl⟩
                 replace H : (if 0 ≤ (ji38) then (if (ji38) < (t417.length : Int) then (w6_with.j3 k3 a1 x5_1 x6_3 x7_3 l0_0 l0_1 l0_2 l0_3 (wrap64 (1 + (Int.tmod (wrap64 (x7_3 + x5_1)) 3))) (wrap64 (t415 + 1)) 1 ((rd_Elem t417 (ji38)).f0) ((rd_Elem t417 (ji38)).f1) ((rd_Elem t417 (ji38)).f2) (⟨#[120,121]⟩ : ByteArray) ([] : List (SElem)) 0 0 0) else (none)) else (none)) = some r:=by first | (rw [hji38] at H; exact H) | (simp only [hji38] at H ⊢; exact H)
                 by_cases c39 : 0 ≤ (ji38); rotate_left
                 ·rw [if_neg c39] at H
                  exact absurd H (by simp)
                 show (let G_ : Prop:=_; G_)
                 intro G_
                 exact (let_tmp i_ : Nonempty G_:=(((⟨by
                  subst G_
                  rw [if_pos c39] at H
                  have c39b0:=decide_eq_true c39
                  clear c39
                  by_cases c40 : (ji38) < (t417.length : Int); rotate_left
                  ·rw [if_neg c40] at H
                   exact absurd H (by simp)
                  show (let G_ : Prop:=_; G_)
                  intro G_
                  exact (let_tmp i_ : Nonempty G_:=(((⟨by
                   subst G_
                   rw [if_pos c40] at H
                   have c40b0:=decide_eq_true c40
                   clear c40
                   have H':=Aside0.mk H
                   clear H
                   have hnb41:=NB416_406.out
                   have hnc41:=NB406_416.out
                   obtain ⟨_,_,_,_,_,_,_,_,_,_,_,_,_,_,_,_,_,_,_,_,_,_⟩:=kc11 BK416
                   obtain ⟨Ao43,co43,eo43⟩:=Kd.R_slice HO419.out
                   subst eo43
                   have p420 : 0 ≤ ((ji38) : Int):=od
                   have q420 : (ji38) < (t417.length : Int):=od
                   obtain ⟨ad420,e420,hx420_0,hx420_1,hx420_2⟩:=at_Elem (Kd.R_reads' HO419.out).2.2 (ji38) p420 q420
                   cases e420
                   have hn420_0 : ad420.block ≠ gb416:=Kd.own_blk (Kd.R_ne HO419.out BK416.out (by decide))
                   have hn420_1 : ad420.block ≠ gb416:=Kd.own_blk (Kd.R_ne HO419.out BK416.out (by decide))
                   replace hx420_0:=(cell_far (p:=⟨gb416,2,none⟩) (by first | (rw [add_block]; exact hn420_0) | (show (Addr.add _ _).block ≠ _; rw [add_block]; exact hn420_0) | exact hn420_0) (.int .i64 1)).trans hx420_0
                   replace hx420_1:=(cell_far (p:=⟨gb416,2,none⟩) (by first | (rw [add_block]; exact hn420_0) | (show (Addr.add _ _).block ≠ _; rw [add_block]; exact hn420_0) | exact hn420_0) (.int .i64 1)).trans hx420_1
                   replace hx420_2:=(cell_far (p:=⟨gb416,2,none⟩) (by first | (rw [add_block]; exact hn420_0) | (show (Addr.add _ _).block ≠ _; rw [add_block]; exact hn420_0) | exact hn420_0) (.int .i64 1)).trans hx420_2
                   replace hx420_0:=(cell_far (p:=⟨gb416,6,none⟩) (by first | (rw [add_block]; exact hn420_1) | (show (Addr.add _ _).block ≠ _; rw [add_block]; exact hn420_1) | exact hn420_1) (.string (⟨#[120,121]⟩ : ByteArray))).trans hx420_0
                   replace hx420_1:=(cell_far (p:=⟨gb416,6,none⟩) (by first | (rw [add_block]; exact hn420_1) | (show (Addr.add _ _).block ≠ _; rw [add_block]; exact hn420_1) | exact hn420_1) (.string (⟨#[120,121]⟩ : ByteArray))).trans hx420_1
                   replace hx420_2:=(cell_far (p:=⟨gb416,6,none⟩) (by first | (rw [add_block]; exact hn420_1) | (show (Addr.add _ _).block ≠ _; rw [add_block]; exact hn420_1) | exact hn420_1) (.string (⟨#[120,121]⟩ : ByteArray))).trans hx420_2
                   clear hn420_0
                   clear hn420_1
                   replace p420:=eq_true p420
                   replace q420:=eq_true q420
                   go_wp2
                   go_meet
                   case rel => exact ⟨_,(1),((rd_Elem t417 (ji38)).f0),((rd_Elem t417 (ji38)).f1),((rd_Elem t417 (ji38)).f2),((⟨#[120,121]⟩ : ByteArray)),(([] : List (SElem))),(0),(0),(0),(.slice none 0 0),H',⟨by have:=HK1.out; have:=HJ10.out; have:=HK3.out; first | omega | exact Nat.le_refl _⟩,⟨by (with_reducible repeat (first | apply Kd.S_alloc | apply Kd.S_drewN | apply Kd.S_drew)); exact Kd.S_mono (Kd.S_far (p:=⟨gb416,5,none⟩) (Kd.S_far (p:=⟨gb416,4,none⟩) (Kd.S_far (p:=⟨gb416,3,none⟩) (Kd.S_far (p:=⟨gb416,6,none⟩) (Kd.S_far (p:=⟨gb416,2,none⟩) (Kd.S_mono HO_6.out (fun k_ hk => (⟨hk,hk.1.2⟩ : _ ∧ k_ ≠ gb416))) (fun _ hk => hk.2) (.int .i64 1)) (fun _ hk => hk.2) (.string (⟨#[120,121]⟩ : ByteArray))) (fun _ hk => hk.2) (.int .i64 ((rd_Elem t417 (ji38)).f0))) (fun _ hk => hk.2) (.int .i64 ((rd_Elem t417 (ji38)).f1))) (fun _ hk => hk.2) (.int .i64 ((rd_Elem t417 (ji38)).f2))) (fun _ hk => ⟨(by simp [Value.ownBlock]),hk.1.1.2⟩)⟩,⟨by first | exact Kd.R_nil _ _ _ _ _ | exact Kd.N_nil _ _ _ _ _ | exact Kd.V_nil _ _ _ _ _ | exact Kd.Q_nil _ _ _ _ _ | exact Kd.S_nil _ _ _ _ _⟩,⟨kk BK406⟩,⟨bp (bp (bp (bp (bp (kk BK416) 2) 6) 3) 4) 5⟩,⟨bw HB⟩⟩
                   ⟩ : Nonempty G_)) :); w6_with.bxo (G:=G_) (inferInstanceAs (Nonempty G_)))
                  ⟩ : Nonempty G_)) :); w6_with.bxo (G:=G_) (inferInstanceAs (Nonempty G_)))
                 ⟩ : Nonempty G_)) :); w6_with.bxo (G:=G_) (inferInstanceAs (Nonempty G_)))
                ⟩ : Nonempty G_)) :); w6_with.bxo (G:=G_) (inferInstanceAs (Nonempty G_)))
               ⟩ : Nonempty G_)) :); w6_with.bxo (G:=G_) (inferInstanceAs (Nonempty G_)))
             rw [if_neg c34] at H
             obtain ⟨c34b0,c34b1⟩:=bF c34
             (first | rw [c34b0] | (simp only [i64_w,i32_w]; rw [c34b0]) | skip)
             by_cases c50 : a1 = 1
             ·show (let G_ : Prop:=_; G_)
              intro G_
              exact (let_tmp i_ : Nonempty G_:=(((⟨by
               subst G_
               rw [if_pos c50] at H
               obtain ⟨c50b0,c50b1⟩:=bT c50
               clear c50
               by_cases c51 : (t417.length : Int) = 0
               ·show (let G_ : Prop:=_; G_)
                intro G_
                exact (let_tmp i_ : Nonempty G_:=(((⟨by
                 subst G_
                 rw [if_pos c51] at H
                 obtain ⟨c51b0,c51b1⟩:=bT c51
                 clear c51
                 have H':=Aside0.mk H
                 clear H
                 obtain ⟨Ao52,co52,eo52⟩:=Kd.R_slice HO419.out
                 subst eo52
                 go_wp2
                 go_roundg k3
                 case measure => have:=HK1.out; have:=HJ10.out; have:=HK3.out; omega
                 case rel => exact ⟨(x6_3),(wrap64 (x7_3 + 1)),rf,H',⟨by have:=HK1.out; have:=HJ10.out; have:=HK3.out; omega⟩,⟨by (with_reducible repeat (first | apply Kd.S_alloc | apply Kd.S_drewN | apply Kd.S_drew)); exact Kd.S_mono HO_6.out (fun _ hk => trivial)⟩,⟨kk BK406⟩,⟨bw HB⟩⟩
                 ⟩ : Nonempty G_)) :); w6_with.bxo (G:=G_) (inferInstanceAs (Nonempty G_)))
               rw [if_neg c51] at H
               obtain ⟨c51b0,c51b1⟩:=bF c51
               have c51b2 : ¬ (t417 = []):=fun h_ => c51 (by rw [h_]; rfl)
               obtain ⟨ji53,hji53⟩ : ∃ j_ : Int,(Int.tmod (wrap64 (x7_3 * 5)) (t417.length : Int)) = j_:=⟨_,rfl⟩
               replace H : (if 0 ≤ (ji53) then (if (ji53) < (t417.length : Int) then (w6_with.j3 k3 a1 x5_1 x6_3 x7_3 l0_0 l0_1 l0_2 l0_3 (wrap64 (1 + (Int.tmod (wrap64 (x7_3 + x5_1)) 3))) (wrap64 (t415 + 1)) 1 0 0 0 (⟨#[]⟩ : ByteArray) (([(⟨(rd_Elem t417 (ji53)).f0,(rd_Elem t417 (ji53)).f1,(rd_Elem t417 (ji53)).f2⟩ : SElem)] : List (SElem))) 0 0 0) else (none)) else (none)) = some r:=by first | (rw [hji53] at H; exact H) | (simp only [hji53] at H ⊢; exact H)
               by_cases c54 : 0 ≤ (ji53); rotate_left
               ·rw [if_neg c54] at H
                exact absurd H (by simp)
               show (let G_ : Prop:=_; G_)
               intro G_
               exact (let_tmp i_ : Nonempty G_:=(((⟨by
                subst G_
                rw [if_pos c54] at H
                have c54b0:=decide_eq_true c54
                clear c54
                by_cases c55 : (ji53) < (t417.length : Int); rotate_left
                ·rw [if_neg c55] at H
                 exact absurd H (by simp)
                show (let G_ : Prop:=_; G_)
                intro G_
                exact (let_tmp i_ : Nonempty G_:=(((⟨by
                 subst G_
                 rw [if_pos c55] at H
                 have c55b0:=decide_eq_true c55
                 clear c55
                 obtain ⟨y422,hy422⟩ : ∃ y_ : List (SElem),y_ = (([(⟨(rd_Elem t417 (ji53)).f0,(rd_Elem t417 (ji53)).f1,(rd_Elem t417 (ji53)).f2⟩ : SElem)] : List (SElem))):=⟨_,rfl⟩
                 first | rw [Option.bind_some,← hy422] at H | rw [← hy422] at H
                 have Ny422:=Aside0.mk hy422
                 clear hy422
                 have H':=Aside0.mk H
                 clear H
                 obtain ⟨Ao56,co56,eo56⟩:=Kd.R_slice HO419.out
                 subst eo56
                 try go_wp2
                 have n0_:=Aside0.mk (Kd.S_drew HO_6.out)
                 have n1_:=Aside0.mk (Kd.R_drew HO419.out)
                 have n2_:=Aside0.mk (blk_drew BK406.out)
                 have n3_:=Aside0.mk (blk_drew BK416.out)
                 have n4_:=Aside0.mk (below_drew1 HB.out)
                 clear HO_6
                 clear HO419
                 clear BK406
                 clear BK416
                 clear HB
                 have HO_6:=n0_
                 have HO419:=n1_
                 have BK406:=n2_
                 have BK416:=n3_
                 have HB:=n4_
                 clear n0_ n1_ n2_ n3_ n4_
                 have p421 : 0 ≤ ((ji53) : Int):=od
                 have q421 : (ji53) < (t417.length : Int):=od
                 obtain ⟨ad421,e421,hx421_0,hx421_1,hx421_2⟩:=at_Elem (Kd.R_reads' HO419.out).2.2 (ji53) p421 q421
                 cases e421
                 replace p421:=eq_true p421
                 replace q421:=eq_true q421
                 refine stP (fun w' => True) 13 trivial (h:=fun hHeld => ?_); refine with_tabW w6_with.tab27 w6_with.bits27 (fun HT_ HW_ => ?_)
                 generalize w33.drew = w57 at HO_6 HO419 BK406 BK416 HB hx421_0 hx421_1 hx421_2 hHeld ⊢
                 refine pu HT_ 0 127 1 (h := ?_)
                 refine pu HT_ 1 128 3 (h := ?_)
                 refine pu HT_ 3 130 11 (h := ?_)
                 refine pu HT_ 9 136 523 (h := ?_)
                 refine inv_at [2,4,5,6,7,8,10,11,12] (fun a0_ b a w' => ∃ (v423 : Value),a = putSel a0_ b [(2,129, .int .i64 (wrap64 (x7_3 * 5))),(4,131, .int .i64 (t417.length : Int)),(5,132, .int .i64 ji53),(6,133, .pointer (some (ad421.add (((ji53)).toNat * 3)))),(7,134, .agg #[.int .i64 ((rd_Elem t417 (ji53)).f0), .int .i64 ((rd_Elem t417 (ji53)).f1), .int .i64 ((rd_Elem t417 (ji53)).f2)]),(8,135,v423),(11,137, .pointer (some ⟨gb416,7,none⟩))] ∧ (Kd.R kElem 43 w' w.heap.size (fun _ => True) (.slice (some ad421) t417.length co56) t417) ∧ (Kd.S kOp 55 w' w.heap.size (fun k_ => some k_ ≠ (.slice (some ad421) t417.length co56 : Value).ownBlock ∧ some k_ ≠ (v423 : Value).ownBlock ∧ k_ ≠ gb416) (.slice Ao29 x6_3.length co29) x6_3) ∧ (w'.heap[gb406]? = some (.cells #[.slice (some ad409) l0_0.length c0_0, .slice A0_1 l0_1.length c0_1, .slice A0_2 l0_2.length c0_2, .slice A0_3 l0_3.length c0_3] 27 (0,0))) ∧ (b 10 = false → w'.heap[gb416]? = some (.cells #[.int .i64 (wrap64 (1 + (Int.tmod (wrap64 (x7_3 + x5_1)) 3))), .int .i64 (wrap64 (t415 + 1)), .int .i64 0, .int .i64 0, .int .i64 0, .int .i64 0, .string (⟨#[]⟩ : ByteArray), .slice none 0 0, .int .i64 0, .int .i64 0, .int .i64 0] 55 (0,0))) ∧ (Below w.heap.size w w') ∧ (b 8 = true → Kd.R kElem 43 w' w.heap.size (fun k_ => some k_ ≠ (.slice (some ad421) t417.length co56 : Value).ownBlock) v423 y422) ∧ (b 10 = true → b 12 = false → w'.heap[gb416]? = some (.cells #[.int .i64 (wrap64 (1 + (Int.tmod (wrap64 (x7_3 + x5_1)) 3))), .int .i64 (wrap64 (t415 + 1)), .int .i64 1, .int .i64 0, .int .i64 0, .int .i64 0, .string (⟨#[]⟩ : ByteArray), .slice none 0 0, .int .i64 0, .int .i64 0, .int .i64 0] 55 (0,0))) ∧ (b 12 = true → w'.heap[gb416]? = some (.cells #[.int .i64 (wrap64 (1 + (Int.tmod (wrap64 (x7_3 + x5_1)) 3))), .int .i64 (wrap64 (t415 + 1)), .int .i64 1, .int .i64 0, .int .i64 0, .int .i64 0, .string (⟨#[]⟩ : ByteArray),v423, .int .i64 0, .int .i64 0, .int .i64 0] 55 (0,0)))) HT_.out HW_.out (by kernel_rfl) (by kernel_rfl) ?_ ?_ ?_
                 ·exact ⟨.bool false,by simp only [putSel,Bool.false_eq_true,if_false],HO419.out,Kd.S_mono HO_6.out (fun _ hk => ⟨hk.2,by simp [Value.ownBlock],hk.1.2⟩),BK406.out,fun _ => BK416.out,HB.out,fun h_ => absurd h_ (by decide),fun h_ => absurd h_ (by decide),fun h_ => absurd h_ (by decide)⟩
                 ·show (let G_ : Prop:=_; G_)
                  intro G_
                  exact (let_tmp i_ : Nonempty G_:=(((⟨by
                   subst G_
                   skip
                   clear BK406 BK416 HB HO419 HO_6
                   refine steps_cons ?_ ?_
                   ·show (let G_ : Prop:=_; G_)
                    intro G_
                    exact (let_tmp i_ : Nonempty G_:=(((⟨by
                     subst G_
                     rintro b a w' ⟨v423,ha,Q_HO419,Q_HO_6,Q_BK406,Q_BK416,Q_HB,Q_HO424,Q_BK416_e10,Q_BK416_e12⟩ hb_ hon hoff
                     refine ⟨_,rfl,fun K hK => ?_⟩
                     have e128 : a.tmps[128]? = some (.int .i64 x7_3):=by rw [ha]; exact (putSel_off rfl).trans rfl
                     replace ha:=Aside0.mk ha
                     have HO419:=Aside0.mk Q_HO419
                     have HO_6:=Aside0.mk Q_HO_6
                     have BK406:=Aside0.mk Q_BK406
                     have HB:=Aside0.mk Q_HB
                     refine value_ (w1:=w') (v:=.int .i64 (wrap64 (x7_3 * 5))) (by rfl) rfl ?_ ?_
                     ·go_simp
                      (try simp only [i64_w])
                      try rfl
                     refine hK.out _ _ ⟨v423,(by rw [ha.out]; exact putSel_upk 0 hb_ rfl rfl rfl),Q_HO419,Q_HO_6,Q_BK406,Q_BK416,Q_HB,fun h0_ => absurd ((hoff 8 (by kernel_rfl)).symm.trans h0_) (by decide),Q_BK416_e10,fun h0_ => absurd ((hoff 12 (by kernel_rfl)).symm.trans h0_) (by decide)⟩
                     ⟩ : Nonempty G_)) :); w6_with.bxo (G:=G_) (inferInstanceAs (Nonempty G_)))
                   refine steps_cons ?_ ?_
                   ·show (let G_ : Prop:=_; G_)
                    intro G_
                    exact (let_tmp i_ : Nonempty G_:=(((⟨by
                     subst G_
                     rintro b a w' ⟨v423,ha,Q_HO419,Q_HO_6,Q_BK406,Q_BK416,Q_HB,Q_HO424,Q_BK416_e10,Q_BK416_e12⟩ hb_ hon hoff
                     refine ⟨_,rfl,fun K hK => ?_⟩
                     have e130 : a.tmps[130]? = some (.slice (some ad421) t417.length co56):=by rw [ha]; exact (putSel_off rfl).trans rfl
                     replace ha:=Aside0.mk ha
                     have HO419:=Aside0.mk Q_HO419
                     have HO_6:=Aside0.mk Q_HO_6
                     have BK406:=Aside0.mk Q_BK406
                     have HB:=Aside0.mk Q_HB
                     refine value_ (w1:=w') (v:=.int .i64 (t417.length : Int)) (by rfl) rfl ?_ ?_
                     ·go_simp
                      (try simp only [i64_w])
                      try rfl
                     refine hK.out _ _ ⟨v423,(by rw [ha.out]; exact putSel_upk 1 hb_ rfl rfl rfl),Q_HO419,Q_HO_6,Q_BK406,Q_BK416,Q_HB,fun h0_ => absurd ((hoff 8 (by kernel_rfl)).symm.trans h0_) (by decide),Q_BK416_e10,fun h0_ => absurd ((hoff 12 (by kernel_rfl)).symm.trans h0_) (by decide)⟩
                     ⟩ : Nonempty G_)) :); w6_with.bxo (G:=G_) (inferInstanceAs (Nonempty G_)))
                   refine steps_cons ?_ ?_
                   ·show (let G_ : Prop:=_; G_)
                    intro G_
                    exact (let_tmp i_ : Nonempty G_:=(((⟨by
                     subst G_
                     rintro b a w' ⟨v423,ha,Q_HO419,Q_HO_6,Q_BK406,Q_BK416,Q_HB,Q_HO424,Q_BK416_e10,Q_BK416_e12⟩ hb_ hon hoff
                     refine ⟨_,rfl,fun K hK => ?_⟩
                     have e129 : a.tmps[129]? = some (.int .i64 (wrap64 (x7_3 * 5))):=by rw [ha]; exact putSel_on (e:=(2,129, .int .i64 (wrap64 (x7_3 * 5)))) 0 rfl rfl (hon 2 (by kernel_rfl)) rfl
                     have e131 : a.tmps[131]? = some (.int .i64 (t417.length : Int)):=by rw [ha]; exact putSel_on (e:=(4,131, .int .i64 (t417.length : Int))) 1 rfl rfl (hon 4 (by kernel_rfl)) rfl
                     replace ha:=Aside0.mk ha
                     have HO419:=Aside0.mk Q_HO419
                     have HO_6:=Aside0.mk Q_HO_6
                     have BK406:=Aside0.mk Q_BK406
                     have HB:=Aside0.mk Q_HB
                     refine value_ (w1:=w') (v:=.int .i64 ji53) (by rfl) rfl ?_ ?_
                     ·go_simp
                      (try simp only [i64_w])
                      try rfl
                     refine hK.out _ _ ⟨v423,(by rw [ha.out]; exact putSel_upk 2 hb_ rfl rfl rfl),Q_HO419,Q_HO_6,Q_BK406,Q_BK416,Q_HB,fun h0_ => absurd ((hoff 8 (by kernel_rfl)).symm.trans h0_) (by decide),Q_BK416_e10,fun h0_ => absurd ((hoff 12 (by kernel_rfl)).symm.trans h0_) (by decide)⟩
                     ⟩ : Nonempty G_)) :); w6_with.bxo (G:=G_) (inferInstanceAs (Nonempty G_)))
                   refine steps_cons ?_ ?_
                   ·show (let G_ : Prop:=_; G_)
                    intro G_
                    exact (let_tmp i_ : Nonempty G_:=(((⟨by
                     subst G_
                     rintro b a w' ⟨v423,ha,Q_HO419,Q_HO_6,Q_BK406,Q_BK416,Q_HB,Q_HO424,Q_BK416_e10,Q_BK416_e12⟩ hb_ hon hoff
                     refine ⟨_,rfl,fun K hK => ?_⟩
                     have e127 : a.tmps[127]? = some (.slice (some ad421) t417.length co56):=by rw [ha]; exact (putSel_off rfl).trans rfl
                     have e132 : a.tmps[132]? = some (.int .i64 ji53):=by rw [ha]; exact putSel_on (e:=(5,132, .int .i64 ji53)) 2 rfl rfl (hon 5 (by kernel_rfl)) rfl
                     replace ha:=Aside0.mk ha
                     have HO419:=Aside0.mk Q_HO419
                     have HO_6:=Aside0.mk Q_HO_6
                     have BK406:=Aside0.mk Q_BK406
                     have HB:=Aside0.mk Q_HB
                     refine value_ (w1:=w') (v:=.pointer (some (ad421.add (((ji53)).toNat * 3)))) (by rfl) rfl ?_ ?_
                     ·go_simp
                      (try simp only [i64_w])
                      try rfl
                     refine hK.out _ _ ⟨v423,(by rw [ha.out]; exact putSel_upk 3 hb_ rfl rfl rfl),Q_HO419,Q_HO_6,Q_BK406,Q_BK416,Q_HB,fun h0_ => absurd ((hoff 8 (by kernel_rfl)).symm.trans h0_) (by decide),Q_BK416_e10,fun h0_ => absurd ((hoff 12 (by kernel_rfl)).symm.trans h0_) (by decide)⟩
                     ⟩ : Nonempty G_)) :); w6_with.bxo (G:=G_) (inferInstanceAs (Nonempty G_)))
                   refine steps_cons ?_ ?_
                   ·show (let G_ : Prop:=_; G_)
                    intro G_
                    exact (let_tmp i_ : Nonempty G_:=(((⟨by
                     subst G_
                     rintro b a w' ⟨v423,ha,Q_HO419,Q_HO_6,Q_BK406,Q_BK416,Q_HB,Q_HO424,Q_BK416_e10,Q_BK416_e12⟩ hb_ hon hoff
                     refine ⟨_,rfl,fun K hK => ?_⟩
                     have e133 : a.tmps[133]? = some (.pointer (some (ad421.add (((ji53)).toNat * 3)))):=by rw [ha]; exact putSel_on (e:=(6,133, .pointer (some (ad421.add (((ji53)).toNat * 3))))) 3 rfl rfl (hon 6 (by kernel_rfl)) rfl
                     replace ha:=Aside0.mk ha
                     have HO419:=Aside0.mk Q_HO419
                     have HO_6:=Aside0.mk Q_HO_6
                     have BK406:=Aside0.mk Q_BK406
                     have HB:=Aside0.mk Q_HB
                     obtain ⟨ad421_z,e421_z,hx421_0_z,hx421_1_z,hx421_2_z⟩:=at_Elem (Kd.R_reads' HO419.out).2.2 (ji53) (of_eq_true p421) (of_eq_true q421)
                     cases e421_z
                     have hs0_ : w'.cell? (ad421.add (((ji53)).toNat * 3)) = some (.int .i64 ((rd_Elem t417 (ji53)).f0)):=(by first | exact hx421_0_z | (have h_:=hx421_0_z; (try simp only [Int.reduceToNat,Nat.zero_mul,Nat.reduceMul,Nat.reduceEqDiff,Go.Addr.add,↓reduceIte,Addr.add_zero'] at h_); exact h_))
                     have hs1_ : w'.cell? ⟨(ad421.add (((ji53)).toNat * 3)).block,(ad421.add (((ji53)).toNat * 3)).off + 1,none⟩ = some (.int .i64 ((rd_Elem t417 (ji53)).f1)):=(by first | exact hx421_1_z | (have h_:=hx421_1_z; (try simp only [Int.reduceToNat,Nat.zero_mul,Nat.reduceMul,Nat.reduceEqDiff,Go.Addr.add,↓reduceIte,Addr.add_zero'] at h_); exact h_))
                     have hs2_ : w'.cell? ⟨(ad421.add (((ji53)).toNat * 3)).block,(ad421.add (((ji53)).toNat * 3)).off + 2,none⟩ = some (.int .i64 ((rd_Elem t417 (ji53)).f2)):=(by first | exact hx421_2_z | (have h_:=hx421_2_z; (try simp only [Int.reduceToNat,Nat.zero_mul,Nat.reduceMul,Nat.reduceEqDiff,Go.Addr.add,↓reduceIte,Addr.add_zero'] at h_); exact h_))
                     refine value_ (w1:=w') (v:=.agg #[.int .i64 ((rd_Elem t417 (ji53)).f0), .int .i64 ((rd_Elem t417 (ji53)).f1), .int .i64 ((rd_Elem t417 (ji53)).f2)]) (by rfl) rfl ?_ ?_
                     ·go_simp
                      (try simp only [i64_w])
                      try rfl
                     refine hK.out _ _ ⟨v423,(by rw [ha.out]; exact putSel_upk 4 hb_ rfl rfl rfl),Q_HO419,Q_HO_6,Q_BK406,Q_BK416,Q_HB,fun h0_ => absurd ((hoff 8 (by kernel_rfl)).symm.trans h0_) (by decide),Q_BK416_e10,fun h0_ => absurd ((hoff 12 (by kernel_rfl)).symm.trans h0_) (by decide)⟩
                     ⟩ : Nonempty G_)) :); w6_with.bxo (G:=G_) (inferInstanceAs (Nonempty G_)))
                   refine steps_cons ?_ ?_
                   ·show (let G_ : Prop:=_; G_)
                    intro G_
                    exact (let_tmp i_ : Nonempty G_:=(((⟨by
                     subst G_
                     rintro b a w' ⟨v423,ha,Q_HO419,Q_HO_6,Q_BK406,Q_BK416,Q_HB,Q_HO424,Q_BK416_e10,Q_BK416_e12⟩ hb_ hon hoff
                     refine ⟨_,rfl,fun K hK => ?_⟩
                     have e134 : a.tmps[134]? = some (.agg #[.int .i64 ((rd_Elem t417 (ji53)).f0), .int .i64 ((rd_Elem t417 (ji53)).f1), .int .i64 ((rd_Elem t417 (ji53)).f2)]):=by rw [ha]; exact putSel_on (e:=(7,134, .agg #[.int .i64 ((rd_Elem t417 (ji53)).f0), .int .i64 ((rd_Elem t417 (ji53)).f1), .int .i64 ((rd_Elem t417 (ji53)).f2)])) 4 rfl rfl (hon 7 (by kernel_rfl)) rfl
                     replace ha:=Aside0.mk ha
                     have HO419:=Aside0.mk Q_HO419
                     have HO_6:=Aside0.mk Q_HO_6
                     have BK406:=Aside0.mk Q_BK406
                     have HB:=Aside0.mk Q_HB
                     refine Kd.R_lit_step kElem _ 43 ?hg (N:=135) ?hd (xs:=([(⟨(rd_Elem t417 (ji53)).f0,(rd_Elem t417 (ji53)).f1,(rd_Elem t417 (ji53)).f2⟩ : SElem)] : List (SElem))) (inner:=[.int .i64 ((rd_Elem t417 (ji53)).f0), .int .i64 ((rd_Elem t417 (ji53)).f1), .int .i64 ((rd_Elem t417 (ji53)).f2)]) (ok:=fun _ => True) (okp:=fun _ => True) ?hr ?hp (fun _ hk => hk) trivial (Below.refl _ _) (Nat.le_refl _) (by simp) ?_; (case hd => rfl); (case hg => rfl); (case hr => first | (go_simp; done) | (go_simp; rfl)); (case hp => exact (Reps.c3 (show Kd.M kElem _ _ _ (⟨(rd_Elem t417 (ji53)).f0,(rd_Elem t417 (ji53)).f1,(rd_Elem t417 (ji53)).f2⟩ : SElem) [.int .i64 ((rd_Elem t417 (ji53)).f0), .int .i64 ((rd_Elem t417 (ji53)).f1), .int .i64 ((rd_Elem t417 (ji53)).f2)] from (kElem_mkM _ _ _ (⟨(rd_Elem t417 (ji53)).f0,(rd_Elem t417 (ji53)).f1,(rd_Elem t417 (ji53)).f2⟩ : SElem) )) (Reps.none _ _)))
                     intro v423 w58 ho59 hb hg_ hnew_
                     clear hg_ hnew_
                     (first | rw [← Ny422.out] at ho59 | (simp only [Int.reduceToNat] at ho59; rw [← Ny422.out] at ho59))
                     have n0_:=Aside0.mk (Kd.S_elder' (sk HO_6) (Kd.R_base ho59) hb)
                     have n1_:=Aside0.mk (Kd.R_elder' (rk HO419) (Kd.R_base ho59) hb)
                     have n2_:=Aside0.mk (Kd.R_lower (Kd.R_new' ho59 (Kd.R_lt (rk HO419))) (below_size (bw HB)))
                     have n3_:=bl BK406 hb
                     have n5_:=bs HB hb
                     have z_BK416:=fun (h0_ : b 10 = false) => (show w58.heap[gb416]? = some (.cells #[.int .i64 (wrap64 (1 + (Int.tmod (wrap64 (x7_3 + x5_1)) 3))), .int .i64 (wrap64 (t415 + 1)), .int .i64 0, .int .i64 0, .int .i64 0, .int .i64 0, .string (⟨#[]⟩ : ByteArray), .slice none 0 0, .int .i64 0, .int .i64 0, .int .i64 0] 55 (0,0)) from by first | exact (blk_below (g:=gb416) (o:=.cells #[.int .i64 (wrap64 (1 + (Int.tmod (wrap64 (x7_3 + x5_1)) 3))), .int .i64 (wrap64 (t415 + 1)), .int .i64 0, .int .i64 0, .int .i64 0, .int .i64 0, .string (⟨#[]⟩ : ByteArray), .slice none 0 0, .int .i64 0, .int .i64 0, .int .i64 0] 55 (0,0)) (by (with_reducible repeat (first | refine blk_drewN ?_ _ | refine blk_drew ?_ | refine blk_alloc ?_ _)); exact (Q_BK416 h0_)) hb))
                     have z_BK416_e10:=fun (h0_ : b 10 = true) (h1_ : b 12 = false) => (show w58.heap[gb416]? = some (.cells #[.int .i64 (wrap64 (1 + (Int.tmod (wrap64 (x7_3 + x5_1)) 3))), .int .i64 (wrap64 (t415 + 1)), .int .i64 1, .int .i64 0, .int .i64 0, .int .i64 0, .string (⟨#[]⟩ : ByteArray), .slice none 0 0, .int .i64 0, .int .i64 0, .int .i64 0] 55 (0,0)) from by first | exact (blk_below (g:=gb416) (o:=.cells #[.int .i64 (wrap64 (1 + (Int.tmod (wrap64 (x7_3 + x5_1)) 3))), .int .i64 (wrap64 (t415 + 1)), .int .i64 1, .int .i64 0, .int .i64 0, .int .i64 0, .string (⟨#[]⟩ : ByteArray), .slice none 0 0, .int .i64 0, .int .i64 0, .int .i64 0] 55 (0,0)) (by (with_reducible repeat (first | refine blk_drewN ?_ _ | refine blk_drew ?_ | refine blk_alloc ?_ _)); exact (Q_BK416_e10 h0_ h1_)) hb))
                     clear HO_6
                     clear HO419
                     clear BK406
                     clear HB
                     have HO_6:=n0_
                     have HO419:=n1_
                     have HO424:=n2_
                     have BK406:=n3_
                     have HB:=n5_
                     clear n0_ n1_ n2_ n3_ n5_
                     clear hb ho59
                     refine hK.out _ _ ⟨v423,(by rw [ha.out]; exact putSel_upk 5 hb_ rfl rfl rfl),(by (with_reducible repeat (first | apply Kd.R_alloc | apply Kd.R_drewN | apply Kd.R_drew)); exact Kd.R_mono HO419.out (fun _ _ => trivial)),(by (with_reducible repeat (first | apply Kd.S_alloc | apply Kd.S_drewN | apply Kd.S_drew)); exact Kd.S_mono HO_6.out (fun _ hk => ⟨hk.1.1,⟨hk.2,hk.1.2.2⟩⟩)),(kk BK406),z_BK416,(bw HB),fun _ => (by (with_reducible repeat (first | apply Kd.R_alloc | apply Kd.R_drewN | apply Kd.R_drew)); exact Kd.R_mono HO424.out (fun _ hk => hk.2)),z_BK416_e10,fun h0_ => absurd ((hoff 12 (by kernel_rfl)).symm.trans h0_) (by decide)⟩
                     ⟩ : Nonempty G_)) :); w6_with.bxo (G:=G_) (inferInstanceAs (Nonempty G_)))
                   refine steps_cons ?_ ?_
                   ·show (let G_ : Prop:=_; G_)
                    intro G_
                    exact (let_tmp i_ : Nonempty G_:=(((⟨by
                     subst G_
                     rintro b a w' ⟨v423,ha,Q_HO419,Q_HO_6,Q_BK406,Q_BK416,Q_HB,Q_HO424,Q_BK416_e10,Q_BK416_e12⟩ hb_ hon hoff
                     refine ⟨_,rfl,fun K hK => ?_⟩
                     have e136 : a.tmps[136]? = some (.pointer (some ⟨gb416,2,none⟩)):=by rw [ha]; exact (putSel_off rfl).trans rfl
                     replace ha:=Aside0.mk ha
                     have HO419:=Aside0.mk Q_HO419
                     have HO_6:=Aside0.mk Q_HO_6
                     have BK406:=Aside0.mk Q_BK406
                     have BK416:=Aside0.mk (Q_BK416 hb_)
                     have HB:=Aside0.mk Q_HB
                     have hs58 : w'.cell? ⟨gb416,2,none⟩ = some (.int .i64 0):=bc BK416 2
                     have hfs58:=bf BK416 2
                     have hns58_0:=NB406_416.out
                     have hms58_0:=NB416_406.out
                     refine skip_ (w1 := ?_) (by rfl) rfl ?_ ?_
                     rotate_left
                     ·go_simp
                      rfl
                     refine hK.out _ _ ⟨v423,(by rw [ha.out]; exact putSel_none (v:=undef) rfl),(by (with_reducible repeat (first | apply Kd.R_alloc | apply Kd.R_drewN | apply Kd.R_drew)); exact Kd.R_mono (Kd.R_far (p:=⟨gb416,2,none⟩) (Kd.R_types HO419.out BK416.out (by decide)) (fun _ hk => hk.2) (.int .i64 1)) (fun _ hk => trivial)),(by (with_reducible repeat (first | apply Kd.S_alloc | apply Kd.S_drewN | apply Kd.S_drew)); exact Kd.S_mono (Kd.S_far (p:=⟨gb416,2,none⟩) (Kd.S_mono HO_6.out (fun k_ hk => (⟨hk,hk.2.2⟩ : _ ∧ k_ ≠ gb416))) (fun _ hk => hk.2) (.int .i64 1)) (fun _ hk => hk.1)),(kk BK406),fun h0_ => absurd ((up_self b 10).symm.trans h0_) (by decide),(bw HB),fun h0_ => (by (with_reducible repeat (first | apply Kd.R_alloc | apply Kd.R_drewN | apply Kd.R_drew)); exact Kd.R_mono (Kd.R_far (p:=⟨gb416,2,none⟩) (Kd.R_types (Q_HO424 h0_) BK416.out (by decide)) (fun _ hk => hk.2) (.int .i64 1)) (fun _ hk => hk.1)),fun _ _ => (bp (kk BK416) 2),fun h0_ => absurd ((hoff 12 (by kernel_rfl)).symm.trans h0_) (by decide)⟩
                     ⟩ : Nonempty G_)) :); w6_with.bxo (G:=G_) (inferInstanceAs (Nonempty G_)))
                   refine steps_cons ?_ ?_
                   ·show (let G_ : Prop:=_; G_)
                    intro G_
                    exact (let_tmp i_ : Nonempty G_:=(((⟨by
                     subst G_
                     rintro b a w' ⟨v423,ha,Q_HO419,Q_HO_6,Q_BK406,Q_BK416,Q_HB,Q_HO424,Q_BK416_e10,Q_BK416_e12⟩ hb_ hon hoff
                     refine ⟨_,rfl,fun K hK => ?_⟩
                     have e9 : a.tmps[9]? = some (.pointer (some ⟨gb416,0,none⟩)):=by rw [ha]; exact (putSel_off rfl).trans rfl
                     replace ha:=Aside0.mk ha
                     have HO419:=Aside0.mk Q_HO419
                     have HO_6:=Aside0.mk Q_HO_6
                     have BK406:=Aside0.mk Q_BK406
                     have HB:=Aside0.mk Q_HB
                     have HO424:=Aside0.mk (Q_HO424 (hon 8 (by kernel_rfl)))
                     have BK416:=Aside0.mk (Q_BK416_e10 (hon 10 (by kernel_rfl)) (hoff 12 (by kernel_rfl)))
                     refine value_ (w1:=w') (v:=.pointer (some ⟨gb416,7,none⟩)) (by rfl) rfl ?_ ?_
                     ·go_simp
                      (try simp only [i64_w])
                      try rfl
                     refine hK.out _ _ ⟨v423,(by rw [ha.out]; exact putSel_upk 6 hb_ rfl rfl rfl),Q_HO419,Q_HO_6,Q_BK406,fun h0_ => absurd ((hon 10 (by kernel_rfl)).symm.trans h0_) (by decide),Q_HB,Q_HO424,Q_BK416_e10,fun h0_ => absurd ((hoff 12 (by kernel_rfl)).symm.trans h0_) (by decide)⟩
                     ⟩ : Nonempty G_)) :); w6_with.bxo (G:=G_) (inferInstanceAs (Nonempty G_)))
                   refine steps_cons ?_ ?_
                   ·show (let G_ : Prop:=_; G_)
                    intro G_
                    exact (let_tmp i_ : Nonempty G_:=(((⟨by
                     subst G_
                     rintro b a w' ⟨v423,ha,Q_HO419,Q_HO_6,Q_BK406,Q_BK416,Q_HB,Q_HO424,Q_BK416_e10,Q_BK416_e12⟩ hb_ hon hoff
                     refine ⟨_,rfl,fun K hK => ?_⟩
                     have e137 : a.tmps[137]? = some (.pointer (some ⟨gb416,7,none⟩)):=by rw [ha]; exact putSel_on (e:=(11,137, .pointer (some ⟨gb416,7,none⟩))) 6 rfl rfl (hon 11 (by kernel_rfl)) rfl
                     have e135 : a.tmps[135]? = some (v423):=by rw [ha]; exact putSel_on (e:=(8,135,v423)) 5 rfl rfl (hon 8 (by kernel_rfl)) rfl
                     replace ha:=Aside0.mk ha
                     have HO419:=Aside0.mk Q_HO419
                     have HO_6:=Aside0.mk Q_HO_6
                     have BK406:=Aside0.mk Q_BK406
                     have HB:=Aside0.mk Q_HB
                     have HO424:=Aside0.mk (Q_HO424 (hon 8 (by kernel_rfl)))
                     have BK416:=Aside0.mk (Q_BK416_e10 (hon 10 (by kernel_rfl)) hb_)
                     obtain ⟨Ao62,co62,eo62⟩:=Kd.R_slice HO424.out
                     (first | subst eo62 | (injection eo62 with f1_ f2_ f3_; have f4_:=f1_.symm; have f5_:=f3_.symm; clear f1_ f2_ f3_; subst f4_; subst f5_))
                     have hs63 : w'.cell? ⟨gb416,7,none⟩ = some (.slice none 0 0):=bc BK416 7
                     have hfs63:=bf BK416 7
                     have hns63_0:=NB406_416.out
                     have hms63_0:=NB416_406.out
                     refine skip_ (w1 := ?_) (by rfl) rfl ?_ ?_
                     rotate_left
                     ·go_simp
                      rfl
                     refine hK.out _ _ ⟨.slice Ao62 y422.length co62,(by rw [ha.out]; exact putSel_none (v:=undef) rfl),(by (with_reducible repeat (first | apply Kd.R_alloc | apply Kd.R_drewN | apply Kd.R_drew)); exact Kd.R_mono (Kd.R_far (p:=⟨gb416,7,none⟩) (Kd.R_types HO419.out BK416.out (by decide)) (fun _ hk => hk.2) (.slice Ao62 y422.length co62)) (fun _ hk => hk.1)),(by (with_reducible repeat (first | apply Kd.S_alloc | apply Kd.S_drewN | apply Kd.S_drew)); exact Kd.S_mono (Kd.S_far (p:=⟨gb416,7,none⟩) (Kd.S_mono HO_6.out (fun k_ hk => (⟨hk,hk.2.2⟩ : _ ∧ k_ ≠ gb416))) (fun _ hk => hk.2) (.slice Ao62 y422.length co62)) (fun _ hk => ⟨hk.1.1,⟨hk.1.2.1,hk.1.2.2⟩⟩)),(kk BK406),fun h0_ => absurd ((hon 10 (by kernel_rfl)).symm.trans h0_) (by decide),(bw HB),fun _ => (by (with_reducible repeat (first | apply Kd.R_alloc | apply Kd.R_drewN | apply Kd.R_drew)); exact Kd.R_mono (Kd.R_far (p:=⟨gb416,7,none⟩) (Kd.R_types HO424.out BK416.out (by decide)) (fun _ hk => hk.2) (.slice Ao62 y422.length co62)) (fun _ hk => hk.1)),fun _ h1_ => absurd ((up_self b 12).symm.trans h1_) (by decide),fun _ => (bp (kk BK416) 7)⟩
                     ⟩ : Nonempty G_)) :); w6_with.bxo (G:=G_) (inferInstanceAs (Nonempty G_)))
                   exact steps_nil
                   ⟩ : Nonempty G_)) :); w6_with.bxo (G:=G_) (inferInstanceAs (Nonempty G_)))
                 rintro b a w63 hall ⟨v423,ha,Q_HO419,Q_HO_6,Q_BK406,Q_BK416,Q_HB,Q_HO424,Q_BK416_e10,Q_BK416_e12⟩
                 clear BK406 BK416 HB HO419 HO_6
                 have hb2_:=hall 2 (by kernel_rfl)
                 have hb4_:=hall 4 (by kernel_rfl)
                 have hb5_:=hall 5 (by kernel_rfl)
                 have hb6_:=hall 6 (by kernel_rfl)
                 have hb7_:=hall 7 (by kernel_rfl)
                 have hb8_:=hall 8 (by kernel_rfl)
                 have hb10_:=hall 10 (by kernel_rfl)
                 have hb11_:=hall 11 (by kernel_rfl)
                 have hb12_:=hall 12 (by kernel_rfl)
                 subst ha
                 simp only [putSel,hb2_,hb4_,hb5_,hb6_,hb7_,hb8_,hb10_,hb11_,hb12_,if_true,Act.put,List.setIfInBounds_toArray,List.set_cons_zero,List.set_cons_succ]
                 have HO419:=Aside0.mk Q_HO419
                 clear Q_HO419
                 have HO_6:=Aside0.mk Q_HO_6
                 clear Q_HO_6
                 have BK406:=Aside0.mk Q_BK406
                 clear Q_BK406
                 clear Q_BK416
                 have HB:=Aside0.mk Q_HB
                 clear Q_HB
                 have HO424:=Aside0.mk (Q_HO424 hb8_)
                 clear Q_HO424
                 clear Q_BK416_e10
                 have BK416:=Aside0.mk (Q_BK416_e12 hb12_)
                 clear Q_BK416_e12
                 clear hall hb2_ hb4_ hb5_ hb6_ hb7_ hb8_ hb10_ hb11_ hb12_
                 try go_wp2
                 go_meet
                 case rel => exact ⟨_,(1),(0),(0),(0),((⟨#[]⟩ : ByteArray)),(y422),(0),(0),(0),(v423),H',⟨by have:=HK1.out; have:=HJ10.out; have:=HK3.out; first | omega | exact Nat.le_refl _⟩,⟨by (with_reducible repeat (first | apply Kd.S_alloc | apply Kd.S_drewN | apply Kd.S_drew)); exact Kd.S_mono HO_6.out (fun _ hk => ⟨hk.2.1,hk.2.2⟩)⟩,⟨by (with_reducible repeat (first | apply Kd.R_alloc | apply Kd.R_drewN | apply Kd.R_drew)); exact Kd.R_mono HO424.out (fun _ hk => trivial)⟩,⟨kk BK406⟩,⟨kk BK416⟩,⟨bw HB⟩⟩
                 ⟩ : Nonempty G_)) :); w6_with.bxo (G:=G_) (inferInstanceAs (Nonempty G_)))
                ⟩ : Nonempty G_)) :); w6_with.bxo (G:=G_) (inferInstanceAs (Nonempty G_)))
               ⟩ : Nonempty G_)) :); w6_with.bxo (G:=G_) (inferInstanceAs (Nonempty G_)))
             rw [if_neg c50] at H
             obtain ⟨c50b0,c50b1⟩:=bF c50
             by_cases c64 : (x6_3.length : Int) = 0
             ·rw [if_pos c64] at H
              obtain ⟨c64b0,c64b1⟩:=bT c64
              clear c64
              have H':=Aside0.mk H
              clear H
              go_wp2
              go_roundg k3
              case measure => have:=HK1.out; have:=HJ10.out; have:=HK3.out; omega
              case rel => exact ⟨(x6_3),(wrap64 (x7_3 + 1)),rf,H',⟨by have:=HK1.out; have:=HJ10.out; have:=HK3.out; omega⟩,⟨by (with_reducible repeat (first | apply Kd.S_alloc | apply Kd.S_drewN | apply Kd.S_drew)); exact Kd.S_mono HO_6.out (fun _ hk => trivial)⟩,⟨kk BK406⟩,⟨bw HB⟩⟩
             rw [if_neg c64] at H
             obtain ⟨c64b0,c64b1⟩:=bF c64
             have c64b2 : ¬ (x6_3 = []):=fun h_ => c64 (by rw [h_]; rfl)
             obtain ⟨ji65,hji65⟩ : ∃ j_ : Int,(Int.tmod (wrap64 ((wrap64 (x7_3 * 3)) + a1)) (x6_3.length : Int)) = j_:=⟨_,rfl⟩
             replace H : (if 0 ≤ (ji65) then (if (ji65) < (x6_3.length : Int) then (if ((rd_Op x6_3 (ji65)).f2) = 1 then ((r4_Count.f k3 x6_3 ((rd_Op x6_3 (ji65)).f0) ((rd_Op x6_3 (ji65)).f1)).bind fun t427 => (if a1 = 3 then (if (Int.tmod x7_3 2) = 1 then (w6_with.j3 k3 a1 x5_1 x6_3 x7_3 l0_0 l0_1 l0_2 l0_3 (wrap64 (1 + (Int.tmod (wrap64 (x7_3 + x5_1)) 3))) (wrap64 (t415 + 1)) 2 0 0 0 (⟨#[]⟩ : ByteArray) ([] : List (SElem)) ((rd_Op x6_3 (ji65)).f0) ((rd_Op x6_3 (ji65)).f1) (wrap64 (t427 + 1))) else (w6_with.j3 k3 a1 x5_1 x6_3 x7_3 l0_0 l0_1 l0_2 l0_3 (wrap64 (1 + (Int.tmod (wrap64 (x7_3 + x5_1)) 3))) (wrap64 (t415 + 1)) 2 0 0 0 (⟨#[]⟩ : ByteArray) ([] : List (SElem)) ((rd_Op x6_3 (ji65)).f0) ((rd_Op x6_3 (ji65)).f1) t427)) else (w6_with.j3 k3 a1 x5_1 x6_3 x7_3 l0_0 l0_1 l0_2 l0_3 (wrap64 (1 + (Int.tmod (wrap64 (x7_3 + x5_1)) 3))) (wrap64 (t415 + 1)) 2 0 0 0 (⟨#[]⟩ : ByteArray) ([] : List (SElem)) ((rd_Op x6_3 (ji65)).f0) ((rd_Op x6_3 (ji65)).f1) t427))) else (w6_with.l1 k3 a1 x5_1 x6_3 (wrap64 (x7_3 + 1)) l0_0 l0_1 l0_2 l0_3)) else (none)) else (none)) = some r:=by first | (rw [hji65] at H; exact H) | (simp only [hji65] at H ⊢; exact H)
             by_cases c66 : 0 ≤ (ji65); rotate_left
             ·rw [if_neg c66] at H
              exact absurd H (by simp)
             show (let G_ : Prop:=_; G_)
             intro G_
             exact (let_tmp i_ : Nonempty G_:=(((⟨by
              subst G_
              rw [if_pos c66] at H
              have c66b0:=decide_eq_true c66
              clear c66
              by_cases c67 : (ji65) < (x6_3.length : Int); rotate_left
              ·rw [if_neg c67] at H
               exact absurd H (by simp)
              show (let G_ : Prop:=_; G_)
              intro G_
              exact (let_tmp i_ : Nonempty G_:=(((⟨by
               subst G_
               rw [if_pos c67] at H
               have c67b0:=decide_eq_true c67
               clear c67
               by_cases c68 : ((rd_Op x6_3 (ji65)).f2) = 1; rotate_left
               ·rw [if_neg c68] at H
                obtain ⟨c68b0,c68b1⟩:=bF c68
                have H':=Aside0.mk H
                clear H
                have p425 : 0 ≤ ((ji65) : Int):=od
                have q425 : (ji65) < (x6_3.length : Int):=od
                obtain ⟨ad425,A425_7,c425_7,e425,hx425_0,hx425_1,hx425_2,hx425_3,hx425_4,hx425_5,hx425_6,hx425_7,hx425_8,hx425_9,hx425_10,hl425_7,hi425_7⟩:=at_Op (Kd.S_reads' HO_6.out).2.2 (ji65) p425 q425
                cases e425
                obtain ⟨ce425,hce425,hMe425,hcc425⟩:=Kd.S_get HO_6.out zOp (ji65) p425 (by first | exact q425 | exact od | (have e_:=(Kd.S_reads' HO_6.out).1; omega))
                obtain ⟨ve425_7,rfl,ge425_7⟩:=kOp_openM hMe425
                have hv425_7:=hcc425 7 _ rfl
                rw [add_field _ _ 7 (by omega)] at hv425_7
                replace hv425_7:=Option.some.inj (hv425_7.symm.trans hx425_7)
                rw [hv425_7] at ge425_7
                have HL425_7:=Aside0.mk (show Kd.R kElem 43 _ _ _ _ ((rd_Op x6_3 (ji65)).f5) from ge425_7)
                clear hv425_7 ge425_7
                clear hcc425 hce425
                have HR425_7:=Aside0.mk hi425_7
                have HC425_7:=Aside0.mk hl425_7
                clear hi425_7 hl425_7
                replace p425:=eq_true p425
                replace q425:=eq_true q425
                go_wp2_with (first | ((with_reducible refine gate_dst (N:=11) rfl ?_); refine bx 11 #[.int .i64 0, .int .i64 0, .int .i64 0, .int .i64 0, .int .i64 0, .int .i64 0, .string (⟨#[]⟩ : ByteArray), .slice none 0 0, .int .i64 0, .int .i64 0, .int .i64 0] 55 (h := ?_); intro gb426 hg w104 hbox hb; have BK426:=Aside0.mk (hbox); have GW426:=bz HB hg; have GE426:=bz HB hg; have NB406_426:=bn BK406 hg; have NB426_406:=bm BK406 hg; have NB416_426:=bn BK416 hg; have NB426_416:=bm BK416 hg; replace HO_6:=Aside0.mk (Kd.S_below (Kd.S_elderB (sk HO_6) gb426 (Nat.le_of_eq hg.symm)) hb); replace HO419:=rb HO419 hb; replace HL425_7:=rb HL425_7 hb; replace BK406:=bl BK406 hb; replace BK416:=bl BK416 hb; replace HR425_7:=Aside0.mk (Kd.C_below (ck HR425_7) hb); replace HB:=bs HB hb; clear hb hbox hg; have hnb105:=NB426_406.out; have hnc105:=NB406_426.out; have hnb106:=NB426_416.out; have hnc106:=NB416_426.out; obtain ⟨_,_,_,_,_,_,_,_,_,_,_,_,_,_,_,_,_,_,_,_,_,_⟩:=kc11 BK426))
                go_roundg k3
                case measure => have:=HK1.out; have:=HJ10.out; have:=HK3.out; omega
                case rel => exact ⟨(x6_3),(wrap64 (x7_3 + 1)),rf,H',⟨by have:=HK1.out; have:=HJ10.out; have:=HK3.out; omega⟩,⟨by (with_reducible repeat (first | apply Kd.S_alloc | apply Kd.S_drewN | apply Kd.S_drew)); exact Kd.S_mono (sf11 (Kd.S_mono HO_6.out (fun k_ hk => (⟨hk,hk.2⟩ : _ ∧ k_ ≠ gb426)))) (fun _ hk => trivial)⟩,⟨kk BK406⟩,⟨bw HB⟩⟩
               show (let G_ : Prop:=_; G_)
               intro G_
               exact (let_tmp i_ : Nonempty G_:=(((⟨by
                subst G_
                rw [if_pos c68] at H
                obtain ⟨c68b0,c68b1⟩:=bT c68
                clear c68
                obtain ⟨t427,A69,H⟩:=bE H
                by_cases c70 : a1 = 3; rotate_left
                ·rw [if_neg c70] at H
                 obtain ⟨c70b0,c70b1⟩:=bF c70
                 have H':=Aside0.mk H
                 clear H
                 have p425 : 0 ≤ ((ji65) : Int):=od
                 have q425 : (ji65) < (x6_3.length : Int):=od
                 obtain ⟨ad425,A425_7,c425_7,e425,hx425_0,hx425_1,hx425_2,hx425_3,hx425_4,hx425_5,hx425_6,hx425_7,hx425_8,hx425_9,hx425_10,hl425_7,hi425_7⟩:=at_Op (Kd.S_reads' HO_6.out).2.2 (ji65) p425 q425
                 cases e425
                 obtain ⟨ce425,hce425,hMe425,hcc425⟩:=Kd.S_get HO_6.out zOp (ji65) p425 (by first | exact q425 | exact od | (have e_:=(Kd.S_reads' HO_6.out).1; omega))
                 obtain ⟨ve425_7,rfl,ge425_7⟩:=kOp_openM hMe425
                 have hv425_7:=hcc425 7 _ rfl
                 rw [add_field _ _ 7 (by omega)] at hv425_7
                 replace hv425_7:=Option.some.inj (hv425_7.symm.trans hx425_7)
                 rw [hv425_7] at ge425_7
                 have HL425_7:=Aside0.mk (show Kd.R kElem 43 _ _ _ _ ((rd_Op x6_3 (ji65)).f5) from ge425_7)
                 clear hv425_7 ge425_7
                 clear hcc425 hce425
                 have HR425_7:=Aside0.mk hi425_7
                 have HC425_7:=Aside0.mk hl425_7
                 clear hi425_7 hl425_7
                 replace p425:=eq_true p425
                 replace q425:=eq_true q425
                 try go_wp2_with (first | ((with_reducible refine gate_dst (N:=11) rfl ?_); refine bx 11 #[.int .i64 0, .int .i64 0, .int .i64 0, .int .i64 0, .int .i64 0, .int .i64 0, .string (⟨#[]⟩ : ByteArray), .slice none 0 0, .int .i64 0, .int .i64 0, .int .i64 0] 55 (h := ?_); intro gb426 hg w94 hbox hb; have BK426:=Aside0.mk (hbox); have GW426:=bz HB hg; have GE426:=bz HB hg; have NB406_426:=bn BK406 hg; have NB426_406:=bm BK406 hg; have NB416_426:=bn BK416 hg; have NB426_416:=bm BK416 hg; replace HO_6:=Aside0.mk (Kd.S_below (Kd.S_elderB (sk HO_6) gb426 (Nat.le_of_eq hg.symm)) hb); replace HO419:=rb HO419 hb; replace HL425_7:=rb HL425_7 hb; replace BK406:=bl BK406 hb; replace BK416:=bl BK416 hb; replace HR425_7:=Aside0.mk (Kd.C_below (ck HR425_7) hb); replace HB:=bs HB hb; clear hb hbox hg; have hnb95:=NB426_406.out; have hnc95:=NB406_426.out; have hnb96:=NB426_416.out; have hnc96:=NB416_426.out; obtain ⟨_,_,_,_,_,_,_,_,_,_,_,_,_,_,_,_,_,_,_,_,_,_⟩:=kc11 BK426))
                 generalize hgz : (((((((((((w94.setCell ⟨gb426,0,none⟩ (.int .i64 ((rd_Op x6_3 (ji65)).f0))).setCell ⟨gb426,1,none⟩ (.int .i64 ((rd_Op x6_3 (ji65)).f1))).setCell ⟨gb426,2,none⟩ (.int .i64 ((rd_Op x6_3 (ji65)).f2))).setCell ⟨gb426,3,none⟩ (.int .i64 ((rd_Op x6_3 (ji65)).f3.f0))).setCell ⟨gb426,4,none⟩ (.int .i64 ((rd_Op x6_3 (ji65)).f3.f1))).setCell ⟨gb426,5,none⟩ (.int .i64 ((rd_Op x6_3 (ji65)).f3.f2))).setCell ⟨gb426,6,none⟩ (.string ((rd_Op x6_3 (ji65)).f4))).setCell ⟨gb426,7,none⟩ (.slice A425_7 ((rd_Op x6_3 (ji65)).f5).length c425_7)).setCell ⟨gb426,8,none⟩ (.int .i64 ((rd_Op x6_3 (ji65)).f6))).setCell ⟨gb426,9,none⟩ (.int .i64 ((rd_Op x6_3 (ji65)).f7))).setCell ⟨gb426,10,none⟩ (.int .i64 ((rd_Op x6_3 (ji65)).f8))) = w98
                 have n0_ : Aside0 (Kd.S kOp 55 w98 w.heap.size (fun k_ => some k_ ≠ (v418 : Value).ownBlock ∧ k_ ≠ gb416 ∧ k_ ≠ gb426) (.slice (some ad425) x6_3.length co29) x6_3):=by rw [← hgz]; exact ⟨by (with_reducible repeat (first | apply Kd.S_alloc | apply Kd.S_drewN | apply Kd.S_drew)); exact Kd.S_mono (sf11 (Kd.S_mono HO_6.out (fun k_ hk => (⟨hk,hk.2⟩ : _ ∧ k_ ≠ gb426)))) (fun _ hk => ⟨hk.1.1.2,⟨hk.1.1.1.2,hk.1.2⟩⟩)⟩
                 have n1_ : Aside0 (Kd.R kElem 43 w98 w.heap.size (fun _ => True) v418 t417):=by rw [← hgz]; exact ⟨by (with_reducible repeat (first | apply Kd.R_alloc | apply Kd.R_drewN | apply Kd.R_drew)); exact Kd.R_mono (rf11 (Kd.R_types HO419.out BK426.out (by decide))) (fun _ hk => trivial)⟩
                 have n2_ : Aside0 (Kd.R kElem 43 w98 w.heap.size (fun k_ => some k_ ≠ (.slice (some ad425) x6_3.length co29 : Value).ownBlock ∧ some k_ ≠ (v418 : Value).ownBlock ∧ k_ ≠ gb416) (.slice A425_7 ((rd_Op x6_3 (ji65)).f5).length c425_7) ((rd_Op x6_3 (ji65)).f5)):=by rw [← hgz]; exact ⟨by (with_reducible repeat (first | apply Kd.R_alloc | apply Kd.R_drewN | apply Kd.R_drew)); exact Kd.R_mono (rf11 (Kd.R_types HL425_7.out BK426.out (by decide))) (fun _ hk => ⟨hk.1.2,⟨hk.1.1.2,hk.1.1.1.2⟩⟩)⟩
                 have n3_ : Aside0 (w98.heap[gb406]? = some (.cells #[.slice (some ad409) l0_0.length c0_0, .slice A0_1 l0_1.length c0_1, .slice A0_2 l0_2.length c0_2, .slice A0_3 l0_3.length c0_3] 27 (0,0))):=by rw [← hgz]; exact ⟨kk BK406⟩
                 have n4_ : Aside0 (w98.heap[gb416]? = some (.cells #[.int .i64 (wrap64 (1 + (Int.tmod (wrap64 (x7_3 + x5_1)) 3))), .int .i64 (wrap64 (t415 + 1)), .int .i64 0, .int .i64 0, .int .i64 0, .int .i64 0, .string (⟨#[]⟩ : ByteArray), .slice none 0 0, .int .i64 0, .int .i64 0, .int .i64 0] 55 (0,0))):=by rw [← hgz]; exact ⟨kk BK416⟩
                 have n5_ : Aside0 (w98.heap[gb426]? = some (.cells #[.int .i64 ((rd_Op x6_3 (ji65)).f0), .int .i64 ((rd_Op x6_3 (ji65)).f1), .int .i64 ((rd_Op x6_3 (ji65)).f2), .int .i64 ((rd_Op x6_3 (ji65)).f3.f0), .int .i64 ((rd_Op x6_3 (ji65)).f3.f1), .int .i64 ((rd_Op x6_3 (ji65)).f3.f2), .string ((rd_Op x6_3 (ji65)).f4), .slice A425_7 ((rd_Op x6_3 (ji65)).f5).length c425_7, .int .i64 ((rd_Op x6_3 (ji65)).f6), .int .i64 ((rd_Op x6_3 (ji65)).f7), .int .i64 ((rd_Op x6_3 (ji65)).f8)] 55 (0,0))):=by rw [← hgz]; exact ⟨bp11 (kk BK426)⟩
                 have n6_ : Aside0 (Below w.heap.size w w98):=by rw [← hgz]; exact ⟨bw HB⟩
                 (try clear HO_6)
                 (try clear HO419)
                 (try clear HL425_7)
                 (try clear BK406)
                 (try clear BK416)
                 (try clear BK426)
                 (try clear HB)
                 clear hgz
                 have HO_6:=n0_
                 have HO419:=n1_
                 have HL425_7:=n2_
                 have BK406:=n3_
                 have BK416:=n4_
                 have BK426:=n5_
                 have HB:=n6_
                 clear n0_ n1_ n2_ n3_ n4_ n5_ n6_
                 have n0_:=Aside0.mk (Kd.S_drew HO_6.out)
                 have n1_:=Aside0.mk (Kd.R_drew HO419.out)
                 have n2_:=Aside0.mk (Kd.R_drew HL425_7.out)
                 have n3_:=Aside0.mk (blk_drew BK406.out)
                 have n4_:=Aside0.mk (blk_drew BK416.out)
                 have n5_:=Aside0.mk (blk_drew BK426.out)
                 have n6_:=Aside0.mk (below_drew1 HB.out)
                 clear HO_6
                 clear HO419
                 clear HL425_7
                 clear BK406
                 clear BK416
                 clear BK426
                 clear HB
                 have HO_6:=n0_
                 have HO419:=n1_
                 have HL425_7:=n2_
                 have BK406:=n3_
                 have BK416:=n4_
                 have BK426:=n5_
                 have HB:=n6_
                 clear n0_ n1_ n2_ n3_ n4_ n5_ n6_
                 refine stP (fun w' => E11 w' gb426 (.int .i64 ((rd_Op x6_3 (ji65)).f0)) (.int .i64 ((rd_Op x6_3 (ji65)).f1)) (.int .i64 ((rd_Op x6_3 (ji65)).f2)) (.int .i64 ((rd_Op x6_3 (ji65)).f3.f0)) (.int .i64 ((rd_Op x6_3 (ji65)).f3.f1)) (.int .i64 ((rd_Op x6_3 (ji65)).f3.f2)) (.string ((rd_Op x6_3 (ji65)).f4)) (.slice A425_7 ((rd_Op x6_3 (ji65)).f5).length c425_7) (.int .i64 ((rd_Op x6_3 (ji65)).f6)) (.int .i64 ((rd_Op x6_3 (ji65)).f7)) (.int .i64 ((rd_Op x6_3 (ji65)).f8))) 18 (e11 BK426) (h:=fun hHeld => ?_); refine with_tabW w6_with.tab18 w6_with.bits18 (fun HT_ HW_ => ?_)
                 generalize w98.drew = w99 at HO_6 HO419 HL425_7 BK406 BK416 BK426 HB hHeld ⊢
                 refine pu HT_ 0 77 1 (h := ?_)
                 refine pu HT_ 2 79 5 (h := ?_)
                 refine pu HT_ 4 81 21 (h := ?_)
                 refine pu HT_ 5 82 53 (h := ?_)
                 refine pu HT_ 7 84 181 (h := ?_)
                 refine pu HT_ 10 87 1205 (h := ?_)
                 refine tk HT_ HW_ hHeld 1 78 1207 (h := ?_)
                 refine tk HT_ HW_ hHeld 3 80 1215 (h := ?_)
                 refine tk HT_ HW_ hHeld 6 83 1279 (h := ?_)
                 refine tk HT_ HW_ hHeld 8 85 1535 (h := ?_)
                 refine on HT_ 9 (some 86) 2047 (h:=fun K hK => ?_)
                 refine goes_ Tryd.func69 (by kernel_rfl) rfl #[.slice (some ad425) x6_3.length co29, .int .i64 ((rd_Op x6_3 (ji65)).f0), .int .i64 ((rd_Op x6_3 (ji65)).f1)] (by rfl) rfl rfl (by (try simp only [List.map_toArray,List.map_cons,List.map_nil]); first | done | (simp only [hji65]; rfl) | rfl | (simp only [List.length_drop,List.length_take]; rfl)) ?_
                 with_reducible refine (r4_Count.calls k3 _ _ x6_3 ((rd_Op x6_3 (ji65)).f0) ((rd_Op x6_3 (ji65)).f1) t427 _ ?side1 ?side2 A69.out).mono ?_
                 (case side1 => exact cs HO_6)
                 (case side2 => exact (Kd.S_reads' HO_6.out).2.1)
                 rintro e w' ⟨rfl,⟨nd,rfl⟩⟩
                 refine ⟨_,rfl, ?_⟩
                 refine hK.out _ _ (e11 BK426) (fun hHeld => ?_)
                 clear hK K
                 refine nn 86 (h := ?_)
                 refine on HT_ 11 none 4095 (h:=fun K hK => ?_)
                 have hs100 : w99.cell? ⟨gb416,2,none⟩ = some (.int .i64 0):=bc BK416 2
                 have hfs100:=bf BK416 2
                 have hns100_0:=NB406_416.out
                 have hns100_2:=NB426_416.out
                 have hms100_0:=NB416_406.out
                 have hms100_2:=NB416_426.out
                 refine skip_ (w1 := ?_) (by rfl) rfl ?_ ?_
                 rotate_left
                 ·go_simp
                  rfl
                 refine hK.out _ _ ⟨((cell_far (p:=⟨gb416,_,none⟩) NB426_416.out _).trans (hHeld.1)),((cell_far (p:=⟨gb416,_,none⟩) NB426_416.out _).trans (hHeld.2.1)),((cell_far (p:=⟨gb416,_,none⟩) NB426_416.out _).trans (hHeld.2.2.1)),((cell_far (p:=⟨gb416,_,none⟩) NB426_416.out _).trans (hHeld.2.2.2.1)),((cell_far (p:=⟨gb416,_,none⟩) NB426_416.out _).trans (hHeld.2.2.2.2.1)),((cell_far (p:=⟨gb416,_,none⟩) NB426_416.out _).trans (hHeld.2.2.2.2.2.1)),((cell_far (p:=⟨gb416,_,none⟩) NB426_416.out _).trans (hHeld.2.2.2.2.2.2.1)),((cell_far (p:=⟨gb416,_,none⟩) NB426_416.out _).trans (hHeld.2.2.2.2.2.2.2.1)),((cell_far (p:=⟨gb416,_,none⟩) NB426_416.out _).trans (hHeld.2.2.2.2.2.2.2.2.1)),((cell_far (p:=⟨gb416,_,none⟩) NB426_416.out _).trans (hHeld.2.2.2.2.2.2.2.2.2.1)),((cell_far (p:=⟨gb416,_,none⟩) NB426_416.out _).trans (hHeld.2.2.2.2.2.2.2.2.2.2))⟩ (fun hHeld => ?_)
                 clear hK K
                 refine pu HT_ 12 88 8191 (h := ?_)
                 refine on HT_ 13 none 16383 (h:=fun K hK => ?_)
                 have hs101 : w99.cell? ⟨gb416,8,none⟩ = some (.int .i64 0):=bc BK416 8
                 have hfs101:=bf BK416 8
                 have hns101_0:=NB406_416.out
                 have hns101_2:=NB426_416.out
                 have hms101_0:=NB416_406.out
                 have hms101_2:=NB416_426.out
                 refine skip_ (w1 := ?_) (by rfl) rfl ?_ ?_
                 rotate_left
                 ·go_simp
                  rfl
                 refine hK.out _ _ ⟨((cell_far (p:=⟨gb416,_,none⟩) NB426_416.out _).trans (hHeld.1)),((cell_far (p:=⟨gb416,_,none⟩) NB426_416.out _).trans (hHeld.2.1)),((cell_far (p:=⟨gb416,_,none⟩) NB426_416.out _).trans (hHeld.2.2.1)),((cell_far (p:=⟨gb416,_,none⟩) NB426_416.out _).trans (hHeld.2.2.2.1)),((cell_far (p:=⟨gb416,_,none⟩) NB426_416.out _).trans (hHeld.2.2.2.2.1)),((cell_far (p:=⟨gb416,_,none⟩) NB426_416.out _).trans (hHeld.2.2.2.2.2.1)),((cell_far (p:=⟨gb416,_,none⟩) NB426_416.out _).trans (hHeld.2.2.2.2.2.2.1)),((cell_far (p:=⟨gb416,_,none⟩) NB426_416.out _).trans (hHeld.2.2.2.2.2.2.2.1)),((cell_far (p:=⟨gb416,_,none⟩) NB426_416.out _).trans (hHeld.2.2.2.2.2.2.2.2.1)),((cell_far (p:=⟨gb416,_,none⟩) NB426_416.out _).trans (hHeld.2.2.2.2.2.2.2.2.2.1)),((cell_far (p:=⟨gb416,_,none⟩) NB426_416.out _).trans (hHeld.2.2.2.2.2.2.2.2.2.2))⟩ (fun hHeld => ?_)
                 clear hK K
                 refine pu HT_ 14 89 32767 (h := ?_)
                 refine on HT_ 15 none 65535 (h:=fun K hK => ?_)
                 have hs102 : w99.cell? ⟨gb416,9,none⟩ = some (.int .i64 0):=bc BK416 9
                 have hfs102:=bf BK416 9
                 have hns102_0:=NB406_416.out
                 have hns102_2:=NB426_416.out
                 have hms102_0:=NB416_406.out
                 have hms102_2:=NB416_426.out
                 refine skip_ (w1 := ?_) (by rfl) rfl ?_ ?_
                 rotate_left
                 ·go_simp
                  rfl
                 refine hK.out _ _ ⟨((cell_far (p:=⟨gb416,_,none⟩) NB426_416.out _).trans (hHeld.1)),((cell_far (p:=⟨gb416,_,none⟩) NB426_416.out _).trans (hHeld.2.1)),((cell_far (p:=⟨gb416,_,none⟩) NB426_416.out _).trans (hHeld.2.2.1)),((cell_far (p:=⟨gb416,_,none⟩) NB426_416.out _).trans (hHeld.2.2.2.1)),((cell_far (p:=⟨gb416,_,none⟩) NB426_416.out _).trans (hHeld.2.2.2.2.1)),((cell_far (p:=⟨gb416,_,none⟩) NB426_416.out _).trans (hHeld.2.2.2.2.2.1)),((cell_far (p:=⟨gb416,_,none⟩) NB426_416.out _).trans (hHeld.2.2.2.2.2.2.1)),((cell_far (p:=⟨gb416,_,none⟩) NB426_416.out _).trans (hHeld.2.2.2.2.2.2.2.1)),((cell_far (p:=⟨gb416,_,none⟩) NB426_416.out _).trans (hHeld.2.2.2.2.2.2.2.2.1)),((cell_far (p:=⟨gb416,_,none⟩) NB426_416.out _).trans (hHeld.2.2.2.2.2.2.2.2.2.1)),((cell_far (p:=⟨gb416,_,none⟩) NB426_416.out _).trans (hHeld.2.2.2.2.2.2.2.2.2.2))⟩ (fun hHeld => ?_)
                 clear hK K
                 refine pu HT_ 16 90 131071 (h := ?_)
                 refine on HT_ 17 none 262143 (h:=fun K hK => ?_)
                 have hs103 : w99.cell? ⟨gb416,10,none⟩ = some (.int .i64 0):=bc BK416 10
                 have hfs103:=bf BK416 10
                 have hns103_0:=NB406_416.out
                 have hns103_2:=NB426_416.out
                 have hms103_0:=NB416_406.out
                 have hms103_2:=NB416_426.out
                 refine skip_ (w1 := ?_) (by rfl) rfl ?_ ?_
                 rotate_left
                 ·go_simp
                  rfl
                 refine hK.out _ _ ⟨((cell_far (p:=⟨gb416,_,none⟩) NB426_416.out _).trans (hHeld.1)),((cell_far (p:=⟨gb416,_,none⟩) NB426_416.out _).trans (hHeld.2.1)),((cell_far (p:=⟨gb416,_,none⟩) NB426_416.out _).trans (hHeld.2.2.1)),((cell_far (p:=⟨gb416,_,none⟩) NB426_416.out _).trans (hHeld.2.2.2.1)),((cell_far (p:=⟨gb416,_,none⟩) NB426_416.out _).trans (hHeld.2.2.2.2.1)),((cell_far (p:=⟨gb416,_,none⟩) NB426_416.out _).trans (hHeld.2.2.2.2.2.1)),((cell_far (p:=⟨gb416,_,none⟩) NB426_416.out _).trans (hHeld.2.2.2.2.2.2.1)),((cell_far (p:=⟨gb416,_,none⟩) NB426_416.out _).trans (hHeld.2.2.2.2.2.2.2.1)),((cell_far (p:=⟨gb416,_,none⟩) NB426_416.out _).trans (hHeld.2.2.2.2.2.2.2.2.1)),((cell_far (p:=⟨gb416,_,none⟩) NB426_416.out _).trans (hHeld.2.2.2.2.2.2.2.2.2.1)),((cell_far (p:=⟨gb416,_,none⟩) NB426_416.out _).trans (hHeld.2.2.2.2.2.2.2.2.2.2))⟩ (fun hHeld => ?_)
                 clear hK K
                 refine dn HT_ (h := ?_)
                 try go_wp2
                 go_meet
                 case rel => exact ⟨_,(2),(0),(0),(0),((⟨#[]⟩ : ByteArray)),(([] : List (SElem))),((rd_Op x6_3 (ji65)).f0),((rd_Op x6_3 (ji65)).f1),(t427),(.slice none 0 0),H',⟨by have:=HK1.out; have:=HJ10.out; have:=HK3.out; first | omega | exact Nat.le_refl _⟩,⟨by (with_reducible repeat (first | apply Kd.S_alloc | apply Kd.S_drewN | apply Kd.S_drew)); exact Kd.S_mono (Kd.S_far (p:=⟨gb416,10,none⟩) (Kd.S_far (p:=⟨gb416,9,none⟩) (Kd.S_far (p:=⟨gb416,8,none⟩) (Kd.S_far (p:=⟨gb416,2,none⟩) (Kd.S_mono HO_6.out (fun k_ hk => (⟨hk,hk.2.1⟩ : _ ∧ k_ ≠ gb416))) (fun _ hk => hk.2) (.int .i64 2)) (fun _ hk => hk.2) (.int .i64 ((rd_Op x6_3 (ji65)).f0))) (fun _ hk => hk.2) (.int .i64 ((rd_Op x6_3 (ji65)).f1))) (fun _ hk => hk.2) (.int .i64 t427)) (fun _ hk => ⟨(by simp [Value.ownBlock]),hk.1.2.1⟩)⟩,⟨by first | exact Kd.R_nil _ _ _ _ _ | exact Kd.N_nil _ _ _ _ _ | exact Kd.V_nil _ _ _ _ _ | exact Kd.Q_nil _ _ _ _ _ | exact Kd.S_nil _ _ _ _ _⟩,⟨kk BK406⟩,⟨bp (bp (bp (bp (kk BK416) 2) 8) 9) 10⟩,⟨bw HB⟩⟩
                show (let G_ : Prop:=_; G_)
                intro G_
                exact (let_tmp i_ : Nonempty G_:=(((⟨by
                 subst G_
                 rw [if_pos c70] at H
                 obtain ⟨c70b0,c70b1⟩:=bT c70
                 clear c70
                 by_cases c71 : (Int.tmod x7_3 2) = 1; rotate_left
                 ·rw [if_neg c71] at H
                  obtain ⟨c71b0,c71b1⟩:=bF c71
                  have H':=Aside0.mk H
                  clear H
                  have p425 : 0 ≤ ((ji65) : Int):=od
                  have q425 : (ji65) < (x6_3.length : Int):=od
                  obtain ⟨ad425,A425_7,c425_7,e425,hx425_0,hx425_1,hx425_2,hx425_3,hx425_4,hx425_5,hx425_6,hx425_7,hx425_8,hx425_9,hx425_10,hl425_7,hi425_7⟩:=at_Op (Kd.S_reads' HO_6.out).2.2 (ji65) p425 q425
                  cases e425
                  obtain ⟨ce425,hce425,hMe425,hcc425⟩:=Kd.S_get HO_6.out zOp (ji65) p425 (by first | exact q425 | exact od | (have e_:=(Kd.S_reads' HO_6.out).1; omega))
                  obtain ⟨ve425_7,rfl,ge425_7⟩:=kOp_openM hMe425
                  have hv425_7:=hcc425 7 _ rfl
                  rw [add_field _ _ 7 (by omega)] at hv425_7
                  replace hv425_7:=Option.some.inj (hv425_7.symm.trans hx425_7)
                  rw [hv425_7] at ge425_7
                  have HL425_7:=Aside0.mk (show Kd.R kElem 43 _ _ _ _ ((rd_Op x6_3 (ji65)).f5) from ge425_7)
                  clear hv425_7 ge425_7
                  clear hcc425 hce425
                  have HR425_7:=Aside0.mk hi425_7
                  have HC425_7:=Aside0.mk hl425_7
                  clear hi425_7 hl425_7
                  replace p425:=eq_true p425
                  replace q425:=eq_true q425
                  try go_wp2_with (first | ((with_reducible refine gate_dst (N:=11) rfl ?_); refine bx 11 #[.int .i64 0, .int .i64 0, .int .i64 0, .int .i64 0, .int .i64 0, .int .i64 0, .string (⟨#[]⟩ : ByteArray), .slice none 0 0, .int .i64 0, .int .i64 0, .int .i64 0] 55 (h := ?_); intro gb426 hg w84 hbox hb; have BK426:=Aside0.mk (hbox); have GW426:=bz HB hg; have GE426:=bz HB hg; have NB406_426:=bn BK406 hg; have NB426_406:=bm BK406 hg; have NB416_426:=bn BK416 hg; have NB426_416:=bm BK416 hg; replace HO_6:=Aside0.mk (Kd.S_below (Kd.S_elderB (sk HO_6) gb426 (Nat.le_of_eq hg.symm)) hb); replace HO419:=rb HO419 hb; replace HL425_7:=rb HL425_7 hb; replace BK406:=bl BK406 hb; replace BK416:=bl BK416 hb; replace HR425_7:=Aside0.mk (Kd.C_below (ck HR425_7) hb); replace HB:=bs HB hb; clear hb hbox hg; have hnb85:=NB426_406.out; have hnc85:=NB406_426.out; have hnb86:=NB426_416.out; have hnc86:=NB416_426.out; obtain ⟨_,_,_,_,_,_,_,_,_,_,_,_,_,_,_,_,_,_,_,_,_,_⟩:=kc11 BK426))
                  generalize hgz : (((((((((((w84.setCell ⟨gb426,0,none⟩ (.int .i64 ((rd_Op x6_3 (ji65)).f0))).setCell ⟨gb426,1,none⟩ (.int .i64 ((rd_Op x6_3 (ji65)).f1))).setCell ⟨gb426,2,none⟩ (.int .i64 ((rd_Op x6_3 (ji65)).f2))).setCell ⟨gb426,3,none⟩ (.int .i64 ((rd_Op x6_3 (ji65)).f3.f0))).setCell ⟨gb426,4,none⟩ (.int .i64 ((rd_Op x6_3 (ji65)).f3.f1))).setCell ⟨gb426,5,none⟩ (.int .i64 ((rd_Op x6_3 (ji65)).f3.f2))).setCell ⟨gb426,6,none⟩ (.string ((rd_Op x6_3 (ji65)).f4))).setCell ⟨gb426,7,none⟩ (.slice A425_7 ((rd_Op x6_3 (ji65)).f5).length c425_7)).setCell ⟨gb426,8,none⟩ (.int .i64 ((rd_Op x6_3 (ji65)).f6))).setCell ⟨gb426,9,none⟩ (.int .i64 ((rd_Op x6_3 (ji65)).f7))).setCell ⟨gb426,10,none⟩ (.int .i64 ((rd_Op x6_3 (ji65)).f8))) = w88
                  have n0_ : Aside0 (Kd.S kOp 55 w88 w.heap.size (fun k_ => some k_ ≠ (v418 : Value).ownBlock ∧ k_ ≠ gb416 ∧ k_ ≠ gb426) (.slice (some ad425) x6_3.length co29) x6_3):=by rw [← hgz]; exact ⟨by (with_reducible repeat (first | apply Kd.S_alloc | apply Kd.S_drewN | apply Kd.S_drew)); exact Kd.S_mono (sf11 (Kd.S_mono HO_6.out (fun k_ hk => (⟨hk,hk.2⟩ : _ ∧ k_ ≠ gb426)))) (fun _ hk => ⟨hk.1.1.2,⟨hk.1.1.1.2,hk.1.2⟩⟩)⟩
                  have n1_ : Aside0 (Kd.R kElem 43 w88 w.heap.size (fun _ => True) v418 t417):=by rw [← hgz]; exact ⟨by (with_reducible repeat (first | apply Kd.R_alloc | apply Kd.R_drewN | apply Kd.R_drew)); exact Kd.R_mono (rf11 (Kd.R_types HO419.out BK426.out (by decide))) (fun _ hk => trivial)⟩
                  have n2_ : Aside0 (Kd.R kElem 43 w88 w.heap.size (fun k_ => some k_ ≠ (.slice (some ad425) x6_3.length co29 : Value).ownBlock ∧ some k_ ≠ (v418 : Value).ownBlock ∧ k_ ≠ gb416) (.slice A425_7 ((rd_Op x6_3 (ji65)).f5).length c425_7) ((rd_Op x6_3 (ji65)).f5)):=by rw [← hgz]; exact ⟨by (with_reducible repeat (first | apply Kd.R_alloc | apply Kd.R_drewN | apply Kd.R_drew)); exact Kd.R_mono (rf11 (Kd.R_types HL425_7.out BK426.out (by decide))) (fun _ hk => ⟨hk.1.2,⟨hk.1.1.2,hk.1.1.1.2⟩⟩)⟩
                  have n3_ : Aside0 (w88.heap[gb406]? = some (.cells #[.slice (some ad409) l0_0.length c0_0, .slice A0_1 l0_1.length c0_1, .slice A0_2 l0_2.length c0_2, .slice A0_3 l0_3.length c0_3] 27 (0,0))):=by rw [← hgz]; exact ⟨kk BK406⟩
                  have n4_ : Aside0 (w88.heap[gb416]? = some (.cells #[.int .i64 (wrap64 (1 + (Int.tmod (wrap64 (x7_3 + x5_1)) 3))), .int .i64 (wrap64 (t415 + 1)), .int .i64 0, .int .i64 0, .int .i64 0, .int .i64 0, .string (⟨#[]⟩ : ByteArray), .slice none 0 0, .int .i64 0, .int .i64 0, .int .i64 0] 55 (0,0))):=by rw [← hgz]; exact ⟨kk BK416⟩
                  have n5_ : Aside0 (w88.heap[gb426]? = some (.cells #[.int .i64 ((rd_Op x6_3 (ji65)).f0), .int .i64 ((rd_Op x6_3 (ji65)).f1), .int .i64 ((rd_Op x6_3 (ji65)).f2), .int .i64 ((rd_Op x6_3 (ji65)).f3.f0), .int .i64 ((rd_Op x6_3 (ji65)).f3.f1), .int .i64 ((rd_Op x6_3 (ji65)).f3.f2), .string ((rd_Op x6_3 (ji65)).f4), .slice A425_7 ((rd_Op x6_3 (ji65)).f5).length c425_7, .int .i64 ((rd_Op x6_3 (ji65)).f6), .int .i64 ((rd_Op x6_3 (ji65)).f7), .int .i64 ((rd_Op x6_3 (ji65)).f8)] 55 (0,0))):=by rw [← hgz]; exact ⟨bp11 (kk BK426)⟩
                  have n6_ : Aside0 (Below w.heap.size w w88):=by rw [← hgz]; exact ⟨bw HB⟩
                  (try clear HO_6)
                  (try clear HO419)
                  (try clear HL425_7)
                  (try clear BK406)
                  (try clear BK416)
                  (try clear BK426)
                  (try clear HB)
                  clear hgz
                  have HO_6:=n0_
                  have HO419:=n1_
                  have HL425_7:=n2_
                  have BK406:=n3_
                  have BK416:=n4_
                  have BK426:=n5_
                  have HB:=n6_
                  clear n0_ n1_ n2_ n3_ n4_ n5_ n6_
                  have n0_:=Aside0.mk (Kd.S_drew HO_6.out)
                  have n1_:=Aside0.mk (Kd.R_drew HO419.out)
                  have n2_:=Aside0.mk (Kd.R_drew HL425_7.out)
                  have n3_:=Aside0.mk (blk_drew BK406.out)
                  have n4_:=Aside0.mk (blk_drew BK416.out)
                  have n5_:=Aside0.mk (blk_drew BK426.out)
                  have n6_:=Aside0.mk (below_drew1 HB.out)
                  clear HO_6
                  clear HO419
                  clear HL425_7
                  clear BK406
                  clear BK416
                  clear BK426
                  clear HB
                  have HO_6:=n0_
                  have HO419:=n1_
                  have HL425_7:=n2_
                  have BK406:=n3_
                  have BK416:=n4_
                  have BK426:=n5_
                  have HB:=n6_
                  clear n0_ n1_ n2_ n3_ n4_ n5_ n6_
                  refine stP (fun w' => E11 w' gb426 (.int .i64 ((rd_Op x6_3 (ji65)).f0)) (.int .i64 ((rd_Op x6_3 (ji65)).f1)) (.int .i64 ((rd_Op x6_3 (ji65)).f2)) (.int .i64 ((rd_Op x6_3 (ji65)).f3.f0)) (.int .i64 ((rd_Op x6_3 (ji65)).f3.f1)) (.int .i64 ((rd_Op x6_3 (ji65)).f3.f2)) (.string ((rd_Op x6_3 (ji65)).f4)) (.slice A425_7 ((rd_Op x6_3 (ji65)).f5).length c425_7) (.int .i64 ((rd_Op x6_3 (ji65)).f6)) (.int .i64 ((rd_Op x6_3 (ji65)).f7)) (.int .i64 ((rd_Op x6_3 (ji65)).f8))) 18 (e11 BK426) (h:=fun hHeld => ?_); refine with_tabW w6_with.tab18 w6_with.bits18 (fun HT_ HW_ => ?_)
                  generalize w88.drew = w89 at HO_6 HO419 HL425_7 BK406 BK416 BK426 HB hHeld ⊢
                  refine pu HT_ 0 77 1 (h := ?_)
                  refine pu HT_ 2 79 5 (h := ?_)
                  refine pu HT_ 4 81 21 (h := ?_)
                  refine pu HT_ 5 82 53 (h := ?_)
                  refine pu HT_ 7 84 181 (h := ?_)
                  refine pu HT_ 10 87 1205 (h := ?_)
                  refine tk HT_ HW_ hHeld 1 78 1207 (h := ?_)
                  refine tk HT_ HW_ hHeld 3 80 1215 (h := ?_)
                  refine tk HT_ HW_ hHeld 6 83 1279 (h := ?_)
                  refine tk HT_ HW_ hHeld 8 85 1535 (h := ?_)
                  refine on HT_ 9 (some 86) 2047 (h:=fun K hK => ?_)
                  refine goes_ Tryd.func69 (by kernel_rfl) rfl #[.slice (some ad425) x6_3.length co29, .int .i64 ((rd_Op x6_3 (ji65)).f0), .int .i64 ((rd_Op x6_3 (ji65)).f1)] (by rfl) rfl rfl (by (try simp only [List.map_toArray,List.map_cons,List.map_nil]); first | done | (simp only [hji65]; rfl) | rfl | (simp only [List.length_drop,List.length_take]; rfl)) ?_
                  with_reducible refine (r4_Count.calls k3 _ _ x6_3 ((rd_Op x6_3 (ji65)).f0) ((rd_Op x6_3 (ji65)).f1) t427 _ ?side1 ?side2 A69.out).mono ?_
                  (case side1 => exact cs HO_6)
                  (case side2 => exact (Kd.S_reads' HO_6.out).2.1)
                  rintro e w' ⟨rfl,⟨nd,rfl⟩⟩
                  refine ⟨_,rfl, ?_⟩
                  refine hK.out _ _ (e11 BK426) (fun hHeld => ?_)
                  clear hK K
                  refine nn 86 (h := ?_)
                  refine on HT_ 11 none 4095 (h:=fun K hK => ?_)
                  have hs90 : w89.cell? ⟨gb416,2,none⟩ = some (.int .i64 0):=bc BK416 2
                  have hfs90:=bf BK416 2
                  have hns90_0:=NB406_416.out
                  have hns90_2:=NB426_416.out
                  have hms90_0:=NB416_406.out
                  have hms90_2:=NB416_426.out
                  refine skip_ (w1 := ?_) (by rfl) rfl ?_ ?_
                  rotate_left
                  ·go_simp
                   rfl
                  refine hK.out _ _ ⟨((cell_far (p:=⟨gb416,_,none⟩) NB426_416.out _).trans (hHeld.1)),((cell_far (p:=⟨gb416,_,none⟩) NB426_416.out _).trans (hHeld.2.1)),((cell_far (p:=⟨gb416,_,none⟩) NB426_416.out _).trans (hHeld.2.2.1)),((cell_far (p:=⟨gb416,_,none⟩) NB426_416.out _).trans (hHeld.2.2.2.1)),((cell_far (p:=⟨gb416,_,none⟩) NB426_416.out _).trans (hHeld.2.2.2.2.1)),((cell_far (p:=⟨gb416,_,none⟩) NB426_416.out _).trans (hHeld.2.2.2.2.2.1)),((cell_far (p:=⟨gb416,_,none⟩) NB426_416.out _).trans (hHeld.2.2.2.2.2.2.1)),((cell_far (p:=⟨gb416,_,none⟩) NB426_416.out _).trans (hHeld.2.2.2.2.2.2.2.1)),((cell_far (p:=⟨gb416,_,none⟩) NB426_416.out _).trans (hHeld.2.2.2.2.2.2.2.2.1)),((cell_far (p:=⟨gb416,_,none⟩) NB426_416.out _).trans (hHeld.2.2.2.2.2.2.2.2.2.1)),((cell_far (p:=⟨gb416,_,none⟩) NB426_416.out _).trans (hHeld.2.2.2.2.2.2.2.2.2.2))⟩ (fun hHeld => ?_)
                  clear hK K
                  refine pu HT_ 12 88 8191 (h := ?_)
                  refine on HT_ 13 none 16383 (h:=fun K hK => ?_)
                  have hs91 : w89.cell? ⟨gb416,8,none⟩ = some (.int .i64 0):=bc BK416 8
                  have hfs91:=bf BK416 8
                  have hns91_0:=NB406_416.out
                  have hns91_2:=NB426_416.out
                  have hms91_0:=NB416_406.out
                  have hms91_2:=NB416_426.out
                  refine skip_ (w1 := ?_) (by rfl) rfl ?_ ?_
                  rotate_left
                  ·go_simp
                   rfl
                  refine hK.out _ _ ⟨((cell_far (p:=⟨gb416,_,none⟩) NB426_416.out _).trans (hHeld.1)),((cell_far (p:=⟨gb416,_,none⟩) NB426_416.out _).trans (hHeld.2.1)),((cell_far (p:=⟨gb416,_,none⟩) NB426_416.out _).trans (hHeld.2.2.1)),((cell_far (p:=⟨gb416,_,none⟩) NB426_416.out _).trans (hHeld.2.2.2.1)),((cell_far (p:=⟨gb416,_,none⟩) NB426_416.out _).trans (hHeld.2.2.2.2.1)),((cell_far (p:=⟨gb416,_,none⟩) NB426_416.out _).trans (hHeld.2.2.2.2.2.1)),((cell_far (p:=⟨gb416,_,none⟩) NB426_416.out _).trans (hHeld.2.2.2.2.2.2.1)),((cell_far (p:=⟨gb416,_,none⟩) NB426_416.out _).trans (hHeld.2.2.2.2.2.2.2.1)),((cell_far (p:=⟨gb416,_,none⟩) NB426_416.out _).trans (hHeld.2.2.2.2.2.2.2.2.1)),((cell_far (p:=⟨gb416,_,none⟩) NB426_416.out _).trans (hHeld.2.2.2.2.2.2.2.2.2.1)),((cell_far (p:=⟨gb416,_,none⟩) NB426_416.out _).trans (hHeld.2.2.2.2.2.2.2.2.2.2))⟩ (fun hHeld => ?_)
                  clear hK K
                  refine pu HT_ 14 89 32767 (h := ?_)
                  refine on HT_ 15 none 65535 (h:=fun K hK => ?_)
                  have hs92 : w89.cell? ⟨gb416,9,none⟩ = some (.int .i64 0):=bc BK416 9
                  have hfs92:=bf BK416 9
                  have hns92_0:=NB406_416.out
                  have hns92_2:=NB426_416.out
                  have hms92_0:=NB416_406.out
                  have hms92_2:=NB416_426.out
                  refine skip_ (w1 := ?_) (by rfl) rfl ?_ ?_
                  rotate_left
                  ·go_simp
                   rfl
                  refine hK.out _ _ ⟨((cell_far (p:=⟨gb416,_,none⟩) NB426_416.out _).trans (hHeld.1)),((cell_far (p:=⟨gb416,_,none⟩) NB426_416.out _).trans (hHeld.2.1)),((cell_far (p:=⟨gb416,_,none⟩) NB426_416.out _).trans (hHeld.2.2.1)),((cell_far (p:=⟨gb416,_,none⟩) NB426_416.out _).trans (hHeld.2.2.2.1)),((cell_far (p:=⟨gb416,_,none⟩) NB426_416.out _).trans (hHeld.2.2.2.2.1)),((cell_far (p:=⟨gb416,_,none⟩) NB426_416.out _).trans (hHeld.2.2.2.2.2.1)),((cell_far (p:=⟨gb416,_,none⟩) NB426_416.out _).trans (hHeld.2.2.2.2.2.2.1)),((cell_far (p:=⟨gb416,_,none⟩) NB426_416.out _).trans (hHeld.2.2.2.2.2.2.2.1)),((cell_far (p:=⟨gb416,_,none⟩) NB426_416.out _).trans (hHeld.2.2.2.2.2.2.2.2.1)),((cell_far (p:=⟨gb416,_,none⟩) NB426_416.out _).trans (hHeld.2.2.2.2.2.2.2.2.2.1)),((cell_far (p:=⟨gb416,_,none⟩) NB426_416.out _).trans (hHeld.2.2.2.2.2.2.2.2.2.2))⟩ (fun hHeld => ?_)
                  clear hK K
                  refine pu HT_ 16 90 131071 (h := ?_)
                  refine on HT_ 17 none 262143 (h:=fun K hK => ?_)
                  have hs93 : w89.cell? ⟨gb416,10,none⟩ = some (.int .i64 0):=bc BK416 10
                  have hfs93:=bf BK416 10
                  have hns93_0:=NB406_416.out
                  have hns93_2:=NB426_416.out
                  have hms93_0:=NB416_406.out
                  have hms93_2:=NB416_426.out
                  refine skip_ (w1 := ?_) (by rfl) rfl ?_ ?_
                  rotate_left
                  ·go_simp
                   rfl
                  refine hK.out _ _ ⟨((cell_far (p:=⟨gb416,_,none⟩) NB426_416.out _).trans (hHeld.1)),((cell_far (p:=⟨gb416,_,none⟩) NB426_416.out _).trans (hHeld.2.1)),((cell_far (p:=⟨gb416,_,none⟩) NB426_416.out _).trans (hHeld.2.2.1)),((cell_far (p:=⟨gb416,_,none⟩) NB426_416.out _).trans (hHeld.2.2.2.1)),((cell_far (p:=⟨gb416,_,none⟩) NB426_416.out _).trans (hHeld.2.2.2.2.1)),((cell_far (p:=⟨gb416,_,none⟩) NB426_416.out _).trans (hHeld.2.2.2.2.2.1)),((cell_far (p:=⟨gb416,_,none⟩) NB426_416.out _).trans (hHeld.2.2.2.2.2.2.1)),((cell_far (p:=⟨gb416,_,none⟩) NB426_416.out _).trans (hHeld.2.2.2.2.2.2.2.1)),((cell_far (p:=⟨gb416,_,none⟩) NB426_416.out _).trans (hHeld.2.2.2.2.2.2.2.2.1)),((cell_far (p:=⟨gb416,_,none⟩) NB426_416.out _).trans (hHeld.2.2.2.2.2.2.2.2.2.1)),((cell_far (p:=⟨gb416,_,none⟩) NB426_416.out _).trans (hHeld.2.2.2.2.2.2.2.2.2.2))⟩ (fun hHeld => ?_)
                  clear hK K
                  refine dn HT_ (h := ?_)
                  try go_wp2
                  go_meet
                  case rel => exact ⟨_,(2),(0),(0),(0),((⟨#[]⟩ : ByteArray)),(([] : List (SElem))),((rd_Op x6_3 (ji65)).f0),((rd_Op x6_3 (ji65)).f1),(t427),(.slice none 0 0),H',⟨by have:=HK1.out; have:=HJ10.out; have:=HK3.out; first | omega | exact Nat.le_refl _⟩,⟨by (with_reducible repeat (first | apply Kd.S_alloc | apply Kd.S_drewN | apply Kd.S_drew)); exact Kd.S_mono (Kd.S_far (p:=⟨gb416,10,none⟩) (Kd.S_far (p:=⟨gb416,9,none⟩) (Kd.S_far (p:=⟨gb416,8,none⟩) (Kd.S_far (p:=⟨gb416,2,none⟩) (Kd.S_mono HO_6.out (fun k_ hk => (⟨hk,hk.2.1⟩ : _ ∧ k_ ≠ gb416))) (fun _ hk => hk.2) (.int .i64 2)) (fun _ hk => hk.2) (.int .i64 ((rd_Op x6_3 (ji65)).f0))) (fun _ hk => hk.2) (.int .i64 ((rd_Op x6_3 (ji65)).f1))) (fun _ hk => hk.2) (.int .i64 t427)) (fun _ hk => ⟨(by simp [Value.ownBlock]),hk.1.2.1⟩)⟩,⟨by first | exact Kd.R_nil _ _ _ _ _ | exact Kd.N_nil _ _ _ _ _ | exact Kd.V_nil _ _ _ _ _ | exact Kd.Q_nil _ _ _ _ _ | exact Kd.S_nil _ _ _ _ _⟩,⟨kk BK406⟩,⟨bp (bp (bp (bp (kk BK416) 2) 8) 9) 10⟩,⟨bw HB⟩⟩
                 show (let G_ : Prop:=_; G_)
                 intro G_
                 exact (let_tmp i_ : Nonempty G_:=(((⟨by
                  subst G_
                  rw [if_pos c71] at H
                  obtain ⟨c71b0,c71b1⟩:=bT c71
                  clear c71
                  have H':=Aside0.mk H
                  clear H
                  have p425 : 0 ≤ ((ji65) : Int):=od
                  have q425 : (ji65) < (x6_3.length : Int):=od
                  obtain ⟨ad425,A425_7,c425_7,e425,hx425_0,hx425_1,hx425_2,hx425_3,hx425_4,hx425_5,hx425_6,hx425_7,hx425_8,hx425_9,hx425_10,hl425_7,hi425_7⟩:=at_Op (Kd.S_reads' HO_6.out).2.2 (ji65) p425 q425
                  cases e425
                  obtain ⟨ce425,hce425,hMe425,hcc425⟩:=Kd.S_get HO_6.out zOp (ji65) p425 (by first | exact q425 | exact od | (have e_:=(Kd.S_reads' HO_6.out).1; omega))
                  obtain ⟨ve425_7,rfl,ge425_7⟩:=kOp_openM hMe425
                  have hv425_7:=hcc425 7 _ rfl
                  rw [add_field _ _ 7 (by omega)] at hv425_7
                  replace hv425_7:=Option.some.inj (hv425_7.symm.trans hx425_7)
                  rw [hv425_7] at ge425_7
                  have HL425_7:=Aside0.mk (show Kd.R kElem 43 _ _ _ _ ((rd_Op x6_3 (ji65)).f5) from ge425_7)
                  clear hv425_7 ge425_7
                  clear hcc425 hce425
                  have HR425_7:=Aside0.mk hi425_7
                  have HC425_7:=Aside0.mk hl425_7
                  clear hi425_7 hl425_7
                  replace p425:=eq_true p425
                  replace q425:=eq_true q425
                  try go_wp2_with (first | ((with_reducible refine gate_dst (N:=11) rfl ?_); refine bx 11 #[.int .i64 0, .int .i64 0, .int .i64 0, .int .i64 0, .int .i64 0, .int .i64 0, .string (⟨#[]⟩ : ByteArray), .slice none 0 0, .int .i64 0, .int .i64 0, .int .i64 0] 55 (h := ?_); intro gb426 hg w72 hbox hb; have BK426:=Aside0.mk (hbox); have GW426:=bz HB hg; have GE426:=bz HB hg; have NB406_426:=bn BK406 hg; have NB426_406:=bm BK406 hg; have NB416_426:=bn BK416 hg; have NB426_416:=bm BK416 hg; replace HO_6:=Aside0.mk (Kd.S_below (Kd.S_elderB (sk HO_6) gb426 (Nat.le_of_eq hg.symm)) hb); replace HO419:=rb HO419 hb; replace HL425_7:=rb HL425_7 hb; replace BK406:=bl BK406 hb; replace BK416:=bl BK416 hb; replace HR425_7:=Aside0.mk (Kd.C_below (ck HR425_7) hb); replace HB:=bs HB hb; clear hb hbox hg; have hnb73:=NB426_406.out; have hnc73:=NB406_426.out; have hnb74:=NB426_416.out; have hnc74:=NB416_426.out; obtain ⟨_,_,_,_,_,_,_,_,_,_,_,_,_,_,_,_,_,_,_,_,_,_⟩:=kc11 BK426))
                  generalize hgz : (((((((((((w72.setCell ⟨gb426,0,none⟩ (.int .i64 ((rd_Op x6_3 (ji65)).f0))).setCell ⟨gb426,1,none⟩ (.int .i64 ((rd_Op x6_3 (ji65)).f1))).setCell ⟨gb426,2,none⟩ (.int .i64 ((rd_Op x6_3 (ji65)).f2))).setCell ⟨gb426,3,none⟩ (.int .i64 ((rd_Op x6_3 (ji65)).f3.f0))).setCell ⟨gb426,4,none⟩ (.int .i64 ((rd_Op x6_3 (ji65)).f3.f1))).setCell ⟨gb426,5,none⟩ (.int .i64 ((rd_Op x6_3 (ji65)).f3.f2))).setCell ⟨gb426,6,none⟩ (.string ((rd_Op x6_3 (ji65)).f4))).setCell ⟨gb426,7,none⟩ (.slice A425_7 ((rd_Op x6_3 (ji65)).f5).length c425_7)).setCell ⟨gb426,8,none⟩ (.int .i64 ((rd_Op x6_3 (ji65)).f6))).setCell ⟨gb426,9,none⟩ (.int .i64 ((rd_Op x6_3 (ji65)).f7))).setCell ⟨gb426,10,none⟩ (.int .i64 ((rd_Op x6_3 (ji65)).f8))) = w76
                  have n0_ : Aside0 (Kd.S kOp 55 w76 w.heap.size (fun k_ => some k_ ≠ (v418 : Value).ownBlock ∧ k_ ≠ gb416 ∧ k_ ≠ gb426) (.slice (some ad425) x6_3.length co29) x6_3):=by rw [← hgz]; exact ⟨by (with_reducible repeat (first | apply Kd.S_alloc | apply Kd.S_drewN | apply Kd.S_drew)); exact Kd.S_mono (sf11 (Kd.S_mono HO_6.out (fun k_ hk => (⟨hk,hk.2⟩ : _ ∧ k_ ≠ gb426)))) (fun _ hk => ⟨hk.1.1.2,⟨hk.1.1.1.2,hk.1.2⟩⟩)⟩
                  have n1_ : Aside0 (Kd.R kElem 43 w76 w.heap.size (fun _ => True) v418 t417):=by rw [← hgz]; exact ⟨by (with_reducible repeat (first | apply Kd.R_alloc | apply Kd.R_drewN | apply Kd.R_drew)); exact Kd.R_mono (rf11 (Kd.R_types HO419.out BK426.out (by decide))) (fun _ hk => trivial)⟩
                  have n2_ : Aside0 (Kd.R kElem 43 w76 w.heap.size (fun k_ => some k_ ≠ (.slice (some ad425) x6_3.length co29 : Value).ownBlock ∧ some k_ ≠ (v418 : Value).ownBlock ∧ k_ ≠ gb416) (.slice A425_7 ((rd_Op x6_3 (ji65)).f5).length c425_7) ((rd_Op x6_3 (ji65)).f5)):=by rw [← hgz]; exact ⟨by (with_reducible repeat (first | apply Kd.R_alloc | apply Kd.R_drewN | apply Kd.R_drew)); exact Kd.R_mono (rf11 (Kd.R_types HL425_7.out BK426.out (by decide))) (fun _ hk => ⟨hk.1.2,⟨hk.1.1.2,hk.1.1.1.2⟩⟩)⟩
                  have n3_ : Aside0 (w76.heap[gb406]? = some (.cells #[.slice (some ad409) l0_0.length c0_0, .slice A0_1 l0_1.length c0_1, .slice A0_2 l0_2.length c0_2, .slice A0_3 l0_3.length c0_3] 27 (0,0))):=by rw [← hgz]; exact ⟨kk BK406⟩
                  have n4_ : Aside0 (w76.heap[gb416]? = some (.cells #[.int .i64 (wrap64 (1 + (Int.tmod (wrap64 (x7_3 + x5_1)) 3))), .int .i64 (wrap64 (t415 + 1)), .int .i64 0, .int .i64 0, .int .i64 0, .int .i64 0, .string (⟨#[]⟩ : ByteArray), .slice none 0 0, .int .i64 0, .int .i64 0, .int .i64 0] 55 (0,0))):=by rw [← hgz]; exact ⟨kk BK416⟩
                  have n5_ : Aside0 (w76.heap[gb426]? = some (.cells #[.int .i64 ((rd_Op x6_3 (ji65)).f0), .int .i64 ((rd_Op x6_3 (ji65)).f1), .int .i64 ((rd_Op x6_3 (ji65)).f2), .int .i64 ((rd_Op x6_3 (ji65)).f3.f0), .int .i64 ((rd_Op x6_3 (ji65)).f3.f1), .int .i64 ((rd_Op x6_3 (ji65)).f3.f2), .string ((rd_Op x6_3 (ji65)).f4), .slice A425_7 ((rd_Op x6_3 (ji65)).f5).length c425_7, .int .i64 ((rd_Op x6_3 (ji65)).f6), .int .i64 ((rd_Op x6_3 (ji65)).f7), .int .i64 ((rd_Op x6_3 (ji65)).f8)] 55 (0,0))):=by rw [← hgz]; exact ⟨bp11 (kk BK426)⟩
                  have n6_ : Aside0 (Below w.heap.size w w76):=by rw [← hgz]; exact ⟨bw HB⟩
                  (try clear HO_6)
                  (try clear HO419)
                  (try clear HL425_7)
                  (try clear BK406)
                  (try clear BK416)
                  (try clear BK426)
                  (try clear HB)
                  clear hgz
                  have HO_6:=n0_
                  have HO419:=n1_
                  have HL425_7:=n2_
                  have BK406:=n3_
                  have BK416:=n4_
                  have BK426:=n5_
                  have HB:=n6_
                  clear n0_ n1_ n2_ n3_ n4_ n5_ n6_
                  have n0_:=Aside0.mk (Kd.S_drew HO_6.out)
                  have n1_:=Aside0.mk (Kd.R_drew HO419.out)
                  have n2_:=Aside0.mk (Kd.R_drew HL425_7.out)
                  have n3_:=Aside0.mk (blk_drew BK406.out)
                  have n4_:=Aside0.mk (blk_drew BK416.out)
                  have n5_:=Aside0.mk (blk_drew BK426.out)
                  have n6_:=Aside0.mk (below_drew1 HB.out)
                  clear HO_6
                  clear HO419
                  clear HL425_7
                  clear BK406
                  clear BK416
                  clear BK426
                  clear HB
                  have HO_6:=n0_
                  have HO419:=n1_
                  have HL425_7:=n2_
                  have BK406:=n3_
                  have BK416:=n4_
                  have BK426:=n5_
                  have HB:=n6_
                  clear n0_ n1_ n2_ n3_ n4_ n5_ n6_
                  refine stP (fun w' => E11 w' gb426 (.int .i64 ((rd_Op x6_3 (ji65)).f0)) (.int .i64 ((rd_Op x6_3 (ji65)).f1)) (.int .i64 ((rd_Op x6_3 (ji65)).f2)) (.int .i64 ((rd_Op x6_3 (ji65)).f3.f0)) (.int .i64 ((rd_Op x6_3 (ji65)).f3.f1)) (.int .i64 ((rd_Op x6_3 (ji65)).f3.f2)) (.string ((rd_Op x6_3 (ji65)).f4)) (.slice A425_7 ((rd_Op x6_3 (ji65)).f5).length c425_7) (.int .i64 ((rd_Op x6_3 (ji65)).f6)) (.int .i64 ((rd_Op x6_3 (ji65)).f7)) (.int .i64 ((rd_Op x6_3 (ji65)).f8))) 18 (e11 BK426) (h:=fun hHeld => ?_); refine with_tabW w6_with.tab18 w6_with.bits18 (fun HT_ HW_ => ?_)
                  generalize w76.drew = w77 at HO_6 HO419 HL425_7 BK406 BK416 BK426 HB hHeld ⊢
                  refine pu HT_ 0 77 1 (h := ?_)
                  refine pu HT_ 2 79 5 (h := ?_)
                  refine pu HT_ 4 81 21 (h := ?_)
                  refine pu HT_ 5 82 53 (h := ?_)
                  refine pu HT_ 7 84 181 (h := ?_)
                  refine pu HT_ 10 87 1205 (h := ?_)
                  refine tk HT_ HW_ hHeld 1 78 1207 (h := ?_)
                  refine tk HT_ HW_ hHeld 3 80 1215 (h := ?_)
                  refine tk HT_ HW_ hHeld 6 83 1279 (h := ?_)
                  refine tk HT_ HW_ hHeld 8 85 1535 (h := ?_)
                  refine on HT_ 9 (some 86) 2047 (h:=fun K hK => ?_)
                  refine goes_ Tryd.func69 (by kernel_rfl) rfl #[.slice (some ad425) x6_3.length co29, .int .i64 ((rd_Op x6_3 (ji65)).f0), .int .i64 ((rd_Op x6_3 (ji65)).f1)] (by rfl) rfl rfl (by (try simp only [List.map_toArray,List.map_cons,List.map_nil]); first | done | (simp only [hji65]; rfl) | rfl | (simp only [List.length_drop,List.length_take]; rfl)) ?_
                  with_reducible refine (r4_Count.calls k3 _ _ x6_3 ((rd_Op x6_3 (ji65)).f0) ((rd_Op x6_3 (ji65)).f1) t427 _ ?side1 ?side2 A69.out).mono ?_
                  (case side1 => exact cs HO_6)
                  (case side2 => exact (Kd.S_reads' HO_6.out).2.1)
                  rintro e w' ⟨rfl,⟨nd,rfl⟩⟩
                  refine ⟨_,rfl, ?_⟩
                  refine hK.out _ _ (e11 BK426) (fun hHeld => ?_)
                  clear hK K
                  refine nn 86 (h := ?_)
                  refine on HT_ 11 none 4095 (h:=fun K hK => ?_)
                  have hs78 : w77.cell? ⟨gb416,2,none⟩ = some (.int .i64 0):=bc BK416 2
                  have hfs78:=bf BK416 2
                  have hns78_0:=NB406_416.out
                  have hns78_2:=NB426_416.out
                  have hms78_0:=NB416_406.out
                  have hms78_2:=NB416_426.out
                  refine skip_ (w1 := ?_) (by rfl) rfl ?_ ?_
                  rotate_left
                  ·go_simp
                   rfl
                  refine hK.out _ _ ⟨((cell_far (p:=⟨gb416,_,none⟩) NB426_416.out _).trans (hHeld.1)),((cell_far (p:=⟨gb416,_,none⟩) NB426_416.out _).trans (hHeld.2.1)),((cell_far (p:=⟨gb416,_,none⟩) NB426_416.out _).trans (hHeld.2.2.1)),((cell_far (p:=⟨gb416,_,none⟩) NB426_416.out _).trans (hHeld.2.2.2.1)),((cell_far (p:=⟨gb416,_,none⟩) NB426_416.out _).trans (hHeld.2.2.2.2.1)),((cell_far (p:=⟨gb416,_,none⟩) NB426_416.out _).trans (hHeld.2.2.2.2.2.1)),((cell_far (p:=⟨gb416,_,none⟩) NB426_416.out _).trans (hHeld.2.2.2.2.2.2.1)),((cell_far (p:=⟨gb416,_,none⟩) NB426_416.out _).trans (hHeld.2.2.2.2.2.2.2.1)),((cell_far (p:=⟨gb416,_,none⟩) NB426_416.out _).trans (hHeld.2.2.2.2.2.2.2.2.1)),((cell_far (p:=⟨gb416,_,none⟩) NB426_416.out _).trans (hHeld.2.2.2.2.2.2.2.2.2.1)),((cell_far (p:=⟨gb416,_,none⟩) NB426_416.out _).trans (hHeld.2.2.2.2.2.2.2.2.2.2))⟩ (fun hHeld => ?_)
                  clear hK K
                  refine pu HT_ 12 88 8191 (h := ?_)
                  refine on HT_ 13 none 16383 (h:=fun K hK => ?_)
                  have hs79 : w77.cell? ⟨gb416,8,none⟩ = some (.int .i64 0):=bc BK416 8
                  have hfs79:=bf BK416 8
                  have hns79_0:=NB406_416.out
                  have hns79_2:=NB426_416.out
                  have hms79_0:=NB416_406.out
                  have hms79_2:=NB416_426.out
                  refine skip_ (w1 := ?_) (by rfl) rfl ?_ ?_
                  rotate_left
                  ·go_simp
                   rfl
                  refine hK.out _ _ ⟨((cell_far (p:=⟨gb416,_,none⟩) NB426_416.out _).trans (hHeld.1)),((cell_far (p:=⟨gb416,_,none⟩) NB426_416.out _).trans (hHeld.2.1)),((cell_far (p:=⟨gb416,_,none⟩) NB426_416.out _).trans (hHeld.2.2.1)),((cell_far (p:=⟨gb416,_,none⟩) NB426_416.out _).trans (hHeld.2.2.2.1)),((cell_far (p:=⟨gb416,_,none⟩) NB426_416.out _).trans (hHeld.2.2.2.2.1)),((cell_far (p:=⟨gb416,_,none⟩) NB426_416.out _).trans (hHeld.2.2.2.2.2.1)),((cell_far (p:=⟨gb416,_,none⟩) NB426_416.out _).trans (hHeld.2.2.2.2.2.2.1)),((cell_far (p:=⟨gb416,_,none⟩) NB426_416.out _).trans (hHeld.2.2.2.2.2.2.2.1)),((cell_far (p:=⟨gb416,_,none⟩) NB426_416.out _).trans (hHeld.2.2.2.2.2.2.2.2.1)),((cell_far (p:=⟨gb416,_,none⟩) NB426_416.out _).trans (hHeld.2.2.2.2.2.2.2.2.2.1)),((cell_far (p:=⟨gb416,_,none⟩) NB426_416.out _).trans (hHeld.2.2.2.2.2.2.2.2.2.2))⟩ (fun hHeld => ?_)
                  clear hK K
                  refine pu HT_ 14 89 32767 (h := ?_)
                  refine on HT_ 15 none 65535 (h:=fun K hK => ?_)
                  have hs80 : w77.cell? ⟨gb416,9,none⟩ = some (.int .i64 0):=bc BK416 9
                  have hfs80:=bf BK416 9
                  have hns80_0:=NB406_416.out
                  have hns80_2:=NB426_416.out
                  have hms80_0:=NB416_406.out
                  have hms80_2:=NB416_426.out
                  refine skip_ (w1 := ?_) (by rfl) rfl ?_ ?_
                  rotate_left
                  ·go_simp
                   rfl
                  refine hK.out _ _ ⟨((cell_far (p:=⟨gb416,_,none⟩) NB426_416.out _).trans (hHeld.1)),((cell_far (p:=⟨gb416,_,none⟩) NB426_416.out _).trans (hHeld.2.1)),((cell_far (p:=⟨gb416,_,none⟩) NB426_416.out _).trans (hHeld.2.2.1)),((cell_far (p:=⟨gb416,_,none⟩) NB426_416.out _).trans (hHeld.2.2.2.1)),((cell_far (p:=⟨gb416,_,none⟩) NB426_416.out _).trans (hHeld.2.2.2.2.1)),((cell_far (p:=⟨gb416,_,none⟩) NB426_416.out _).trans (hHeld.2.2.2.2.2.1)),((cell_far (p:=⟨gb416,_,none⟩) NB426_416.out _).trans (hHeld.2.2.2.2.2.2.1)),((cell_far (p:=⟨gb416,_,none⟩) NB426_416.out _).trans (hHeld.2.2.2.2.2.2.2.1)),((cell_far (p:=⟨gb416,_,none⟩) NB426_416.out _).trans (hHeld.2.2.2.2.2.2.2.2.1)),((cell_far (p:=⟨gb416,_,none⟩) NB426_416.out _).trans (hHeld.2.2.2.2.2.2.2.2.2.1)),((cell_far (p:=⟨gb416,_,none⟩) NB426_416.out _).trans (hHeld.2.2.2.2.2.2.2.2.2.2))⟩ (fun hHeld => ?_)
                  clear hK K
                  refine pu HT_ 16 90 131071 (h := ?_)
                  refine on HT_ 17 none 262143 (h:=fun K hK => ?_)
                  have hs81 : w77.cell? ⟨gb416,10,none⟩ = some (.int .i64 0):=bc BK416 10
                  have hfs81:=bf BK416 10
                  have hns81_0:=NB406_416.out
                  have hns81_2:=NB426_416.out
                  have hms81_0:=NB416_406.out
                  have hms81_2:=NB416_426.out
                  refine skip_ (w1 := ?_) (by rfl) rfl ?_ ?_
                  rotate_left
                  ·go_simp
                   rfl
                  refine hK.out _ _ ⟨((cell_far (p:=⟨gb416,_,none⟩) NB426_416.out _).trans (hHeld.1)),((cell_far (p:=⟨gb416,_,none⟩) NB426_416.out _).trans (hHeld.2.1)),((cell_far (p:=⟨gb416,_,none⟩) NB426_416.out _).trans (hHeld.2.2.1)),((cell_far (p:=⟨gb416,_,none⟩) NB426_416.out _).trans (hHeld.2.2.2.1)),((cell_far (p:=⟨gb416,_,none⟩) NB426_416.out _).trans (hHeld.2.2.2.2.1)),((cell_far (p:=⟨gb416,_,none⟩) NB426_416.out _).trans (hHeld.2.2.2.2.2.1)),((cell_far (p:=⟨gb416,_,none⟩) NB426_416.out _).trans (hHeld.2.2.2.2.2.2.1)),((cell_far (p:=⟨gb416,_,none⟩) NB426_416.out _).trans (hHeld.2.2.2.2.2.2.2.1)),((cell_far (p:=⟨gb416,_,none⟩) NB426_416.out _).trans (hHeld.2.2.2.2.2.2.2.2.1)),((cell_far (p:=⟨gb416,_,none⟩) NB426_416.out _).trans (hHeld.2.2.2.2.2.2.2.2.2.1)),((cell_far (p:=⟨gb416,_,none⟩) NB426_416.out _).trans (hHeld.2.2.2.2.2.2.2.2.2.2))⟩ (fun hHeld => ?_)
                  clear hK K
                  refine dn HT_ (h := ?_)
                  have hnb82:=NB416_406.out
                  have hnc82:=NB406_416.out
                  obtain ⟨_,_,_,_,_,_,_,_,_,_,_,_,_,_,_,_,_,_,_,_,_,_⟩:=kc11 BK416
                  try go_wp2
                  go_meet
                  case rel => exact ⟨_,(2),(0),(0),(0),((⟨#[]⟩ : ByteArray)),(([] : List (SElem))),((rd_Op x6_3 (ji65)).f0),((rd_Op x6_3 (ji65)).f1),(wrap64 (t427 + 1)),(.slice none 0 0),H',⟨by have:=HK1.out; have:=HJ10.out; have:=HK3.out; first | omega | exact Nat.le_refl _⟩,⟨by (with_reducible repeat (first | apply Kd.S_alloc | apply Kd.S_drewN | apply Kd.S_drew)); exact Kd.S_mono (Kd.S_far (p:=⟨gb416,10,none⟩) (Kd.S_far (p:=⟨gb416,10,none⟩) (Kd.S_far (p:=⟨gb416,9,none⟩) (Kd.S_far (p:=⟨gb416,8,none⟩) (Kd.S_far (p:=⟨gb416,2,none⟩) (Kd.S_mono HO_6.out (fun k_ hk => (⟨hk,hk.2.1⟩ : _ ∧ k_ ≠ gb416))) (fun _ hk => hk.2) (.int .i64 2)) (fun _ hk => hk.2) (.int .i64 ((rd_Op x6_3 (ji65)).f0))) (fun _ hk => hk.2) (.int .i64 ((rd_Op x6_3 (ji65)).f1))) (fun _ hk => hk.2) (.int .i64 t427)) (fun _ hk => hk.2) (.int .i64 (wrap64 (t427 + 1)))) (fun _ hk => ⟨(by simp [Value.ownBlock]),hk.1.2.1⟩)⟩,⟨by first | exact Kd.R_nil _ _ _ _ _ | exact Kd.N_nil _ _ _ _ _ | exact Kd.V_nil _ _ _ _ _ | exact Kd.Q_nil _ _ _ _ _ | exact Kd.S_nil _ _ _ _ _⟩,⟨kk BK406⟩,⟨bp (bp (bp (bp (bp (kk BK416) 2) 8) 9) 10) 10⟩,⟨bw HB⟩⟩
                  ⟩ : Nonempty G_)) :); w6_with.bxo (G:=G_) (inferInstanceAs (Nonempty G_)))
                 ⟩ : Nonempty G_)) :); w6_with.bxo (G:=G_) (inferInstanceAs (Nonempty G_)))
                ⟩ : Nonempty G_)) :); w6_with.bxo (G:=G_) (inferInstanceAs (Nonempty G_)))
               ⟩ : Nonempty G_)) :); w6_with.bxo (G:=G_) (inferInstanceAs (Nonempty G_)))
              ⟩ : Nonempty G_)) :); w6_with.bxo (G:=G_) (inferInstanceAs (Nonempty G_)))
            case rest =>
             clear HC28
             obtain ⟨kq,x417002_27,x417003_27,x417004_27,x417005_27,x417006_27,x417007_27,x417008_27,x417009_27,x417010_27,u417007,HA,HJ27,HO_6,HO_417007,BK406,BK416,HB⟩:=hcut
             cases kq with
             | zero => exact absurd HA.out (by simp [w6_with.j3])
             | succ kj27 =>
              have H:=HA.out
              clear HA
              simp only [w6_with.j3] at H
              obtain ⟨t428,A108,H⟩:=bE H
              obtain ⟨t431,A109,H⟩:=bE H
              by_cases c110 : t431 = true; rotate_left
              ·replace c110:=Bool.eq_false_iff.mpr c110
               subst c110
               rw [if_neg nft] at H
               have H':=Aside0.mk H
               clear H
               have hnb136:=NB416_406.out
               have hnc136:=NB406_416.out
               obtain ⟨_,_,_,_,_,_,_,_,_,_,_,_,_,_,_,_,_,_,_,_,_,_⟩:=kc11 BK416
               obtain ⟨Ao138,co138,eo138⟩:=Kd.R_slice HO_417007.out
               subst eo138
               go_wp2_with (first | ((with_reducible refine gate_callee (f:=36) rfl ?_); refine gl (some 140) Tryd.func36 #[.slice Ao29 x6_3.length co29, .agg #[.int .i64 (wrap64 (1 + (Int.tmod (wrap64 (x7_3 + x5_1)) 3))), .int .i64 (wrap64 (t415 + 1)), .int .i64 x417002_27, .int .i64 x417003_27, .int .i64 x417004_27, .int .i64 x417005_27, .string x417006_27, .slice Ao138 x417007_27.length co138, .int .i64 x417008_27, .int .i64 x417009_27, .int .i64 x417010_27]] (h := ?_); (with_reducible refine (r4_Behind.calls kj27 _ _ x6_3 (wrap64 (1 + (Int.tmod (wrap64 (x7_3 + x5_1)) 3))) (wrap64 (t415 + 1)) x417002_27 x417003_27 x417004_27 x417005_27 x417006_27 _ _ x417007_27 x417008_27 x417009_27 x417010_27 t428 _ ?side1 ?side2 ?side3 ?side4 A108.out).mono ?_); (case side1 => exact cs HO_6); (case side2 => exact (Kd.S_reads' HO_6.out).2.1); (case side3 => exact cr HO_417007); (case side4 => exact (Kd.R_reads' HO_417007.out).2.1); rintro e w139 ⟨v429,rfl,ho0,hb⟩; refine ⟨_,rfl, ?_⟩; have HO430:=Aside0.mk (Kd.S_lower (Kd.S_newB (Kd.S_new' (Kd.S_new' ho0 (Kd.S_lt (sk HO_6))) (Kd.R_lt (rk HO_417007))) (kk BK416)) (below_size (bw HB))); replace HO_6:=Aside0.mk (Kd.S_elder' (sk HO_6) (Kd.S_base ho0) hb); replace HO_417007:=rb HO_417007 hb; replace BK406:=bl BK406 hb; replace BK416:=bl BK416 hb; replace HB:=bs HB hb; clear hb; clear ho0; obtain ⟨Ao140,co140,eo140⟩:=Kd.S_slice HO430.out; subst eo140) | ((with_reducible refine gate_callee (f:=15) rfl ?_); refine gl (some 142) Tryd.func15 #[.slice Ao140 t428.length co140] (h := ?_); (with_reducible refine (r4_Row.calls kj27 _ _ t428 false _ ?side1 ?side2 ?side3 A109.out).mono ?_); (case side1 => exact cs HO430); (case side2 => exact (Kd.S_reads' HO430.out).2.1); (case side3 => exact (hT.below (bw HB))); rintro e w141 ⟨rfl,hb⟩; refine ⟨_,rfl, ?_⟩; replace HO_6:=sb HO_6 hb; replace HO_417007:=rb HO_417007 hb; replace HO430:=sb HO430 hb; replace BK406:=bl BK406 hb; replace BK416:=bl BK416 hb; replace HB:=bs HB hb; clear hb))
               go_roundg kj27
               case measure => have:=HK1.out; have:=HJ10.out; have:=HK3.out; have:=HJ27.out; omega
               case rel => exact ⟨(x6_3),(wrap64 (x7_3 + 1)),rf,H',⟨by have:=HK1.out; have:=HJ10.out; have:=HK3.out; have:=HJ27.out; omega⟩,⟨by (with_reducible repeat (first | apply Kd.S_alloc | apply Kd.S_drewN | apply Kd.S_drew)); exact Kd.S_mono HO_6.out (fun _ hk => trivial)⟩,⟨kk BK406⟩,⟨bw HB⟩⟩
              show (let G_ : Prop:=_; G_)
              intro G_
              exact (let_tmp i_ : Nonempty G_:=(((⟨by
               subst G_
               subst c110
               rw [if_pos rfl] at H
               obtain ⟨⟨t432,t433⟩,A111,H⟩:=bE H
               try dsimp only at H
               obtain ⟨⟨t434,t435⟩,A112,H⟩:=bE H
               try dsimp only at H
               have HC113:=Aside0.mk H
               clear H
               have hnb114:=NB416_406.out
               have hnc114:=NB406_416.out
               obtain ⟨_,_,_,_,_,_,_,_,_,_,_,_,_,_,_,_,_,_,_,_,_,_⟩:=kc11 BK416
               obtain ⟨Ao116,co116,eo116⟩:=Kd.R_slice HO_417007.out
               subst eo116
               go_upto_region 33 with (first | ((with_reducible refine gate_callee (f:=36) rfl ?_); refine gl (some 140) Tryd.func36 #[.slice Ao29 x6_3.length co29, .agg #[.int .i64 (wrap64 (1 + (Int.tmod (wrap64 (x7_3 + x5_1)) 3))), .int .i64 (wrap64 (t415 + 1)), .int .i64 x417002_27, .int .i64 x417003_27, .int .i64 x417004_27, .int .i64 x417005_27, .string x417006_27, .slice Ao116 x417007_27.length co116, .int .i64 x417008_27, .int .i64 x417009_27, .int .i64 x417010_27]] (h := ?_); (with_reducible refine (r4_Behind.calls kj27 _ _ x6_3 (wrap64 (1 + (Int.tmod (wrap64 (x7_3 + x5_1)) 3))) (wrap64 (t415 + 1)) x417002_27 x417003_27 x417004_27 x417005_27 x417006_27 _ _ x417007_27 x417008_27 x417009_27 x417010_27 t428 _ ?side1 ?side2 ?side3 ?side4 A108.out).mono ?_); (case side1 => exact cs HO_6); (case side2 => exact (Kd.S_reads' HO_6.out).2.1); (case side3 => exact cr HO_417007); (case side4 => exact (Kd.R_reads' HO_417007.out).2.1); rintro e w117 ⟨v429,rfl,ho0,hb⟩; refine ⟨_,rfl, ?_⟩; have HO430:=Aside0.mk (Kd.S_lower (Kd.S_newB (Kd.S_new' (Kd.S_new' ho0 (Kd.S_lt (sk HO_6))) (Kd.R_lt (rk HO_417007))) (kk BK416)) (below_size (bw HB))); replace HO_6:=Aside0.mk (Kd.S_elder' (sk HO_6) (Kd.S_base ho0) hb); replace HO_417007:=rb HO_417007 hb; replace BK406:=bl BK406 hb; replace BK416:=bl BK416 hb; replace HB:=bs HB hb; clear hb; clear ho0; obtain ⟨Ao118,co118,eo118⟩:=Kd.S_slice HO430.out; subst eo118) | ((with_reducible refine gate_callee (f:=15) rfl ?_); refine gl (some 142) Tryd.func15 #[.slice Ao118 t428.length co118] (h := ?_); (with_reducible refine (r4_Row.calls kj27 _ _ t428 true _ ?side1 ?side2 ?side3 A109.out).mono ?_); (case side1 => exact cs HO430); (case side2 => exact (Kd.S_reads' HO430.out).2.1); (case side3 => exact (hT.below (bw HB))); rintro e w119 ⟨rfl,hb⟩; refine ⟨_,rfl, ?_⟩; replace HO_6:=sb HO_6 hb; replace HO_417007:=rb HO_417007 hb; replace HO430:=sb HO430 hb; replace BK406:=bl BK406 hb; replace BK416:=bl BK416 hb; replace HB:=bs HB hb; clear hb) | ((with_reducible refine gate_callee (f:=70) rfl ?_); refine gl (some 147) Tryd.func70 #[.slice Ao118 t428.length co118] (h := ?_); (with_reducible refine (doc_Text.calls _ _ t428 t432 t433 _ ?side1 ?side2 A111.out).mono ?_); (case side1 => exact cs HO430); (case side2 => exact (Kd.S_reads' HO430.out).2.1); rintro e w120 ⟨rfl,hb⟩; refine ⟨_,rfl, ?_⟩; replace HO_6:=sb HO_6 hb; replace HO_417007:=rb HO_417007 hb; replace HO430:=sb HO430 hb; replace BK406:=bl BK406 hb; replace BK416:=bl BK416 hb; replace HB:=bs HB hb; clear hb) | ((with_reducible refine gate_callee (f:=71) rfl ?_); refine gl (some 152) Tryd.func71 #[.slice Ao118 t428.length co118] (h := ?_); (with_reducible refine (doc_Visible.calls _ _ t428 t434 t435 _ ?side1 ?side2 A112.out).mono ?_); (case side1 => exact cs HO430); (case side2 => exact (Kd.S_reads' HO430.out).2.1); rintro e w121 ⟨v436,rfl,ho0,hb⟩; refine ⟨_,rfl, ?_⟩; have HO437:=Aside0.mk (Kd.R_lower (Kd.R_new' ho0 (Kd.R_lt (rk HO_417007))) (below_size (bw HB))); replace HO_6:=Aside0.mk (Kd.S_elder' (sk HO_6) (Kd.R_base ho0) hb); replace HO_417007:=Aside0.mk (Kd.R_elder' (rk HO_417007) (Kd.R_base ho0) hb); replace HO430:=Aside0.mk (Kd.S_elder' (sk HO430) (Kd.R_base ho0) hb); replace BK406:=bl BK406 hb; replace BK416:=bl BK416 hb; replace HB:=bs HB hb; clear hb; clear ho0))
               (try simp only [Act.put,List.setIfInBounds_toArray,List.set_cons_zero,List.set_cons_succ])
               go_cut [175] (fun v175 wc => ∃ (kq : Nat) (x175_112 : Bool),v175 = .bool x175_112 ∧ Aside0 (w6_with.j4 kq a1 x5_1 t428 x7_3 x175_112 l0_0 l0_1 l0_2 l0_3 = some r) ∧ Aside0 (kq ≤ kj27) ∧ Aside0 (Kd.S kOp 55 wc w.heap.size (fun k_ => some k_ ≠ ((.slice Ao116 x417007_27.length co116) : Value).ownBlock ∧ k_ ≠ gb416) (.slice Ao118 t428.length co118) t428) ∧ Aside0 (Kd.R kElem 43 wc w.heap.size (fun _ => True) (.slice Ao116 x417007_27.length co116) x417007_27) ∧ Aside0 (wc.heap[gb406]? = some (.cells #[(.slice (some ad409) l0_0.length c0_0),(.slice A0_1 l0_1.length c0_1),(.slice A0_2 l0_2.length c0_2),(.slice A0_3 l0_3.length c0_3)] 27 (0,0))) ∧ Aside0 (wc.heap[gb416]? = some (.cells #[.int .i64 (wrap64 (1 + (Int.tmod (wrap64 (x7_3 + x5_1)) 3))), .int .i64 (wrap64 (t415 + 1)), .int .i64 x417002_27, .int .i64 x417003_27, .int .i64 x417004_27, .int .i64 x417005_27, .string x417006_27,(.slice Ao116 x417007_27.length co116), .int .i64 x417008_27, .int .i64 x417009_27, .int .i64 x417010_27] 55 (0,0))) ∧ Aside0 (Below w.heap.size w wc))
               case first =>
                have H:=HC113.out
                clear HC113
                obtain ⟨t438,A122,H⟩:=bE H
                by_cases c123 : t438 = 0; rotate_left
                ·rw [if_neg c123] at H
                 obtain ⟨c123b0,c123b1⟩:=bF c123
                 (first | rw [c123b0] | (simp only [i64_w,i32_w]; rw [c123b0]) | skip)
                 have H':=Aside0.mk H
                 clear H
                 go_wp2_with (first | ((with_reducible refine gate_callee (f:=72) rfl ?_); refine gl (some 156) Tryd.func72 #[.int .i64 t433] (h := ?_); (with_reducible refine (w6_num.calls t433 t438 _ A122.out).mono ?_); rintro e w' ⟨rfl,⟨nd,rfl⟩⟩; refine ⟨_,rfl, ?_⟩))
                 go_meet
                 case rel => exact ⟨_,(true),rf,H',⟨by have:=HK1.out; have:=HJ10.out; have:=HK3.out; have:=HJ27.out; first | omega | exact Nat.le_refl _⟩,⟨by (with_reducible repeat (first | apply Kd.S_alloc | apply Kd.S_drewN | apply Kd.S_drew)); exact Kd.S_mono HO430.out (fun _ hk => ⟨hk.1.1.2,hk.1.2⟩)⟩,⟨by (with_reducible repeat (first | apply Kd.R_alloc | apply Kd.R_drewN | apply Kd.R_drew)); exact Kd.R_mono HO_417007.out (fun _ hk => trivial)⟩,⟨kk BK406⟩,⟨kk BK416⟩,⟨bw HB⟩⟩
                show (let G_ : Prop:=_; G_)
                intro G_
                exact (let_tmp i_ : Nonempty G_:=(((⟨by
                 subst G_
                 rw [if_pos c123] at H
                 obtain ⟨c123b0,c123b1⟩:=bT c123
                 clear c123
                 (first | rw [c123b0] | (simp only [i64_w,i32_w]; rw [c123b0]) | skip)
                 obtain ⟨t439,A124,H⟩:=bE H
                 by_cases c125 : t439 = 0; rotate_left
                 ·rw [if_neg c125] at H
                  obtain ⟨c125b0,c125b1⟩:=bF c125
                  have H':=Aside0.mk H
                  clear H
                  go_wp2_with (first | ((with_reducible refine gate_callee (f:=72) rfl ?_); refine gl (some 156) Tryd.func72 #[.int .i64 t433] (h := ?_); (with_reducible refine (w6_num.calls t433 t438 _ A122.out).mono ?_); rintro e w' ⟨rfl,⟨nd,rfl⟩⟩; refine ⟨_,rfl, ?_⟩) | (go_at_call 72; (with_reducible refine (w6_num.calls t435 t439 _ A124.out).mono ?_); rintro e w' ⟨rfl,⟨nd,rfl⟩⟩))
                  go_meet
                  case rel => exact ⟨_,(true),rf,H',⟨by have:=HK1.out; have:=HJ10.out; have:=HK3.out; have:=HJ27.out; first | omega | exact Nat.le_refl _⟩,⟨by (with_reducible repeat (first | apply Kd.S_alloc | apply Kd.S_drewN | apply Kd.S_drew)); exact Kd.S_mono HO430.out (fun _ hk => ⟨hk.1.1.2,hk.1.2⟩)⟩,⟨by (with_reducible repeat (first | apply Kd.R_alloc | apply Kd.R_drewN | apply Kd.R_drew)); exact Kd.R_mono HO_417007.out (fun _ hk => trivial)⟩,⟨kk BK406⟩,⟨kk BK416⟩,⟨bw HB⟩⟩
                 show (let G_ : Prop:=_; G_)
                 intro G_
                 exact (let_tmp i_ : Nonempty G_:=(((⟨by
                  subst G_
                  rw [if_pos c125] at H
                  obtain ⟨c125b0,c125b1⟩:=bT c125
                  clear c125
                  obtain ⟨t440,A126,H⟩:=bE H
                  by_cases c127 : t432.toList = t440.toList; rotate_left
                  ·rw [if_neg c127] at H
                   obtain ⟨c127b0,c127b1⟩:=bF c127
                   have H':=Aside0.mk H
                   clear H
                   go_wp2_with (first | ((with_reducible refine gate_callee (f:=72) rfl ?_); refine gl (some 156) Tryd.func72 #[.int .i64 t433] (h := ?_); (with_reducible refine (w6_num.calls t433 t438 _ A122.out).mono ?_); rintro e w' ⟨rfl,⟨nd,rfl⟩⟩; refine ⟨_,rfl, ?_⟩) | (go_at_call 72; (with_reducible refine (w6_num.calls t435 t439 _ A124.out).mono ?_); rintro e w' ⟨rfl,⟨nd,rfl⟩⟩) | (go_at_call 73; (with_reducible refine (r4_Text.calls kj27 _ _ t428 t440 _ ?side1 ?side2 ?side3 A126.out).mono ?_); (case side1 => exact cs HO430); (case side2 => exact (Kd.S_reads' HO430.out).2.1); (case side3 => exact (hT.below (bw HB))); rintro e w134 ⟨rfl,hb⟩; replace HO_6:=sb HO_6 hb; replace HO_417007:=rb HO_417007 hb; replace HO430:=sb HO430 hb; replace HO437:=rb HO437 hb; replace BK406:=bl BK406 hb; replace BK416:=bl BK416 hb; replace HB:=bs HB hb; clear hb))
                   go_meet
                   case rel => exact ⟨_,(true),rf,H',⟨by have:=HK1.out; have:=HJ10.out; have:=HK3.out; have:=HJ27.out; first | omega | exact Nat.le_refl _⟩,⟨by (with_reducible repeat (first | apply Kd.S_alloc | apply Kd.S_drewN | apply Kd.S_drew)); exact Kd.S_mono HO430.out (fun _ hk => ⟨hk.1.1.2,hk.1.2⟩)⟩,⟨by (with_reducible repeat (first | apply Kd.R_alloc | apply Kd.R_drewN | apply Kd.R_drew)); exact Kd.R_mono HO_417007.out (fun _ hk => trivial)⟩,⟨kk BK406⟩,⟨kk BK416⟩,⟨bw HB⟩⟩
                  show (let G_ : Prop:=_; G_)
                  intro G_
                  exact (let_tmp i_ : Nonempty G_:=(((⟨by
                   subst G_
                   rw [if_pos c127] at H
                   obtain ⟨c127b0,c127b1⟩:=bT c127
                   clear c127
                   obtain ⟨t441,A128,H⟩:=bE H
                   obtain ⟨t444,A129,H⟩:=bE H
                   have H':=Aside0.mk H
                   clear H
                   go_wp2_with (first | ((with_reducible refine gate_callee (f:=72) rfl ?_); refine gl (some 156) Tryd.func72 #[.int .i64 t433] (h := ?_); (with_reducible refine (w6_num.calls t433 t438 _ A122.out).mono ?_); rintro e w' ⟨rfl,⟨nd,rfl⟩⟩; refine ⟨_,rfl, ?_⟩) | (go_at_call 72; (with_reducible refine (w6_num.calls t435 t439 _ A124.out).mono ?_); rintro e w' ⟨rfl,⟨nd,rfl⟩⟩) | (go_at_call 73; (with_reducible refine (r4_Text.calls kj27 _ _ t428 t440 _ ?side1 ?side2 ?side3 A126.out).mono ?_); (case side1 => exact cs HO430); (case side2 => exact (Kd.S_reads' HO430.out).2.1); (case side3 => exact (hT.below (bw HB))); rintro e w130 ⟨rfl,hb⟩; replace HO_6:=sb HO_6 hb; replace HO_417007:=rb HO_417007 hb; replace HO430:=sb HO430 hb; replace HO437:=rb HO437 hb; replace BK406:=bl BK406 hb; replace BK416:=bl BK416 hb; replace HB:=bs HB hb; clear hb) | (go_at_call 31; (with_reducible refine (r4_Visible.calls kj27 _ _ t428 t441 _ ?side1 ?side2 ?side3 A128.out).mono ?_); (case side1 => exact cs HO430); (case side2 => exact (Kd.S_reads' HO430.out).2.1); (case side3 => exact (hT.below (bw HB))); rintro e w131 ⟨v442,rfl,ho0,hb⟩; have HO443:=Aside0.mk (Kd.R_lower (Kd.R_new' (Kd.R_new' ho0 (Kd.R_lt (rk HO_417007))) (Kd.R_lt (rk HO437))) (below_size (bw HB))); replace HO_6:=Aside0.mk (Kd.S_elder' (sk HO_6) (Kd.R_base ho0) hb); replace HO_417007:=Aside0.mk (Kd.R_elder' (rk HO_417007) (Kd.R_base ho0) hb); replace HO430:=Aside0.mk (Kd.S_elder' (sk HO430) (Kd.R_base ho0) hb); replace HO437:=Aside0.mk (Kd.R_elder' (rk HO437) (Kd.R_base ho0) hb); replace BK406:=bl BK406 hb; replace BK416:=bl BK416 hb; replace HB:=bs HB hb; clear hb; clear ho0; obtain ⟨Ao132,co132,eo132⟩:=Kd.R_slice HO437.out; subst eo132; obtain ⟨Ao133,co133,eo133⟩:=Kd.R_slice HO443.out; subst eo133) | (go_at_call 20; (with_reducible refine (r0_EqElems.calls kj27 _ _ t434 _ _ t441 t444 _ ?side1 ?side2 ?side3 ?side4 A129.out).mono ?_); (case side1 => exact cr HO437); (case side2 => exact (Kd.R_reads' HO437.out).2.1); (case side3 => exact cr HO443); (case side4 => exact (Kd.R_reads' HO443.out).2.1); rintro e w' ⟨rfl,⟨nd,rfl⟩⟩))
                   go_meet
                   case rel => exact ⟨_,(!t444),rf,H',⟨by have:=HK1.out; have:=HJ10.out; have:=HK3.out; have:=HJ27.out; first | omega | exact Nat.le_refl _⟩,⟨by (with_reducible repeat (first | apply Kd.S_alloc | apply Kd.S_drewN | apply Kd.S_drew)); exact Kd.S_mono HO430.out (fun _ hk => ⟨hk.1.1.1.2,hk.1.1.2⟩)⟩,⟨by (with_reducible repeat (first | apply Kd.R_alloc | apply Kd.R_drewN | apply Kd.R_drew)); exact Kd.R_mono HO_417007.out (fun _ hk => trivial)⟩,⟨kk BK406⟩,⟨kk BK416⟩,⟨bw HB⟩⟩
                   ⟩ : Nonempty G_)) :); w6_with.bxo (G:=G_) (inferInstanceAs (Nonempty G_)))
                  ⟩ : Nonempty G_)) :); w6_with.bxo (G:=G_) (inferInstanceAs (Nonempty G_)))
                 ⟩ : Nonempty G_)) :); w6_with.bxo (G:=G_) (inferInstanceAs (Nonempty G_)))
               case rest =>
                clear HC113
                try clear c110
                obtain ⟨kq,x175_112,rfl,HA,HJ112,HO_6,HO_417007,BK406,BK416,HB⟩:=hcut
                cases kq with
                | zero => exact absurd HA.out (by simp [w6_with.j4])
                | succ kj112 =>
                 have H:=HA.out
                 clear HA
                 simp only [w6_with.j4] at H
                 by_cases c135 : x175_112 = true
                 ·subst c135
                  rw [if_pos rfl] at H
                  obtain rfl:=Option.some.inj H
                  go_wp2
                  go_ret
                  exact ⟨re,bw HB⟩
                 replace c135:=Bool.eq_false_iff.mpr c135
                 subst c135
                 rw [if_neg nft] at H
                 have H':=Aside0.mk H
                 clear H
                 go_wp2
                 go_roundg kj112
                 case measure => have:=HK1.out; have:=HJ10.out; have:=HK3.out; have:=HJ27.out; have:=HJ112.out; omega
                 case rel => exact ⟨(t428),(wrap64 (x7_3 + 1)),rf,H',⟨by have:=HK1.out; have:=HJ10.out; have:=HK3.out; have:=HJ27.out; have:=HJ112.out; omega⟩,⟨by (with_reducible repeat (first | apply Kd.S_alloc | apply Kd.S_drewN | apply Kd.S_drew)); exact Kd.S_mono HO_6.out (fun _ hk => trivial)⟩,⟨kk BK406⟩,⟨bw HB⟩⟩
               ⟩ : Nonempty G_)) :); w6_with.bxo (G:=G_) (inferInstanceAs (Nonempty G_)))
            ⟩ : Nonempty G_)) :); w6_with.bxo (G:=G_) (inferInstanceAs (Nonempty G_)))
         ⟩ : Nonempty G_)) :); w6_with.bxo (G:=G_) (inferInstanceAs (Nonempty G_)))
        ⟩ : Nonempty G_)) :); w6_with.bxo (G:=G_) (inferInstanceAs (Nonempty G_)))
       ⟩ : Nonempty G_)) :); w6_with.bxo (G:=G_) (inferInstanceAs (Nonempty G_)))
      ⟩ : Nonempty G_)) :); w6_with.bxo (G:=G_) (inferInstanceAs (Nonempty G_)))
end Go.Proofs.YtonoaflfobajcaaDoor.L
end
