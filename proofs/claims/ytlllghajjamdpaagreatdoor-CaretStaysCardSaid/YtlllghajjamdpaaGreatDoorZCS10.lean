/- Part 10 of the proof that for every argument the law CaretStays answers true: a caret set at a place is there; what is near it has its place; what is written ahead of it moves it by so much, what is written right at it, or behind, does not -/
import Derived.Test.YtlllghajjamdpaaGreatDoorZCS9
import Derived.Lib.RuneCountTail
section
namespace Go.Proofs.YtlllghajjamdpaaGreatDoor.L
open Go.RowKit Go.Proofs.YtlllghajjamdpaaGreatDoorW.PrintWords Go.Proofs.YtlllghajjamdpaaGreatDoorW.PrintLast Go.Proofs.YtlllghajjamdpaaGreatDoorW.PrintMore
set_option linter.unusedVariables false
set_option linter.unusedSimpArgs false
set_option maxHeartbeats 40000000
set_option maxRecDepth 1000000
section
attribute [local go_sem] Qbz Qbw Qcu Qct Qbk Qbj Qby Qbv
theorem w11_CaretStays.bxo {G : Prop} (h : Nonempty G) : G:=h.elim id
mutual
def w11_CaretStays.l0 : Nat -> Int -> List (List (SOp)) -> List (SElem) -> List (SOp) -> List Int -> Option (Bool)
 | 0,_,_,_,_,_ => none
 | k + 1,x3,x776000,x776001,x776002,x776003 => if x3 < (x776000.length : Int) then (w11_CaretStays.j1 k x3 (decide (x3 < 4)) x776000 x776001 x776002 x776003) else (w11_CaretStays.j1 k x3 false x776000 x776001 x776002 x776003)
def w11_CaretStays.j1 : Nat -> Int -> Bool -> List (List (SOp)) -> List (SElem) -> List (SOp) -> List Int -> Option (Bool)
 | 0,_,_,_,_,_,_ => none
 | k + 1,x3,x38,x776000,x776001,x776002,x776003 => if x38 = true then (if 0 <= x3 then (if x3 < (x776000.length : Int) then ((doc_Text.f (Qay x776000 x3)).bind fun bt779 => ((w11_num.f bt779.2).bind fun t781 => (if t781 = 0 then ((r1_Runes.f k bt779.1).bind fun bt782 => (if bt782.2 = true then (w11_CaretStays.l1 k x3 (Qay x776000 x3) bt782.1 0 x776000 x776001 x776002 x776003) else (some false))) else (w11_CaretStays.l0 k (wrap64 (x3 + 1)) x776000 x776001 x776002 x776003)))) else (none)) else (none)) else ((w11_wakes.f k).bind fun t777 => (some t777))
def w11_CaretStays.l1 : Nat -> Int -> List (SOp) -> List Int -> Int -> List (List (SOp)) -> List (SElem) -> List (SOp) -> List Int -> Option (Bool)
 | 0,_,_,_,_,_,_,_,_ => none
 | k + 1,x3,x4,x7,x9,x776000,x776001,x776002,x776003 => if x9 <= (x7.length : Int) then (w11_CaretStays.j3 k x3 x4 x7 x9 (decide (x9 < 20)) x776000 x776001 x776002 x776003) else (w11_CaretStays.j3 k x3 x4 x7 x9 false x776000 x776001 x776002 x776003)
def w11_CaretStays.j3 : Nat -> Int -> List (SOp) -> List Int -> Int -> Bool -> List (List (SOp)) -> List (SElem) -> List (SOp) -> List Int -> Option (Bool)
 | 0,_,_,_,_,_,_,_,_,_ => none
 | k + 1,x3,x4,x7,x9,x68,x776000,x776001,x776002,x776003 => if x68 = true then ((caret_Set.f k x4 x9).bind fun bt786 => ((caret_Place.f x4 bt786.1 bt786.2.1 bt786.2.2.1).bind fun bt791 => ((w11_num.f bt786.2.2.2).bind fun t793 => (if t793 = 0 then ((w11_num.f bt791.2).bind fun t794 => (if t794 = 0 then (w11_CaretStays.j4 k x3 x4 x7 x9 (bt791.1 != x9) x776000 x776001 x776002 x776003 bt786.1 bt786.2.1 bt786.2.2.1) else (w11_CaretStays.j4 k x3 x4 x7 x9 true x776000 x776001 x776002 x776003 bt786.1 bt786.2.1 bt786.2.2.1))) else (w11_CaretStays.j4 k x3 x4 x7 x9 true x776000 x776001 x776002 x776003 bt786.1 bt786.2.1 bt786.2.2.1))))) else ((w5_Elems.f k x776000 x776001 x776002 x776003 x4).bind fun t823 => (w11_CaretStays.l3 k x3 x4 t823 0 x776000 x776001 x776002 x776003))
def w11_CaretStays.j4 : Nat -> Int -> List (SOp) -> List Int -> Int -> Bool -> List (List (SOp)) -> List (SElem) -> List (SOp) -> List Int -> Int -> Int -> Int -> Option (Bool)
 | 0,_,_,_,_,_,_,_,_,_,_,_,_ => none
 | k + 1,x3,x4,x7,x9,x95,x776000,x776001,x776002,x776003,x791000,x791001,x791002 => if x95 = true then (some false) else (w11_CaretStays.l2 k x3 x4 x7 x9 0 x776000 x776001 x776002 x776003 x791000 x791001 x791002)
def w11_CaretStays.l2 : Nat -> Int -> List (SOp) -> List Int -> Int -> Int -> List (List (SOp)) -> List (SElem) -> List (SOp) -> List Int -> Int -> Int -> Int -> Option (Bool)
 | 0,_,_,_,_,_,_,_,_,_,_,_,_ => none
 | k + 1,x3,x4,x7,x9,x14,x776000,x776001,x776002,x776003,x791000,x791001,x791002 => if x14 <= (x7.length : Int) then (w11_CaretStays.j6 k x3 x4 x7 x9 x14 (decide (x14 < 20)) x776000 x776001 x776002 x776003 x791000 x791001 x791002) else (w11_CaretStays.j6 k x3 x4 x7 x9 x14 false x776000 x776001 x776002 x776003 x791000 x791001 x791002)
def w11_CaretStays.j6 : Nat -> Int -> List (SOp) -> List Int -> Int -> Int -> Bool -> List (List (SOp)) -> List (SElem) -> List (SOp) -> List Int -> Int -> Int -> Int -> Option (Bool)
 | 0,_,_,_,_,_,_,_,_,_,_,_,_,_ => none
 | k + 1,x3,x4,x7,x9,x14,x103,x776000,x776001,x776002,x776003,x791000,x791001,x791002 => if x103 = true then ((edit_Insert.f x4 (wrap64 (1 + (Int.tmod x14 3))) x14 (⟨#[117,118]⟩ : ByteArray)).bind fun bt795 => ((w11_num.f bt795.2.2.2.2.2.2.2.2.2.2.2).bind fun t810 => (if t810 = 0 then ((r0_CopyOps.f k x4).bind fun t811 => ((some (([(⟨bt795.1,bt795.2.1,bt795.2.2.1,(⟨bt795.2.2.2.1,bt795.2.2.2.2.1,bt795.2.2.2.2.2.1⟩ : SElem),bt795.2.2.2.2.2.2.1,bt795.2.2.2.2.2.2.2.1,bt795.2.2.2.2.2.2.2.2.1,bt795.2.2.2.2.2.2.2.2.2.1,bt795.2.2.2.2.2.2.2.2.2.2.1⟩ : SOp)] : List (SOp)) : List (SOp))).bind fun y814 => (if t811.length + y814.length < 1256584717458 then ((caret_Place.f (t811 ++ y814) x791000 x791001 x791002).bind fun bt820 => (if x14 < x9 then (w11_CaretStays.j7 k x3 x4 x7 x9 x14 bt820.1 bt820.2 (wrap64 (x9 + 2)) x776000 x776001 x776002 x776003 x791000 x791001 x791002) else (w11_CaretStays.j7 k x3 x4 x7 x9 x14 bt820.1 bt820.2 x9 x776000 x776001 x776002 x776003 x791000 x791001 x791002))) else (none)))) else (w11_CaretStays.l2 k x3 x4 x7 x9 (wrap64 ((wrap64 (x14 + 1)) + x3)) x776000 x776001 x776002 x776003 x791000 x791001 x791002)))) else (w11_CaretStays.l1 k x3 x4 x7 (wrap64 (x9 + 1)) x776000 x776001 x776002 x776003)
def w11_CaretStays.j7 : Nat -> Int -> List (SOp) -> List Int -> Int -> Int -> Int -> Int -> Int -> List (List (SOp)) -> List (SElem) -> List (SOp) -> List Int -> Int -> Int -> Int -> Option (Bool)
 | 0,_,_,_,_,_,_,_,_,_,_,_,_,_,_,_ => none
 | k + 1,x3,x4,x7,x9,x14,x17,x18,x19,x776000,x776001,x776002,x776003,x791000,x791001,x791002 => (w11_num.f x18).bind fun t822 => (if t822 = 0 then (if x17 = x19 then (w11_CaretStays.l2 k x3 x4 x7 x9 (wrap64 ((wrap64 (x14 + 1)) + x3)) x776000 x776001 x776002 x776003 x791000 x791001 x791002) else (some false)) else (some false))
def w11_CaretStays.l3 : Nat -> Int -> List (SOp) -> List (SElem) -> Int -> List (List (SOp)) -> List (SElem) -> List (SOp) -> List Int -> Option (Bool)
 | 0,_,_,_,_,_,_,_,_ => none
 | k + 1,x3,x4,x20,x21,x776000,x776001,x776002,x776003 => if x21 < (x20.length : Int) then (if 0 <= x21 then ((caret_Place.f x4 ((Qac x20 x21).f0) ((Qac x20 x21).f1) ((Qac x20 x21).f2)).bind fun bt827 => ((w11_num.f bt827.2).bind fun t829 => (if t829 = 0 then ((caret_Near.f x4 ((Qac x20 x21).f0) ((Qac x20 x21).f1) ((Qac x20 x21).f2)).bind fun bt831 => ((caret_Place.f x4 bt831.1 bt831.2.1 bt831.2.2.1).bind fun bt836 => ((w11_num.f bt831.2.2.2).bind fun t838 => (if t838 = 0 then ((w11_num.f bt836.2).bind fun t839 => (if t839 = 0 then (w11_CaretStays.j9 k x3 x4 x20 x21 (bt836.1 != bt827.1) x776000 x776001 x776002 x776003) else (w11_CaretStays.j9 k x3 x4 x20 x21 true x776000 x776001 x776002 x776003))) else (w11_CaretStays.j9 k x3 x4 x20 x21 true x776000 x776001 x776002 x776003))))) else (w11_CaretStays.l3 k x3 x4 x20 (wrap64 (x21 + 1)) x776000 x776001 x776002 x776003)))) else (none)) else (w11_CaretStays.l0 k (wrap64 (x3 + 1)) x776000 x776001 x776002 x776003)
def w11_CaretStays.j9 : Nat -> Int -> List (SOp) -> List (SElem) -> Int -> Bool -> List (List (SOp)) -> List (SElem) -> List (SOp) -> List Int -> Option (Bool)
 | 0,_,_,_,_,_,_,_,_,_ => none
 | k + 1,x3,x4,x20,x21,x192,x776000,x776001,x776002,x776003 => if x192 = true then (some false) else (w11_CaretStays.l3 k x3 x4 x20 (wrap64 (x21 + 1)) x776000 x776001 x776002 x776003)
end
def w11_CaretStays.f (k : Nat) (l0_0 : List (List (SOp))) (l0_1 : List (SElem)) (l0_2 : List (SOp)) (l0_3 : List Int) : Option (Bool):=(w5_Heavy.f k l0_0 l0_1 l0_2 l0_3).bind fun t776 => (if t776 = true then (some true) else (w11_CaretStays.l0 k 0 l0_0 l0_1 l0_2 l0_3))
def w11_CaretStays.T24 : Bool × List (List Nat × List Nat):=(true,[([],[]),([0],[0]),([],[]),([2],[2]),([1,3,1],[1,3]),([],[]),([4,5,4],[4,5]),([6],[6]),([7],[7]),([7],[7]),([8,6,0,1,2,3,4,5,6,7,8],[8]),([9,10,0,1,2,3,4,5,6,7,8,9,10],[9])])
def w11_CaretStays.B24 : List Nat:=[0,1,0,4,15,0,63,127,255,255,511,2047]
theorem w11_CaretStays.tab24 : rtab .any (opsOf Tryz.f6 24) = w11_CaretStays.T24:=by kernel_rfl
theorem w11_CaretStays.bits24 : Qax w11_CaretStays.T24.2 w11_CaretStays.B24 = true:=by kernel_rfl
theorem w11_CaretStays.calls (k : Nat) (A0_0 : Option Addr) (c0_0 : Nat) (l0_0 : List (List (SOp))) (A0_1 : Option Addr) (c0_1 : Nat) (l0_1 : List (SElem)) (A0_2 : Option Addr) (c0_2 : Nat) (l0_2 : List (SOp)) (A0_3 : Option Addr) (c0_3 : Nat) (l0_3 : List Int) (r : Bool) (w : World) (hr0_0 : Kd.C (Kd.slice 34 kOp) w A0_0 l0_0.length l0_0) (hc0_0 : l0_0.length <= c0_0) (hr0_1 : Kd.C Qav w A0_1 l0_1.length l0_1) (hc0_1 : l0_1.length <= c0_1) (hr0_2 : Kd.C kOp w A0_2 l0_2.length l0_2) (hc0_2 : l0_2.length <= c0_2) (hr0_3 : Kd.C (Kd.int .i64) w A0_3 l0_3.length l0_3) (hc0_3 : l0_3.length <= c0_3) (hT : GT w) (h : w11_CaretStays.f k l0_0 l0_1 l0_2 l0_3 = some r) :
  Calls Tryz.prog 6 #[.agg #[.slice A0_0 l0_0.length c0_0, .slice A0_1 l0_1.length c0_1, .slice A0_2 l0_2.length c0_2, .slice A0_3 l0_3.length c0_3]] w fun e w' => e = .returned (.bool r) /\ Below w.heap.size w w':=by
 have hu27:=Tryz.underlying27
 have hu32:=Tryz.underlying32
 have hu34:=Tryz.underlying34
 have HR0_0:=Zz.k hr0_0
 have HC0_0:=Zz.k hc0_0
 clear hr0_0 hc0_0
 have HR0_1:=Zz.k hr0_1
 have HC0_1:=Zz.k hc0_1
 clear hr0_1 hc0_1
 have HR0_2:=Zz.k hr0_2
 have HC0_2:=Zz.k hc0_2
 clear hr0_2 hc0_2
 have HR0_3:=Zz.k hr0_3
 have HC0_3:=Zz.k hc0_3
 clear hr0_3 hc0_3
 have HB:=Zz.k (Below.refl w.heap.size w)
 unfold w11_CaretStays.f at h; have H:=h
 clear h
 obtain ⟨t776,A2,H⟩:=bE H
 by_cases c3 : t776 = true
 ·show (let G_ : Prop:=_; G_)
  intro G_
  exact (let_tmp i_ : Nonempty G_:=(((⟨by
  subst G_
  subst c3
  rw [if_pos rfl] at H
  obtain rfl:=Zo H
  go_enter Tryz.func6,Tryz.ntmps6
  go_wp2_with (first | ((with_reducible refine Qad (N:=1) rfl ?_); refine bx 1 #[.slice A0_0 l0_0.length c0_0, .slice A0_1 l0_1.length c0_1, .slice A0_2 l0_2.length c0_2, .slice A0_3 l0_3.length c0_3] 27 (h := ?_); intro gb775 hg w4 hbox hb; have BK775:=Zz.k (hbox); have GW775:=bz HB hg; have GE775:=bz HB hg; replace HB:=bs HB hb; clear hb hbox hg; obtain ⟨_,_,_,_,_,_,_,_⟩:=kc4 BK775) | ((with_reducible refine Qab (f:=7) rfl ?_); refine gl (some 29) Tryz.func7 #[.agg #[.slice A0_0 l0_0.length c0_0, .slice A0_1 l0_1.length c0_1, .slice A0_2 l0_2.length c0_2, .slice A0_3 l0_3.length c0_3]] (h := ?_); (with_reducible refine (w5_Heavy.calls k _ _ l0_0 _ _ l0_1 _ _ l0_2 _ _ l0_3 true _ ?side1 ?side2 ?side3 ?side4 ?side5 ?side6 ?side7 ?side8 A2.out).mono ?_); (case side1 => exact cb HR0_0 HB); (case side2 => exact HC0_0.out); (case side3 => exact cb HR0_1 HB); (case side4 => exact HC0_1.out); (case side5 => exact cb HR0_2 HB); (case side6 => exact HC0_2.out); (case side7 => exact cb HR0_3 HB); (case side8 => exact HC0_3.out); rintro e w6 ⟨rfl,hb⟩; refine ⟨_,rfl, ?_⟩; replace BK775:=bl BK775 hb; replace HB:=bs HB hb; clear hb))
  go_ret
  exact ⟨re,bw HB⟩⟩ : Nonempty G_)) :); w11_CaretStays.bxo (G:=G_) (inferInstanceAs (Nonempty G_)))
 replace c3:=Zf c3
 subst c3
 rw [if_neg nft] at H
 have H':=Zz.k H
 clear H
 go_enter Tryz.func6,Tryz.ntmps6
 go_wp2_with (first | ((with_reducible refine Qad (N:=1) rfl ?_); refine bx 1 #[.slice A0_0 l0_0.length c0_0, .slice A0_1 l0_1.length c0_1, .slice A0_2 l0_2.length c0_2, .slice A0_3 l0_3.length c0_3] 27 (h := ?_); intro gb775 hg w7 hbox hb; have BK775:=Zz.k (hbox); have GW775:=bz HB hg; have GE775:=bz HB hg; replace HB:=bs HB hb; clear hb hbox hg; obtain ⟨_,_,_,_,_,_,_,_⟩:=kc4 BK775) | ((with_reducible refine Qab (f:=7) rfl ?_); refine gl (some 29) Tryz.func7 #[.agg #[.slice A0_0 l0_0.length c0_0, .slice A0_1 l0_1.length c0_1, .slice A0_2 l0_2.length c0_2, .slice A0_3 l0_3.length c0_3]] (h := ?_); (with_reducible refine (w5_Heavy.calls k _ _ l0_0 _ _ l0_1 _ _ l0_2 _ _ l0_3 false _ ?side1 ?side2 ?side3 ?side4 ?side5 ?side6 ?side7 ?side8 A2.out).mono ?_); (case side1 => exact cb HR0_0 HB); (case side2 => exact HC0_0.out); (case side3 => exact cb HR0_1 HB); (case side4 => exact HC0_1.out); (case side5 => exact cb HR0_2 HB); (case side6 => exact HC0_2.out); (case side7 => exact cb HR0_3 HB); (case side8 => exact HC0_3.out); rintro e w9 ⟨rfl,hb⟩; refine ⟨_,rfl, ?_⟩; replace BK775:=bl BK775 hb; replace HB:=bs HB hb; clear hb))
 go_loopg [3] k (fun kq v3 w' => ∃ (x3_1 : Int),v3 = .int .i64 x3_1 /\ Zz (w11_CaretStays.l0 kq x3_1 l0_0 l0_1 l0_2 l0_3 = some r) /\ Zz (kq <= k) /\ Zz (w'.heap[gb775]? = some (.cells #[(.slice A0_0 l0_0.length c0_0),(.slice A0_1 l0_1.length c0_1),(.slice A0_2 l0_2.length c0_2),(.slice A0_3 l0_3.length c0_3)] 27 (0,0))) /\ Zz (Below w.heap.size w w'))
 case atStart => exact ⟨(0),rf,H',⟨Nat.le_refl _⟩,⟨kk BK775⟩,⟨bw HB⟩⟩
 case round =>
  show (let G_ : Prop:=_; G_)
  intro G_
  exact (let_tmp i_ : Nonempty G_:=(((⟨by
  subst G_
  clear H'
  try clear c3
  obtain ⟨x3_1,rfl,HA,HK1,BK775,HB⟩:=hrel
  cases gk with
  | zero => exact absurd HA.out (by simp [w11_CaretStays.l0])
  | succ k1 =>
   have H:=HA.out
   clear HA
   simp only [w11_CaretStays.l0] at H
   have HC10:=Zz.k H
   clear H
   go_upto_region 4 with (fail)
   go_cut [38] (fun v38 wc => ∃ (kq : Nat) (x38_9 : Bool),v38 = .bool x38_9 /\ Zz (w11_CaretStays.j1 kq x3_1 x38_9 l0_0 l0_1 l0_2 l0_3 = some r) /\ Zz (kq <= k1) /\ Zz (wc.heap[gb775]? = some (.cells #[(.slice A0_0 l0_0.length c0_0),(.slice A0_1 l0_1.length c0_1),(.slice A0_2 l0_2.length c0_2),(.slice A0_3 l0_3.length c0_3)] 27 (0,0))) /\ Zz (Below w.heap.size w wc))
   case first =>
    have H:=HC10.out
    clear HC10
    by_cases c11 : x3_1 < (l0_0.length : Int)
    ·show (let G_ : Prop:=_; G_)
     intro G_
     exact (let_tmp i_ : Nonempty G_:=(((⟨by
     subst G_
     rw [if_pos c11] at H
     have c11b0:=Zd c11
     clear c11
     (first | rw [c11b0] | (simp only [i64_w,i32_w]; rw [c11b0]) | skip)
     have H':=Zz.k H
     clear H
     obtain ⟨_,_,_,_,_,_,_,_⟩:=kc4 BK775
     go_wp2
     go_meet
     case rel => exact ⟨_,(decide (x3_1 < 4)),rf,H',⟨by have:=HK1.out; first | omega | exact Nat.le_refl _⟩,⟨kk BK775⟩,⟨bw HB⟩⟩⟩ : Nonempty G_)) :); w11_CaretStays.bxo (G:=G_) (inferInstanceAs (Nonempty G_)))
    rw [if_neg c11] at H
    have c11b0:=Ze c11
    clear c11
    (first | rw [c11b0] | (simp only [i64_w,i32_w]; rw [c11b0]) | skip)
    have H':=Zz.k H
    clear H
    obtain ⟨_,_,_,_,_,_,_,_⟩:=kc4 BK775
    go_wp2
    go_meet
    case rel => exact ⟨_,(false),rf,H',⟨by have:=HK1.out; first | omega | exact Nat.le_refl _⟩,⟨kk BK775⟩,⟨bw HB⟩⟩
   case rest =>
    show (let G_ : Prop:=_; G_)
    intro G_
    exact (let_tmp i_ : Nonempty G_:=(((⟨by
    subst G_
    clear HC10
    obtain ⟨kq,x38_9,rfl,HA,HJ9,BK775,HB⟩:=hcut
    cases kq with
    | zero => exact absurd HA.out (by simp [w11_CaretStays.j1])
    | succ kj9 =>
     have H:=HA.out
     clear HA
     simp only [w11_CaretStays.j1] at H
     by_cases c14 : x38_9 = true; rotate_left
     ·replace c14:=Zf c14
      subst c14
      rw [if_neg nft] at H
      obtain ⟨t777,A112,H⟩:=bE H
      obtain rfl:=Zo H
      go_wp2_with (first | ((with_reducible refine Qab (f:=37) rfl ?_); refine gl (some 193) Tryz.func37 #[] (h := ?_); (with_reducible refine (w11_wakes.calls kj9  t777 _ A112.out).mono ?_); rintro e w113 ⟨rfl,hb⟩; refine ⟨_,rfl, ?_⟩; replace BK775:=bl BK775 hb; replace HB:=bs HB hb; clear hb))
      go_ret
      exact ⟨re,bw HB⟩
     show (let G_ : Prop:=_; G_)
     intro G_
     exact (let_tmp i_ : Nonempty G_:=(((⟨by
     subst G_
     subst c14
     rw [if_pos rfl] at H
     by_cases c15 : 0 <= x3_1; rotate_left
     ·rw [if_neg c15] at H
      exact absurd H (by simp)
     show (let G_ : Prop:=_; G_)
     intro G_
     exact (let_tmp i_ : Nonempty G_:=(((⟨by
     subst G_
     rw [if_pos c15] at H
     have c15b0:=Zd c15
     clear c15
     by_cases c16 : x3_1 < (l0_0.length : Int); rotate_left
     ·rw [if_neg c16] at H
      exact absurd H (by simp)
     show (let G_ : Prop:=_; G_)
     intro G_
     exact (let_tmp i_ : Nonempty G_:=(((⟨by
     subst G_
     rw [if_pos c16] at H
     have c16b0:=Zd c16
     clear c16
     obtain ⟨⟨t779,t780⟩,A17,H⟩:=bE H
     try dsimp only at H
     obtain ⟨t781,A18,H⟩:=bE H
     by_cases c19 : t781 = 0; rotate_left
     ·rw [if_neg c19] at H
      obtain ⟨c19b0,c19b1⟩:=bF c19
      have H':=Zz.k H
      clear H
      obtain ⟨_,_,_,_,_,_,_,_⟩:=kc4 BK775
      have p778 : 0 <= (x3_1 : Int):=od
      have q778 : x3_1 < (l0_0.length : Int):=od
      obtain ⟨ad778,A778_0,c778_0,e778,hx778_0,hl778_0,hi778_0⟩:=at_LOp HR0_0.out x3_1 p778 q778
      cases e778
      replace hx778_0:=cl HB hx778_0
      have HR778_0:=Zz.k hi778_0
      have HC778_0:=Zz.k hl778_0
      clear hi778_0 hl778_0
      replace p778:=eq_true p778
      replace q778:=eq_true q778
      go_wp2_with (first | ((with_reducible refine Qab (f:=17) rfl ?_); refine gl (some 48) Tryz.func17 #[.slice A778_0 (Qay l0_0 x3_1).length c778_0] (h := ?_); (with_reducible refine (doc_Text.calls _ _ (Qay l0_0 x3_1) t779 t780 _ ?side1 ?side2 A17.out).mono ?_); (case side1 => exact cb HR778_0 HB); (case side2 => exact HC778_0.out); rintro e w111 ⟨rfl,hb⟩; refine ⟨_,rfl, ?_⟩; replace BK775:=bl BK775 hb; replace HB:=bs HB hb; clear hb) | ((with_reducible refine Qab (f:=32) rfl ?_); refine gl (some 52) Tryz.func32 #[.int .i64 t780] (h := ?_); (with_reducible refine (w11_num.calls t780 t781 _ A18.out).mono ?_); rintro e w' ⟨rfl,⟨nd,rfl⟩⟩; refine ⟨_,rfl, ?_⟩))
      go_roundg kj9
      case measure => have:=HK1.out; have:=HJ9.out; omega
      case rel => exact ⟨(wrap64 (x3_1 + 1)),rf,H',⟨by have:=HK1.out; have:=HJ9.out; omega⟩,⟨kk BK775⟩,⟨bw HB⟩⟩
     show (let G_ : Prop:=_; G_)
     intro G_
     exact (let_tmp i_ : Nonempty G_:=(((⟨by
     subst G_
     rw [if_pos c19] at H
     obtain ⟨c19b0,c19b1⟩:=bT c19
     clear c19
     obtain ⟨⟨t782,t783⟩,A20,H⟩:=bE H
     try dsimp only at H
     by_cases c21 : t783 = true; rotate_left
     ·replace c21:=Zf c21
      subst c21
      rw [if_neg nft] at H
      obtain rfl:=Zo H
      obtain ⟨_,_,_,_,_,_,_,_⟩:=kc4 BK775
      have p778 : 0 <= (x3_1 : Int):=od
      have q778 : x3_1 < (l0_0.length : Int):=od
      obtain ⟨ad778,A778_0,c778_0,e778,hx778_0,hl778_0,hi778_0⟩:=at_LOp HR0_0.out x3_1 p778 q778
      cases e778
      replace hx778_0:=cl HB hx778_0
      have HR778_0:=Zz.k hi778_0
      have HC778_0:=Zz.k hl778_0
      clear hi778_0 hl778_0
      replace p778:=eq_true p778
      replace q778:=eq_true q778
      go_wp2_with (first | ((with_reducible refine Qab (f:=17) rfl ?_); refine gl (some 48) Tryz.func17 #[.slice A778_0 (Qay l0_0 x3_1).length c778_0] (h := ?_); (with_reducible refine (doc_Text.calls _ _ (Qay l0_0 x3_1) t779 t780 _ ?side1 ?side2 A17.out).mono ?_); (case side1 => exact cb HR778_0 HB); (case side2 => exact HC778_0.out); rintro e w108 ⟨rfl,hb⟩; refine ⟨_,rfl, ?_⟩; replace BK775:=bl BK775 hb; replace HB:=bs HB hb; clear hb) | ((with_reducible refine Qab (f:=32) rfl ?_); refine gl (some 52) Tryz.func32 #[.int .i64 t780] (h := ?_); (with_reducible refine (w11_num.calls t780 t781 _ A18.out).mono ?_); rintro e w' ⟨rfl,⟨nd,rfl⟩⟩; refine ⟨_,rfl, ?_⟩) | ((with_reducible refine Qab (f:=18) rfl ?_); refine gl (some 56) Tryz.func18 #[.string t779] (h := ?_); (with_reducible refine (r1_Runes.calls kj9 t779 t782 false _ ?side1 A20.out).mono ?_); (case side1 => exact (hT.below (bw HB))); rintro e w109 ⟨v784,rfl,ho0,hb⟩; refine ⟨_,rfl, ?_⟩; have HO785:=Zz.k (Kd.R_lower ho0 (Qai (bw HB))); replace BK775:=bl BK775 hb; replace HB:=bs HB hb; clear hb; clear ho0))
      go_ret
      exact ⟨re,bw HB⟩
     show (let G_ : Prop:=_; G_)
     intro G_
     exact (let_tmp i_ : Nonempty G_:=(((⟨by
     subst G_
     subst c21
     rw [if_pos rfl] at H
     have H':=Zz.k H
     clear H
     obtain ⟨_,_,_,_,_,_,_,_⟩:=kc4 BK775
     have p778 : 0 <= (x3_1 : Int):=od
     have q778 : x3_1 < (l0_0.length : Int):=od
     obtain ⟨ad778,A778_0,c778_0,e778,hx778_0,hl778_0,hi778_0⟩:=at_LOp HR0_0.out x3_1 p778 q778
     cases e778
     replace hx778_0:=cl HB hx778_0
     have HR778_0:=Zz.k hi778_0
     have HC778_0:=Zz.k hl778_0
     clear hi778_0 hl778_0
     replace p778:=eq_true p778
     replace q778:=eq_true q778
     go_wp2_with (first | ((with_reducible refine Qab (f:=17) rfl ?_); refine gl (some 48) Tryz.func17 #[.slice A778_0 (Qay l0_0 x3_1).length c778_0] (h := ?_); (with_reducible refine (doc_Text.calls _ _ (Qay l0_0 x3_1) t779 t780 _ ?side1 ?side2 A17.out).mono ?_); (case side1 => exact cb HR778_0 HB); (case side2 => exact HC778_0.out); rintro e w23 ⟨rfl,hb⟩; refine ⟨_,rfl, ?_⟩; replace BK775:=bl BK775 hb; replace HB:=bs HB hb; clear hb) | ((with_reducible refine Qab (f:=32) rfl ?_); refine gl (some 52) Tryz.func32 #[.int .i64 t780] (h := ?_); (with_reducible refine (w11_num.calls t780 t781 _ A18.out).mono ?_); rintro e w' ⟨rfl,⟨nd,rfl⟩⟩; refine ⟨_,rfl, ?_⟩) | ((with_reducible refine Qab (f:=18) rfl ?_); refine gl (some 56) Tryz.func18 #[.string t779] (h := ?_); (with_reducible refine (r1_Runes.calls kj9 t779 t782 true _ ?side1 A20.out).mono ?_); (case side1 => exact (hT.below (bw HB))); rintro e w24 ⟨v784,rfl,ho0,hb⟩; refine ⟨_,rfl, ?_⟩; have HO785:=Zz.k (Kd.R_lower ho0 (Qai (bw HB))); replace BK775:=bl BK775 hb; replace HB:=bs HB hb; clear hb; clear ho0))
     go_loopg [9] kj9 (fun kq v9 w' => ∃ (x9_3 : Int),v9 = .int .i64 x9_3 /\ Zz (w11_CaretStays.l1 kq x3_1 (Qay l0_0 x3_1) t782 x9_3 l0_0 l0_1 l0_2 l0_3 = some r) /\ Zz (kq <= kj9) /\ Zz (Kd.R (Kd.int .i32) 21 w' w.heap.size (fun _ => True) v784 t782) /\ Zz (w'.heap[gb775]? = some (.cells #[(.slice (some ad778) l0_0.length c0_0),(.slice A0_1 l0_1.length c0_1),(.slice A0_2 l0_2.length c0_2),(.slice A0_3 l0_3.length c0_3)] 27 (0,0))) /\ Zz (Below w.heap.size w w'))
     case atStart => exact ⟨(0),rf,H',⟨Nat.le_refl _⟩,⟨rk HO785⟩,⟨kk BK775⟩,⟨bw HB⟩⟩
     case round =>
      show (let G_ : Prop:=_; G_)
      intro G_
      exact (let_tmp i_ : Nonempty G_:=(((⟨by
      subst G_
      clear H'
      try clear c14; try clear c15b0; try clear c16b0; try clear c19b0; try clear c19b1; try clear c21; try clear hx778_0; try clear p778; try clear q778
      obtain ⟨x9_3,rfl,HA,HK3,HO_7,BK775,HB⟩:=hrel
      cases gk with
      | zero => exact absurd HA.out (by simp [w11_CaretStays.l1])
      | succ k3 =>
       have H:=HA.out
       clear HA
       simp only [w11_CaretStays.l1] at H
       have HC25:=Zz.k H
       clear H
       go_upto_region 13 with (fail)
       go_cut [68] (fun v68 wc => ∃ (kq : Nat) (x68_24 : Bool),v68 = .bool x68_24 /\ Zz (w11_CaretStays.j3 kq x3_1 (Qay l0_0 x3_1) t782 x9_3 x68_24 l0_0 l0_1 l0_2 l0_3 = some r) /\ Zz (kq <= k3) /\ Zz (Kd.R (Kd.int .i32) 21 wc w.heap.size (fun _ => True) v784 t782) /\ Zz (wc.heap[gb775]? = some (.cells #[(.slice (some ad778) l0_0.length c0_0),(.slice A0_1 l0_1.length c0_1),(.slice A0_2 l0_2.length c0_2),(.slice A0_3 l0_3.length c0_3)] 27 (0,0))) /\ Zz (Below w.heap.size w wc))
       case first =>
        have H:=HC25.out
        clear HC25
        by_cases c26 : x9_3 <= (t782.length : Int)
        ·show (let G_ : Prop:=_; G_)
         intro G_
         exact (let_tmp i_ : Nonempty G_:=(((⟨by
         subst G_
         rw [if_pos c26] at H
         have c26b0:=Zd c26
         clear c26
         (first | rw [c26b0] | (simp only [i64_w,i32_w]; rw [c26b0]) | skip)
         have H':=Zz.k H
         clear H
         obtain ⟨Ao27,co27,eo27⟩:=Kd.R_slice HO_7.out
         subst eo27
         go_wp2
         go_meet
         case rel => exact ⟨_,(decide (x9_3 < 20)),rf,H',⟨by have:=HK1.out; have:=HJ9.out; have:=HK3.out; first | omega | exact Nat.le_refl _⟩,⟨rk HO_7⟩,⟨kk BK775⟩,⟨bw HB⟩⟩⟩ : Nonempty G_)) :); w11_CaretStays.bxo (G:=G_) (inferInstanceAs (Nonempty G_)))
        rw [if_neg c26] at H
        have c26b0:=Ze c26
        clear c26
        (first | rw [c26b0] | (simp only [i64_w,i32_w]; rw [c26b0]) | skip)
        have H':=Zz.k H
        clear H
        obtain ⟨Ao28,co28,eo28⟩:=Kd.R_slice HO_7.out
        subst eo28
        go_wp2
        go_meet
        case rel => exact ⟨_,(false),rf,H',⟨by have:=HK1.out; have:=HJ9.out; have:=HK3.out; first | omega | exact Nat.le_refl _⟩,⟨rk HO_7⟩,⟨kk BK775⟩,⟨bw HB⟩⟩
       case rest =>
        show (let G_ : Prop:=_; G_)
        intro G_
        exact (let_tmp i_ : Nonempty G_:=(((⟨by
        subst G_
        clear HC25
        obtain ⟨kq,x68_24,rfl,HA,HJ24,HO_7,BK775,HB⟩:=hcut
        cases kq with
        | zero => exact absurd HA.out (by simp [w11_CaretStays.j3])
        | succ kj24 =>
         have H:=HA.out
         clear HA
         simp only [w11_CaretStays.j3] at H
         by_cases c29 : x68_24 = true; rotate_left
         ·replace c29:=Zf c29
          subst c29
          rw [if_neg nft] at H
          obtain ⟨t823,A81,H⟩:=bE H
          have H':=Zz.k H
          clear H
          obtain ⟨_,_,_,_,_,_,_,_⟩:=kc4 BK775
          go_wp2_with (first | ((with_reducible refine Qab (f:=35) rfl ?_); refine gl (some 146) Tryz.func35 #[.agg #[.slice (some ad778) l0_0.length c0_0, .slice A0_1 l0_1.length c0_1, .slice A0_2 l0_2.length c0_2, .slice A0_3 l0_3.length c0_3], .slice A778_0 (Qay l0_0 x3_1).length c778_0] (h := ?_); (with_reducible refine (w5_Elems.calls kj24 _ _ l0_0 _ _ l0_1 _ _ l0_2 _ _ l0_3 _ _ (Qay l0_0 x3_1) t823 _ ?side1 ?side2 ?side3 ?side4 ?side5 ?side6 ?side7 ?side8 ?side9 ?side10 A81.out).mono ?_); (case side1 => exact cb HR0_0 HB); (case side2 => exact HC0_0.out); (case side3 => exact cb HR0_1 HB); (case side4 => exact HC0_1.out); (case side5 => exact cb HR0_2 HB); (case side6 => exact HC0_2.out); (case side7 => exact cb HR0_3 HB); (case side8 => exact HC0_3.out); (case side9 => exact cb HR778_0 HB); (case side10 => exact HC778_0.out); rintro e w83 ⟨v824,rfl,ho0,hb⟩; refine ⟨_,rfl, ?_⟩; have HO825:=Zz.k (Kd.R_lower ho0 (Qai (bw HB))); replace HO_7:=rb HO_7 hb; replace BK775:=bl BK775 hb; replace HB:=bs HB hb; clear hb; clear ho0))
          go_loopg [21] kj24 (fun kq v21 w' => ∃ (x21_5 : Int),v21 = .int .i64 x21_5 /\ Zz (w11_CaretStays.l3 kq x3_1 (Qay l0_0 x3_1) t823 x21_5 l0_0 l0_1 l0_2 l0_3 = some r) /\ Zz (kq <= kj24) /\ Zz (Kd.R Qav 32 w' w.heap.size (fun _ => True) v824 t823) /\ Zz (w'.heap[gb775]? = some (.cells #[(.slice (some ad778) l0_0.length c0_0),(.slice A0_1 l0_1.length c0_1),(.slice A0_2 l0_2.length c0_2),(.slice A0_3 l0_3.length c0_3)] 27 (0,0))) /\ Zz (Below w.heap.size w w'))
          case atStart => exact ⟨(0),rf,H',⟨Nat.le_refl _⟩,⟨rk HO825⟩,⟨kk BK775⟩,⟨bw HB⟩⟩
          case round =>
           show (let G_ : Prop:=_; G_)
           intro G_
           exact (let_tmp i_ : Nonempty G_:=(((⟨by
           subst G_
           clear H'
           try clear c29
           obtain ⟨x21_5,rfl,HA,HK5,HO_20,BK775,HB⟩:=hrel
           cases gk with
           | zero => exact absurd HA.out (by simp [w11_CaretStays.l3])
           | succ k5 =>
            have H:=HA.out
            clear HA
            simp only [w11_CaretStays.l3] at H
            by_cases c84 : x21_5 < (t823.length : Int); rotate_left
            ·rw [if_neg c84] at H
             have c84b0:=Ze c84
             clear c84
             have H':=Zz.k H
             clear H
             obtain ⟨Ao106,co106,eo106⟩:=Kd.R_slice HO_20.out
             subst eo106
             go_wp2
             go_roundg k5
             case measure => have:=HK1.out; have:=HJ9.out; have:=HK3.out; have:=HJ24.out; have:=HK5.out; omega
             case rel => exact ⟨(wrap64 (x3_1 + 1)),rf,H',⟨by have:=HK1.out; have:=HJ9.out; have:=HK3.out; have:=HJ24.out; have:=HK5.out; omega⟩,⟨kk BK775⟩,⟨bw HB⟩⟩
            show (let G_ : Prop:=_; G_)
            intro G_
            exact (let_tmp i_ : Nonempty G_:=(((⟨by
            subst G_
            rw [if_pos c84] at H
            have c84b0:=Zd c84
            clear c84
            by_cases c85 : 0 <= x21_5; rotate_left
            ·rw [if_neg c85] at H
             exact absurd H (by simp)
            show (let G_ : Prop:=_; G_)
            intro G_
            exact (let_tmp i_ : Nonempty G_:=(((⟨by
            subst G_
            rw [if_pos c85] at H
            have c85b0:=Zd c85
            clear c85
            obtain ⟨⟨t827,t828⟩,A86,H⟩:=bE H
            try dsimp only at H
            obtain ⟨t829,A87,H⟩:=bE H
            by_cases c88 : t829 = 0; rotate_left
            ·rw [if_neg c88] at H
             obtain ⟨c88b0,c88b1⟩:=bF c88
             have H':=Zz.k H
             clear H
             obtain ⟨Ao104,co104,eo104⟩:=Kd.R_slice HO_20.out
             subst eo104
             have p826 : 0 <= (x21_5 : Int):=od
             have q826 : x21_5 < (t823.length : Int):=od
             obtain ⟨ad826,e826,hx826_0,hx826_1,hx826_2⟩:=Qbm (Kd.R_reads' HO_20.out).2.2 x21_5 p826 q826
             cases e826
             replace p826:=eq_true p826
             replace q826:=eq_true q826
             go_wp2_with (first | ((with_reducible refine Qab (f:=34) rfl ?_); refine gl (some 159) Tryz.func34 #[.slice A778_0 (Qay l0_0 x3_1).length c778_0, .agg #[.int .i64 ((Qac t823 x21_5).f0), .int .i64 ((Qac t823 x21_5).f1), .int .i64 ((Qac t823 x21_5).f2)]] (h := ?_); (with_reducible refine (caret_Place.calls _ _ (Qay l0_0 x3_1) ((Qac t823 x21_5).f0) ((Qac t823 x21_5).f1) ((Qac t823 x21_5).f2) t827 t828 _ ?side1 ?side2 A86.out).mono ?_); (case side1 => exact cb HR778_0 HB); (case side2 => exact HC778_0.out); rintro e w105 ⟨rfl,hb⟩; refine ⟨_,rfl, ?_⟩; replace HO_20:=rb HO_20 hb; replace BK775:=bl BK775 hb; replace HB:=bs HB hb; clear hb) | ((with_reducible refine Qab (f:=32) rfl ?_); refine gl (some 163) Tryz.func32 #[.int .i64 t828] (h := ?_); (with_reducible refine (w11_num.calls t828 t829 _ A87.out).mono ?_); rintro e w' ⟨rfl,⟨nd,rfl⟩⟩; refine ⟨_,rfl, ?_⟩))
             go_roundg k5
             case measure => have:=HK1.out; have:=HJ9.out; have:=HK3.out; have:=HJ24.out; have:=HK5.out; omega
             case rel => exact ⟨(wrap64 (x21_5 + 1)),rf,H',⟨by have:=HK1.out; have:=HJ9.out; have:=HK3.out; have:=HJ24.out; have:=HK5.out; omega⟩,⟨rk HO_20⟩,⟨kk BK775⟩,⟨bw HB⟩⟩
            show (let G_ : Prop:=_; G_)
            intro G_
            exact (let_tmp i_ : Nonempty G_:=(((⟨by
            subst G_
            rw [if_pos c88] at H
            obtain ⟨c88b0,c88b1⟩:=bT c88
            clear c88
            obtain ⟨⟨t831,t832,t833,t834⟩,A89,H⟩:=bE H
            try dsimp only at H
            obtain ⟨⟨t836,t837⟩,A90,H⟩:=bE H
            try dsimp only at H
            have HC91:=Zz.k H
            clear H
            obtain ⟨Ao92,co92,eo92⟩:=Kd.R_slice HO_20.out
            subst eo92
            have p826 : 0 <= (x21_5 : Int):=od
            have q826 : x21_5 < (t823.length : Int):=od
            obtain ⟨ad826,e826,hx826_0,hx826_1,hx826_2⟩:=Qbm (Kd.R_reads' HO_20.out).2.2 x21_5 p826 q826
            cases e826
            replace p826:=eq_true p826
            replace q826:=eq_true q826
            go_upto_region 38 with (first | ((with_reducible refine Qab (f:=34) rfl ?_); refine gl (some 159) Tryz.func34 #[.slice A778_0 (Qay l0_0 x3_1).length c778_0, .agg #[.int .i64 ((Qac t823 x21_5).f0), .int .i64 ((Qac t823 x21_5).f1), .int .i64 ((Qac t823 x21_5).f2)]] (h := ?_); (with_reducible refine (caret_Place.calls _ _ (Qay l0_0 x3_1) ((Qac t823 x21_5).f0) ((Qac t823 x21_5).f1) ((Qac t823 x21_5).f2) t827 t828 _ ?side1 ?side2 A86.out).mono ?_); (case side1 => exact cb HR778_0 HB); (case side2 => exact HC778_0.out); rintro e w93 ⟨rfl,hb⟩; refine ⟨_,rfl, ?_⟩; replace HO_20:=rb HO_20 hb; replace BK775:=bl BK775 hb; replace HB:=bs HB hb; clear hb) | ((with_reducible refine Qab (f:=32) rfl ?_); refine gl (some 163) Tryz.func32 #[.int .i64 t828] (h := ?_); (with_reducible refine (w11_num.calls t828 t829 _ A87.out).mono ?_); rintro e w' ⟨rfl,⟨nd,rfl⟩⟩; refine ⟨_,rfl, ?_⟩; (try (rw [drewN_self w93]; generalize hq_ : World.drewN w93 _ = w93; have n0_ : Zz (Kd.R Qav 32 w93 w.heap.size (fun _ => True) (.slice (some ad826) t823.length co92) t823):=⟨by rw [<- hq_]; exact (rk HO_20)⟩; have n1_ : Zz (w93.heap[gb775]? = some (.cells #[.slice (some ad778) l0_0.length c0_0, .slice A0_1 l0_1.length c0_1, .slice A0_2 l0_2.length c0_2, .slice A0_3 l0_3.length c0_3] 27 (0,0))):=⟨by rw [<- hq_]; exact (kk BK775)⟩; have n2_ : Zz (Below w.heap.size w w93):=⟨by rw [<- hq_]; exact (bw HB)⟩; clear HO_20 BK775 HB hq_; have HO_20:=n0_; have BK775:=n1_; have HB:=n2_; clear n0_ n1_ n2_)); have p830 : 0 <= (x21_5 : Int):=od; have q830 : x21_5 < (t823.length : Int):=od; obtain ⟨ad830,e830,hx830_0,hx830_1,hx830_2⟩:=Qbm (Kd.R_reads' HO_20.out).2.2 x21_5 p830 q830; obtain rfl : ad826 = ad830:=(by injection e830); replace p830:=eq_true p830; replace q830:=eq_true q830) | ((with_reducible refine Qab (f:=36) rfl ?_); refine gl (some 171) Tryz.func36 #[.slice A778_0 (Qay l0_0 x3_1).length c778_0, .agg #[.int .i64 ((Qac t823 x21_5).f0), .int .i64 ((Qac t823 x21_5).f1), .int .i64 ((Qac t823 x21_5).f2)]] (h := ?_); (with_reducible refine (caret_Near.calls _ _ (Qay l0_0 x3_1) ((Qac t823 x21_5).f0) ((Qac t823 x21_5).f1) ((Qac t823 x21_5).f2) t831 t832 t833 t834 _ ?side1 ?side2 A89.out).mono ?_); (case side1 => exact cb HR778_0 HB); (case side2 => exact HC778_0.out); rintro e w94 ⟨rfl,hb⟩; refine ⟨_,rfl, ?_⟩; replace HO_20:=rb HO_20 hb; replace BK775:=bl BK775 hb; replace HB:=bs HB hb; clear hb) | ((with_reducible refine Qad (N:=24) rfl ?_); refine bx 24 #[.int .i64 0, .int .i64 0, .int .i64 0] 32 (h := ?_); intro gb835 hg w95 hbox hb; have BK835:=Zz.k (hbox); have GW835:=bz HB hg; have GE835:=bz HB hg; have NB775_835:=bn BK775 hg; have NB835_775:=bm BK775 hg; replace HO_20:=Zz.k (Kd.R_below (Kd.R_elderB (rk HO_20) gb835 (Nat.le_of_eq hg.symm)) hb); replace BK775:=bl BK775 hb; replace HB:=bs HB hb; clear hb hbox hg; have hnb96:=NB835_775.out; have hnc96:=NB775_835.out; obtain ⟨_,_,_,_,_,_⟩:=kc3 BK835) | ((with_reducible refine Qab (f:=34) rfl ?_); refine gl (some 177) Tryz.func34 #[.slice A778_0 (Qay l0_0 x3_1).length c778_0, .agg #[.int .i64 t831, .int .i64 t832, .int .i64 t833]] (h := ?_); (with_reducible refine (caret_Place.calls _ _ (Qay l0_0 x3_1) t831 t832 t833 t836 t837 _ ?side1 ?side2 A90.out).mono ?_); (case side1 => exact Kd.C_below HR778_0.out (bw HB)); (case side2 => exact HC778_0.out); rintro e w98 ⟨rfl,hb⟩; refine ⟨_,rfl, ?_⟩; replace HO_20:=Zz.k (Kd.R_below (by (with_reducible repeat (first | apply Kd.R_alloc | apply Kd.R_drewN | apply Kd.R_drew)); exact (Kd.R_mono (Kd.R_far (p:=⟨gb835,2,none⟩) (Kd.R_far (p:=⟨gb835,1,none⟩) (Kd.R_far (p:=⟨gb835,0,none⟩) (Kd.R_mono HO_20.out (fun k_ hk => (⟨hk,hk.2⟩ : _ /\ k_ ≠ gb835))) (fun _ hk => hk.2) (.int .i64 t831)) (fun _ hk => hk.2) (.int .i64 t832)) (fun _ hk => hk.2) (.int .i64 t833)) (fun _ h_ => h_.1))) hb); replace BK775:=bl BK775 hb; replace BK835:=Zz.k (Qbn (g:=gb835) (o:=.cells #[.int .i64 t831, .int .i64 t832, .int .i64 t833] 32 (0,0)) (bp (bp (bp (kk BK835) 0) 1) 2) hb); replace HB:=bs HB hb; clear hb))
            (try simp only [Act.put,List.setIfInBounds_toArray,List.set_cons_zero,List.set_cons_succ])
            go_cut [192] (fun v192 wc => ∃ (kq : Nat) (x192_90 : Bool),v192 = .bool x192_90 /\ Zz (w11_CaretStays.j9 kq x3_1 (Qay l0_0 x3_1) t823 x21_5 x192_90 l0_0 l0_1 l0_2 l0_3 = some r) /\ Zz (kq <= k5) /\ Zz (Kd.R Qav 32 wc w.heap.size (fun k_ => k_ ≠ gb835) (.slice (some ad826) t823.length co92) t823) /\ Zz (wc.heap[gb775]? = some (.cells #[(.slice (some ad778) l0_0.length c0_0),(.slice A0_1 l0_1.length c0_1),(.slice A0_2 l0_2.length c0_2),(.slice A0_3 l0_3.length c0_3)] 27 (0,0))) /\ Zz (wc.heap[gb835]? = some (.cells #[.int .i64 t831, .int .i64 t832, .int .i64 t833] 32 (0,0))) /\ Zz (Below w.heap.size w wc))
            case first =>
             have H:=HC91.out
             clear HC91
             obtain ⟨t838,A99,H⟩:=bE H
             by_cases c100 : t838 = 0; rotate_left
             ·rw [if_neg c100] at H
              obtain ⟨c100b0,c100b1⟩:=bF c100
              (first | rw [c100b0] | (simp only [i64_w,i32_w]; rw [c100b0]) | skip)
              have H':=Zz.k H
              clear H
              go_wp2_with (first | ((with_reducible refine Qab (f:=32) rfl ?_); refine gl (some 181) Tryz.func32 #[.int .i64 t834] (h := ?_); (with_reducible refine (w11_num.calls t834 t838 _ A99.out).mono ?_); rintro e w' ⟨rfl,⟨nd,rfl⟩⟩; refine ⟨_,rfl, ?_⟩))
              go_meet
              case rel => exact ⟨_,(true),rf,H',⟨by have:=HK1.out; have:=HJ9.out; have:=HK3.out; have:=HJ24.out; have:=HK5.out; first | omega | exact Nat.le_refl _⟩,⟨by (with_reducible repeat (first | apply Kd.R_alloc | apply Kd.R_drewN | apply Kd.R_drew)); exact Kd.R_mono HO_20.out (fun _ hk => hk.2)⟩,⟨kk BK775⟩,⟨kk BK835⟩,⟨bw HB⟩⟩
             show (let G_ : Prop:=_; G_)
             intro G_
             exact (let_tmp i_ : Nonempty G_:=(((⟨by
             subst G_
             rw [if_pos c100] at H
             obtain ⟨c100b0,c100b1⟩:=bT c100
             clear c100
             (first | rw [c100b0] | (simp only [i64_w,i32_w]; rw [c100b0]) | skip)
             obtain ⟨t839,A101,H⟩:=bE H
             by_cases c102 : t839 = 0; rotate_left
             ·rw [if_neg c102] at H
              obtain ⟨c102b0,c102b1⟩:=bF c102
              have H':=Zz.k H
              clear H
              go_wp2_with (first | ((with_reducible refine Qab (f:=32) rfl ?_); refine gl (some 181) Tryz.func32 #[.int .i64 t834] (h := ?_); (with_reducible refine (w11_num.calls t834 t838 _ A99.out).mono ?_); rintro e w' ⟨rfl,⟨nd,rfl⟩⟩; refine ⟨_,rfl, ?_⟩) | (go_at_call 32; (with_reducible refine (w11_num.calls t837 t839 _ A101.out).mono ?_); rintro e w' ⟨rfl,⟨nd,rfl⟩⟩))
              go_meet
              case rel => exact ⟨_,(true),rf,H',⟨by have:=HK1.out; have:=HJ9.out; have:=HK3.out; have:=HJ24.out; have:=HK5.out; first | omega | exact Nat.le_refl _⟩,⟨by (with_reducible repeat (first | apply Kd.R_alloc | apply Kd.R_drewN | apply Kd.R_drew)); exact Kd.R_mono HO_20.out (fun _ hk => hk.2)⟩,⟨kk BK775⟩,⟨kk BK835⟩,⟨bw HB⟩⟩
             show (let G_ : Prop:=_; G_)
             intro G_
             exact (let_tmp i_ : Nonempty G_:=(((⟨by
             subst G_
             rw [if_pos c102] at H
             obtain ⟨c102b0,c102b1⟩:=bT c102
             clear c102
             have H':=Zz.k H
             clear H
             go_wp2_with (first | ((with_reducible refine Qab (f:=32) rfl ?_); refine gl (some 181) Tryz.func32 #[.int .i64 t834] (h := ?_); (with_reducible refine (w11_num.calls t834 t838 _ A99.out).mono ?_); rintro e w' ⟨rfl,⟨nd,rfl⟩⟩; refine ⟨_,rfl, ?_⟩) | (go_at_call 32; (with_reducible refine (w11_num.calls t837 t839 _ A101.out).mono ?_); rintro e w' ⟨rfl,⟨nd,rfl⟩⟩))
             go_meet
             case rel => exact ⟨_,((t836 != t827)),rf,H',⟨by have:=HK1.out; have:=HJ9.out; have:=HK3.out; have:=HJ24.out; have:=HK5.out; first | omega | exact Nat.le_refl _⟩,⟨by (with_reducible repeat (first | apply Kd.R_alloc | apply Kd.R_drewN | apply Kd.R_drew)); exact Kd.R_mono HO_20.out (fun _ hk => hk.2)⟩,⟨kk BK775⟩,⟨kk BK835⟩,⟨bw HB⟩⟩⟩ : Nonempty G_)) :); w11_CaretStays.bxo (G:=G_) (inferInstanceAs (Nonempty G_)))⟩ : Nonempty G_)) :); w11_CaretStays.bxo (G:=G_) (inferInstanceAs (Nonempty G_)))
            case rest =>
             show (let G_ : Prop:=_; G_)
             intro G_
             exact (let_tmp i_ : Nonempty G_:=(((⟨by
             subst G_
             clear HC91
             try clear c84b0; try clear c85b0; try clear c88b0; try clear c88b1; try clear hx826_0; try clear hx826_1; try clear hx826_2; try clear hx830_0; try clear hx830_1; try clear hx830_2; try clear p826; try clear p830; try clear q826; try clear q830
             obtain ⟨kq,x192_90,rfl,HA,HJ90,HO_20,BK775,BK835,HB⟩:=hcut
             cases kq with
             | zero => exact absurd HA.out (by simp [w11_CaretStays.j9])
             | succ kj90 =>
              have H:=HA.out
              clear HA
              simp only [w11_CaretStays.j9] at H
              by_cases c103 : x192_90 = true
              ·show (let G_ : Prop:=_; G_)
               intro G_
               exact (let_tmp i_ : Nonempty G_:=(((⟨by
               subst G_
               subst c103
               rw [if_pos rfl] at H
               obtain rfl:=Zo H
               go_wp2
               go_ret
               exact ⟨re,bw HB⟩⟩ : Nonempty G_)) :); w11_CaretStays.bxo (G:=G_) (inferInstanceAs (Nonempty G_)))
              replace c103:=Zf c103
              subst c103
              rw [if_neg nft] at H
              have H':=Zz.k H
              clear H
              go_wp2
              go_roundg kj90
              case measure => have:=HK1.out; have:=HJ9.out; have:=HK3.out; have:=HJ24.out; have:=HK5.out; have:=HJ90.out; omega
              case rel => exact ⟨(wrap64 (x21_5 + 1)),rf,H',⟨by have:=HK1.out; have:=HJ9.out; have:=HK3.out; have:=HJ24.out; have:=HK5.out; have:=HJ90.out; omega⟩,⟨by (with_reducible repeat (first | apply Kd.R_alloc | apply Kd.R_drewN | apply Kd.R_drew)); exact Kd.R_mono HO_20.out (fun _ hk => trivial)⟩,⟨kk BK775⟩,⟨bw HB⟩⟩⟩ : Nonempty G_)) :); w11_CaretStays.bxo (G:=G_) (inferInstanceAs (Nonempty G_)))⟩ : Nonempty G_)) :); w11_CaretStays.bxo (G:=G_) (inferInstanceAs (Nonempty G_)))⟩ : Nonempty G_)) :); w11_CaretStays.bxo (G:=G_) (inferInstanceAs (Nonempty G_)))⟩ : Nonempty G_)) :); w11_CaretStays.bxo (G:=G_) (inferInstanceAs (Nonempty G_)))⟩ : Nonempty G_)) :); w11_CaretStays.bxo (G:=G_) (inferInstanceAs (Nonempty G_)))
         show (let G_ : Prop:=_; G_)
         intro G_
         exact (let_tmp i_ : Nonempty G_:=(((⟨by
         subst G_
         subst c29
         rw [if_pos rfl] at H
         obtain ⟨⟨t786,t787,t788,t789⟩,A30,H⟩:=bE H
         try dsimp only at H
         obtain ⟨⟨t791,t792⟩,A31,H⟩:=bE H
         try dsimp only at H
         have HC32:=Zz.k H
         clear H
         go_upto_region 17 with (first | ((with_reducible refine Qab (f:=33) rfl ?_); refine gl (some 74) Tryz.func33 #[.slice A778_0 (Qay l0_0 x3_1).length c778_0, .int .i64 x9_3] (h := ?_); (with_reducible refine (caret_Set.calls kj24 _ _ (Qay l0_0 x3_1) x9_3 t786 t787 t788 t789 _ ?side1 ?side2 A30.out).mono ?_); (case side1 => exact cb HR778_0 HB); (case side2 => exact HC778_0.out); rintro e w33 ⟨rfl,hb⟩; refine ⟨_,rfl, ?_⟩; replace HO_7:=rb HO_7 hb; replace BK775:=bl BK775 hb; replace HB:=bs HB hb; clear hb) | ((with_reducible refine Qad (N:=10) rfl ?_); refine bx 10 #[.int .i64 0, .int .i64 0, .int .i64 0] 32 (h := ?_); intro gb790 hg w34 hbox hb; have BK790:=Zz.k (hbox); have GW790:=bz HB hg; have GE790:=bz HB hg; have NB775_790:=bn BK775 hg; have NB790_775:=bm BK775 hg; replace HO_7:=rb HO_7 hb; replace BK775:=bl BK775 hb; replace HB:=bs HB hb; clear hb hbox hg; have hnb35:=NB790_775.out; have hnc35:=NB775_790.out; obtain ⟨_,_,_,_,_,_⟩:=kc3 BK790) | ((with_reducible refine Qab (f:=34) rfl ?_); refine gl (some 80) Tryz.func34 #[.slice A778_0 (Qay l0_0 x3_1).length c778_0, .agg #[.int .i64 t786, .int .i64 t787, .int .i64 t788]] (h := ?_); (with_reducible refine (caret_Place.calls _ _ (Qay l0_0 x3_1) t786 t787 t788 t791 t792 _ ?side1 ?side2 A31.out).mono ?_); (case side1 => exact Kd.C_below HR778_0.out (bw HB)); (case side2 => exact HC778_0.out); rintro e w37 ⟨rfl,hb⟩; refine ⟨_,rfl, ?_⟩; replace HO_7:=Zz.k (Kd.R_below (by (with_reducible repeat (first | apply Kd.R_alloc | apply Kd.R_drewN | apply Kd.R_drew)); exact (Kd.R_mono (Kd.R_far (p:=⟨gb790,2,none⟩) (Kd.R_far (p:=⟨gb790,1,none⟩) (Kd.R_far (p:=⟨gb790,0,none⟩) (Kd.R_types HO_7.out BK790.out (by decide)) (fun _ hk => hk.2) (.int .i64 t786)) (fun _ hk => hk.2) (.int .i64 t787)) (fun _ hk => hk.2) (.int .i64 t788)) (fun _ h_ => h_.1))) hb); replace BK775:=bl BK775 hb; replace BK790:=Zz.k (Qbn (g:=gb790) (o:=.cells #[.int .i64 t786, .int .i64 t787, .int .i64 t788] 32 (0,0)) (bp (bp (bp (kk BK790) 0) 1) 2) hb); replace HB:=bs HB hb; clear hb))
         (try simp only [Act.put,List.setIfInBounds_toArray,List.set_cons_zero,List.set_cons_succ])
         go_cut [95] (fun v95 wc => ∃ (kq : Nat) (x95_31 : Bool),v95 = .bool x95_31 /\ Zz (w11_CaretStays.j4 kq x3_1 (Qay l0_0 x3_1) t782 x9_3 x95_31 l0_0 l0_1 l0_2 l0_3 t786 t787 t788 = some r) /\ Zz (kq <= kj24) /\ Zz (Kd.R (Kd.int .i32) 21 wc w.heap.size (fun _ => True) v784 t782) /\ Zz (wc.heap[gb775]? = some (.cells #[(.slice (some ad778) l0_0.length c0_0),(.slice A0_1 l0_1.length c0_1),(.slice A0_2 l0_2.length c0_2),(.slice A0_3 l0_3.length c0_3)] 27 (0,0))) /\ Zz (wc.heap[gb790]? = some (.cells #[.int .i64 t786, .int .i64 t787, .int .i64 t788] 32 (0,0))) /\ Zz (Below w.heap.size w wc))
         case first =>
          have H:=HC32.out
          clear HC32
          obtain ⟨t793,A38,H⟩:=bE H
          by_cases c39 : t793 = 0; rotate_left
          ·rw [if_neg c39] at H
           obtain ⟨c39b0,c39b1⟩:=bF c39
           (first | rw [c39b0] | (simp only [i64_w,i32_w]; rw [c39b0]) | skip)
           have H':=Zz.k H
           clear H
           go_wp2_with (first | ((with_reducible refine Qab (f:=32) rfl ?_); refine gl (some 84) Tryz.func32 #[.int .i64 t789] (h := ?_); (with_reducible refine (w11_num.calls t789 t793 _ A38.out).mono ?_); rintro e w' ⟨rfl,⟨nd,rfl⟩⟩; refine ⟨_,rfl, ?_⟩))
           go_meet
           case rel => exact ⟨_,(true),rf,H',⟨by have:=HK1.out; have:=HJ9.out; have:=HK3.out; have:=HJ24.out; first | omega | exact Nat.le_refl _⟩,⟨rk HO_7⟩,⟨kk BK775⟩,⟨kk BK790⟩,⟨bw HB⟩⟩
          show (let G_ : Prop:=_; G_)
          intro G_
          exact (let_tmp i_ : Nonempty G_:=(((⟨by
          subst G_
          rw [if_pos c39] at H
          obtain ⟨c39b0,c39b1⟩:=bT c39
          clear c39
          (first | rw [c39b0] | (simp only [i64_w,i32_w]; rw [c39b0]) | skip)
          obtain ⟨t794,A40,H⟩:=bE H
          by_cases c41 : t794 = 0; rotate_left
          ·rw [if_neg c41] at H
           obtain ⟨c41b0,c41b1⟩:=bF c41
           have H':=Zz.k H
           clear H
           go_wp2_with (first | ((with_reducible refine Qab (f:=32) rfl ?_); refine gl (some 84) Tryz.func32 #[.int .i64 t789] (h := ?_); (with_reducible refine (w11_num.calls t789 t793 _ A38.out).mono ?_); rintro e w' ⟨rfl,⟨nd,rfl⟩⟩; refine ⟨_,rfl, ?_⟩) | (go_at_call 32; (with_reducible refine (w11_num.calls t792 t794 _ A40.out).mono ?_); rintro e w' ⟨rfl,⟨nd,rfl⟩⟩))
           go_meet
           case rel => exact ⟨_,(true),rf,H',⟨by have:=HK1.out; have:=HJ9.out; have:=HK3.out; have:=HJ24.out; first | omega | exact Nat.le_refl _⟩,⟨rk HO_7⟩,⟨kk BK775⟩,⟨kk BK790⟩,⟨bw HB⟩⟩
          show (let G_ : Prop:=_; G_)
          intro G_
          exact (let_tmp i_ : Nonempty G_:=(((⟨by
          subst G_
          rw [if_pos c41] at H
          obtain ⟨c41b0,c41b1⟩:=bT c41
          clear c41
          have H':=Zz.k H
          clear H
          go_wp2_with (first | ((with_reducible refine Qab (f:=32) rfl ?_); refine gl (some 84) Tryz.func32 #[.int .i64 t789] (h := ?_); (with_reducible refine (w11_num.calls t789 t793 _ A38.out).mono ?_); rintro e w' ⟨rfl,⟨nd,rfl⟩⟩; refine ⟨_,rfl, ?_⟩) | (go_at_call 32; (with_reducible refine (w11_num.calls t792 t794 _ A40.out).mono ?_); rintro e w' ⟨rfl,⟨nd,rfl⟩⟩))
          go_meet
          case rel => exact ⟨_,((t791 != x9_3)),rf,H',⟨by have:=HK1.out; have:=HJ9.out; have:=HK3.out; have:=HJ24.out; first | omega | exact Nat.le_refl _⟩,⟨rk HO_7⟩,⟨kk BK775⟩,⟨kk BK790⟩,⟨bw HB⟩⟩⟩ : Nonempty G_)) :); w11_CaretStays.bxo (G:=G_) (inferInstanceAs (Nonempty G_)))⟩ : Nonempty G_)) :); w11_CaretStays.bxo (G:=G_) (inferInstanceAs (Nonempty G_)))
         case rest =>
          show (let G_ : Prop:=_; G_)
          intro G_
          exact (let_tmp i_ : Nonempty G_:=(((⟨by
          subst G_
          clear HC32
          try clear c29
          obtain ⟨kq,x95_31,rfl,HA,HJ31,HO_7,BK775,BK790,HB⟩:=hcut
          cases kq with
          | zero => exact absurd HA.out (by simp [w11_CaretStays.j4])
          | succ kj31 =>
           have H:=HA.out
           clear HA
           simp only [w11_CaretStays.j4] at H
           by_cases c42 : x95_31 = true
           ·show (let G_ : Prop:=_; G_)
            intro G_
            exact (let_tmp i_ : Nonempty G_:=(((⟨by
            subst G_
            subst c42
            rw [if_pos rfl] at H
            obtain rfl:=Zo H
            go_wp2
            go_ret
            exact ⟨re,bw HB⟩⟩ : Nonempty G_)) :); w11_CaretStays.bxo (G:=G_) (inferInstanceAs (Nonempty G_)))
           replace c42:=Zf c42
           subst c42
           rw [if_neg nft] at H
           have H':=Zz.k H
           clear H
           go_wp2
           go_loopg [14] kj31 (fun kq v14 w' => ∃ (x14_6 : Int),v14 = .int .i64 x14_6 /\ Zz (w11_CaretStays.l2 kq x3_1 (Qay l0_0 x3_1) t782 x9_3 x14_6 l0_0 l0_1 l0_2 l0_3 t786 t787 t788 = some r) /\ Zz (kq <= kj31) /\ Zz (Kd.R (Kd.int .i32) 21 w' w.heap.size (fun _ => True) v784 t782) /\ Zz (w'.heap[gb775]? = some (.cells #[(.slice (some ad778) l0_0.length c0_0),(.slice A0_1 l0_1.length c0_1),(.slice A0_2 l0_2.length c0_2),(.slice A0_3 l0_3.length c0_3)] 27 (0,0))) /\ Zz (w'.heap[gb790]? = some (.cells #[.int .i64 t786, .int .i64 t787, .int .i64 t788] 32 (0,0))) /\ Zz (Below w.heap.size w w'))
           case atStart => exact ⟨(0),rf,H',⟨Nat.le_refl _⟩,⟨rk HO_7⟩,⟨kk BK775⟩,⟨kk BK790⟩,⟨bw HB⟩⟩
           case round =>
            show (let G_ : Prop:=_; G_)
            intro G_
            exact (let_tmp i_ : Nonempty G_:=(((⟨by
            subst G_
            clear H'
            try clear c42
            obtain ⟨x14_6,rfl,HA,HK6,HO_7,BK775,BK790,HB⟩:=hrel
            cases gk with
            | zero => exact absurd HA.out (by simp [w11_CaretStays.l2])
            | succ k6 =>
             have H:=HA.out
             clear HA
             simp only [w11_CaretStays.l2] at H
             have HC43:=Zz.k H
             clear H
             go_upto_region 20 with (fail)
             go_cut [103] (fun v103 wc => ∃ (kq : Nat) (x103_42 : Bool),v103 = .bool x103_42 /\ Zz (w11_CaretStays.j6 kq x3_1 (Qay l0_0 x3_1) t782 x9_3 x14_6 x103_42 l0_0 l0_1 l0_2 l0_3 t786 t787 t788 = some r) /\ Zz (kq <= k6) /\ Zz (Kd.R (Kd.int .i32) 21 wc w.heap.size (fun _ => True) v784 t782) /\ Zz (wc.heap[gb775]? = some (.cells #[(.slice (some ad778) l0_0.length c0_0),(.slice A0_1 l0_1.length c0_1),(.slice A0_2 l0_2.length c0_2),(.slice A0_3 l0_3.length c0_3)] 27 (0,0))) /\ Zz (wc.heap[gb790]? = some (.cells #[.int .i64 t786, .int .i64 t787, .int .i64 t788] 32 (0,0))) /\ Zz (Below w.heap.size w wc))
             case first =>
              have H:=HC43.out
              clear HC43
              by_cases c44 : x14_6 <= (t782.length : Int)
              ·show (let G_ : Prop:=_; G_)
               intro G_
               exact (let_tmp i_ : Nonempty G_:=(((⟨by
               subst G_
               rw [if_pos c44] at H
               have c44b0:=Zd c44
               clear c44
               (first | rw [c44b0] | (simp only [i64_w,i32_w]; rw [c44b0]) | skip)
               have H':=Zz.k H
               clear H
               obtain ⟨Ao45,co45,eo45⟩:=Kd.R_slice HO_7.out
               subst eo45
               go_wp2
               go_meet
               case rel => exact ⟨_,(decide (x14_6 < 20)),rf,H',⟨by have:=HK1.out; have:=HJ9.out; have:=HK3.out; have:=HJ24.out; have:=HJ31.out; have:=HK6.out; first | omega | exact Nat.le_refl _⟩,⟨rk HO_7⟩,⟨kk BK775⟩,⟨kk BK790⟩,⟨bw HB⟩⟩⟩ : Nonempty G_)) :); w11_CaretStays.bxo (G:=G_) (inferInstanceAs (Nonempty G_)))
              rw [if_neg c44] at H
              have c44b0:=Ze c44
              clear c44
              (first | rw [c44b0] | (simp only [i64_w,i32_w]; rw [c44b0]) | skip)
              have H':=Zz.k H
              clear H
              obtain ⟨Ao46,co46,eo46⟩:=Kd.R_slice HO_7.out
              subst eo46
              go_wp2
              go_meet
              case rel => exact ⟨_,(false),rf,H',⟨by have:=HK1.out; have:=HJ9.out; have:=HK3.out; have:=HJ24.out; have:=HJ31.out; have:=HK6.out; first | omega | exact Nat.le_refl _⟩,⟨rk HO_7⟩,⟨kk BK775⟩,⟨kk BK790⟩,⟨bw HB⟩⟩
             case rest =>
              show (let G_ : Prop:=_; G_)
              intro G_
              exact (let_tmp i_ : Nonempty G_:=(((⟨by
              subst G_
              clear HC43
              obtain ⟨kq,x103_42,rfl,HA,HJ42,HO_7,BK775,BK790,HB⟩:=hcut
              cases kq with
              | zero => exact absurd HA.out (by simp [w11_CaretStays.j6])
              | succ kj42 =>
               have H:=HA.out
               clear HA
               simp only [w11_CaretStays.j6] at H
               by_cases c47 : x103_42 = true; rotate_left
               ·replace c47:=Zf c47
                subst c47
                rw [if_neg nft] at H
                have H':=Zz.k H
                clear H
                go_wp2
                go_roundg kj42
                case measure => have:=HK1.out; have:=HJ9.out; have:=HK3.out; have:=HJ24.out; have:=HJ31.out; have:=HK6.out; have:=HJ42.out; omega
                case rel => exact ⟨(wrap64 (x9_3 + 1)),rf,H',⟨by have:=HK1.out; have:=HJ9.out; have:=HK3.out; have:=HJ24.out; have:=HJ31.out; have:=HK6.out; have:=HJ42.out; omega⟩,⟨rk HO_7⟩,⟨kk BK775⟩,⟨bw HB⟩⟩
               show (let G_ : Prop:=_; G_)
               intro G_
               exact (let_tmp i_ : Nonempty G_:=(((⟨by
               subst G_
               subst c47
               rw [if_pos rfl] at H
               obtain ⟨⟨t795,t796,t797,t798,t799,t800,t801,t802,t805,t806,t807,t808⟩,A48,H⟩:=bE H
               try dsimp only at H
               obtain ⟨t810,A49,H⟩:=bE H
               by_cases c50 : t810 = 0; rotate_left
               ·rw [if_neg c50] at H
                obtain ⟨c50b0,c50b1⟩:=bF c50
                have H':=Zz.k H
                clear H
                go_wp2_with (first | ((with_reducible refine Qab (f:=27) rfl ?_); refine gl (some 114) Tryz.func27 #[.slice A778_0 (Qay l0_0 x3_1).length c778_0, .int .i64 (wrap64 (1 + (Int.tmod x14_6 3))), .int .i64 x14_6, .string (⟨#[117,118]⟩ : ByteArray)] (h := ?_); (with_reducible refine (edit_Insert.calls _ _ (Qay l0_0 x3_1) (wrap64 (1 + (Int.tmod x14_6 3))) x14_6 (⟨#[117,118]⟩ : ByteArray) t795 t796 t797 t798 t799 t800 t801 t802 t805 t806 t807 t808 _ ?side1 ?side2 A48.out).mono ?_); (case side1 => exact cb HR778_0 HB); (case side2 => exact HC778_0.out); rintro e w75 ⟨v803,rfl,ho0,hb⟩; refine ⟨_,rfl, ?_⟩; have HO804:=Zz.k (Kd.R_lower (Kd.R_newB ho0 (kk BK790)) (Qai (bw HB))); replace HO_7:=rb HO_7 hb; replace BK775:=bl BK775 hb; replace BK790:=bl BK790 hb; replace HB:=bs HB hb; clear hb; clear ho0) | ((with_reducible refine Qad (N:=15) rfl ?_); refine bx 15 #[.int .i64 0, .int .i64 0, .int .i64 0, .int .i64 0, .int .i64 0, .int .i64 0, .string (⟨#[]⟩ : ByteArray), .slice none 0 0, .int .i64 0, .int .i64 0, .int .i64 0] 34 (h := ?_); intro gb809 hg w76 hbox hb; have BK809:=Zz.k (hbox); have GW809:=bz HB hg; have GE809:=bz HB hg; have NB775_809:=bn BK775 hg; have NB809_775:=bm BK775 hg; have NB790_809:=bn BK790 hg; have NB809_790:=bm BK790 hg; replace HO_7:=rb HO_7 hb; replace HO804:=rb HO804 hb; replace BK775:=bl BK775 hb; replace BK790:=bl BK790 hb; replace HB:=bs HB hb; clear hb hbox hg; have hnb77:=NB809_775.out; have hnc77:=NB775_809.out; have hnb78:=NB809_790.out; have hnc78:=NB790_809.out; obtain ⟨_,_,_,_,_,_,_,_,_,_,_,_,_,_,_,_,_,_,_,_,_,_⟩:=kc11 BK809; obtain ⟨Ao80,co80,eo80⟩:=Kd.R_slice HO804.out; subst eo80) | ((with_reducible refine Qab (f:=32) rfl ?_); refine gl (some 118) Tryz.func32 #[.int .i64 t808] (h := ?_); (with_reducible refine (w11_num.calls t808 t810 _ A49.out).mono ?_); rintro e w' ⟨rfl,⟨nd,rfl⟩⟩; refine ⟨_,rfl, ?_⟩))
                go_roundg kj42
                case measure => have:=HK1.out; have:=HJ9.out; have:=HK3.out; have:=HJ24.out; have:=HJ31.out; have:=HK6.out; have:=HJ42.out; omega
                case rel => exact ⟨(wrap64 ((wrap64 (x14_6 + 1)) + x3_1)),rf,H',⟨by have:=HK1.out; have:=HJ9.out; have:=HK3.out; have:=HJ24.out; have:=HJ31.out; have:=HK6.out; have:=HJ42.out; omega⟩,⟨by (with_reducible repeat (first | apply Kd.R_alloc | apply Kd.R_drewN | apply Kd.R_drew)); exact Kd.R_mono (rf11 (Kd.R_types HO_7.out BK809.out (by decide))) (fun _ hk => trivial)⟩,⟨kk BK775⟩,⟨kk BK790⟩,⟨bw HB⟩⟩
               show (let G_ : Prop:=_; G_)
               intro G_
               exact (let_tmp i_ : Nonempty G_:=(((⟨by
               subst G_
               rw [if_pos c50] at H
               obtain ⟨c50b0,c50b1⟩:=bT c50
               clear c50
               obtain ⟨t811,A51,H⟩:=bE H
               obtain ⟨y814,hy814⟩ : ∃ y_ : List (SOp),y_ = (([(⟨t795,t796,t797,(⟨t798,t799,t800⟩ : SElem),t801,t802,t805,t806,t807⟩ : SOp)] : List (SOp))):=⟨_,rfl⟩
               first | rw [Option.bind_some,<- hy814] at H | rw [<- hy814] at H
               have Ny814:=Zz.k hy814
               clear hy814
               by_cases c52 : t811.length + y814.length < 1256584717458; rotate_left
               ·rw [if_neg c52] at H
                exact absurd H (by simp)
               show (let G_ : Prop:=_; G_)
               intro G_
               exact (let_tmp i_ : Nonempty G_:=(((⟨by
               subst G_
               rw [if_pos c52] at H
               have LMc52:=Zz.k c52
               clear c52
               obtain ⟨y817,hy817⟩ : ∃ y_ : List (SOp),y_ = (t811 ++ y814):=⟨_,rfl⟩
               first | rw [Option.bind_some,<- hy817] at H | rw [<- hy817] at H
               have Ny817:=Zz.k hy817
               clear hy817
               obtain ⟨⟨t820,t821⟩,A53,H⟩:=bE H
               try dsimp only at H
               have HC54:=Zz.k H
               clear H
               try go_wp2_with (first | ((with_reducible refine Qab (f:=27) rfl ?_); refine gl (some 114) Tryz.func27 #[.slice A778_0 (Qay l0_0 x3_1).length c778_0, .int .i64 (wrap64 (1 + (Int.tmod x14_6 3))), .int .i64 x14_6, .string (⟨#[117,118]⟩ : ByteArray)] (h := ?_); (with_reducible refine (edit_Insert.calls _ _ (Qay l0_0 x3_1) (wrap64 (1 + (Int.tmod x14_6 3))) x14_6 (⟨#[117,118]⟩ : ByteArray) t795 t796 t797 t798 t799 t800 t801 t802 t805 t806 t807 t808 _ ?side1 ?side2 A48.out).mono ?_); (case side1 => exact cb HR778_0 HB); (case side2 => exact HC778_0.out); rintro e w55 ⟨v803,rfl,ho0,hb⟩; refine ⟨_,rfl, ?_⟩; have HO804:=Zz.k (Kd.R_lower (Kd.R_newB ho0 (kk BK790)) (Qai (bw HB))); replace HO_7:=rb HO_7 hb; replace BK775:=bl BK775 hb; replace BK790:=bl BK790 hb; replace HB:=bs HB hb; clear hb; clear ho0) | ((with_reducible refine Qad (N:=15) rfl ?_); refine bx 15 #[.int .i64 0, .int .i64 0, .int .i64 0, .int .i64 0, .int .i64 0, .int .i64 0, .string (⟨#[]⟩ : ByteArray), .slice none 0 0, .int .i64 0, .int .i64 0, .int .i64 0] 34 (h := ?_); intro gb809 hg w56 hbox hb; have BK809:=Zz.k (hbox); have GW809:=bz HB hg; have GE809:=bz HB hg; have NB775_809:=bn BK775 hg; have NB809_775:=bm BK775 hg; have NB790_809:=bn BK790 hg; have NB809_790:=bm BK790 hg; replace HO_7:=rb HO_7 hb; replace HO804:=rb HO804 hb; replace BK775:=bl BK775 hb; replace BK790:=bl BK790 hb; replace HB:=bs HB hb; clear hb hbox hg; have hnb57:=NB809_775.out; have hnc57:=NB775_809.out; have hnb58:=NB809_790.out; have hnc58:=NB790_809.out; obtain ⟨_,_,_,_,_,_,_,_,_,_,_,_,_,_,_,_,_,_,_,_,_,_⟩:=kc11 BK809; obtain ⟨Ao60,co60,eo60⟩:=Kd.R_slice HO804.out; subst eo60) | ((with_reducible refine Qab (f:=32) rfl ?_); refine gl (some 118) Tryz.func32 #[.int .i64 t808] (h := ?_); (with_reducible refine (w11_num.calls t808 t810 _ A49.out).mono ?_); rintro e w' ⟨rfl,⟨nd,rfl⟩⟩; refine ⟨_,rfl, ?_⟩))
               generalize hgz : (((((((((((w56.setCell ⟨gb809,0,none⟩ (.int .i64 t795)).setCell ⟨gb809,1,none⟩ (.int .i64 t796)).setCell ⟨gb809,2,none⟩ (.int .i64 t797)).setCell ⟨gb809,3,none⟩ (.int .i64 t798)).setCell ⟨gb809,4,none⟩ (.int .i64 t799)).setCell ⟨gb809,5,none⟩ (.int .i64 t800)).setCell ⟨gb809,6,none⟩ (.string t801)).setCell ⟨gb809,7,none⟩ (.slice Ao60 t802.length co60)).setCell ⟨gb809,8,none⟩ (.int .i64 t805)).setCell ⟨gb809,9,none⟩ (.int .i64 t806)).setCell ⟨gb809,10,none⟩ (.int .i64 t807)) = w61
               have n0_ : Zz (Kd.R (Kd.int .i32) 21 w61 w.heap.size (fun _ => True) v784 t782):=by rw [<- hgz]; exact ⟨by (with_reducible repeat (first | apply Kd.R_alloc | apply Kd.R_drewN | apply Kd.R_drew)); exact Kd.R_mono (rf11 (Kd.R_types HO_7.out BK809.out (by decide))) (fun _ hk => trivial)⟩
               have n1_ : Zz (Kd.R Qav 32 w61 w.heap.size (fun k_ => k_ ≠ gb790) (.slice Ao60 t802.length co60) t802):=by rw [<- hgz]; exact ⟨by (with_reducible repeat (first | apply Kd.R_alloc | apply Kd.R_drewN | apply Kd.R_drew)); exact Kd.R_mono (rf11 (Kd.R_types HO804.out BK809.out (by decide))) (fun _ hk => hk.1.2)⟩
               have n2_ : Zz (w61.heap[gb775]? = some (.cells #[.slice (some ad778) l0_0.length c0_0, .slice A0_1 l0_1.length c0_1, .slice A0_2 l0_2.length c0_2, .slice A0_3 l0_3.length c0_3] 27 (0,0))):=by rw [<- hgz]; exact ⟨kk BK775⟩
               have n3_ : Zz (w61.heap[gb790]? = some (.cells #[.int .i64 t786, .int .i64 t787, .int .i64 t788] 32 (0,0))):=by rw [<- hgz]; exact ⟨kk BK790⟩
               have n4_ : Zz (w61.heap[gb809]? = some (.cells #[.int .i64 t795, .int .i64 t796, .int .i64 t797, .int .i64 t798, .int .i64 t799, .int .i64 t800, .string t801, .slice Ao60 t802.length co60, .int .i64 t805, .int .i64 t806, .int .i64 t807] 34 (0,0))):=by rw [<- hgz]; exact ⟨bp11 (kk BK809)⟩
               have n5_ : Zz (Below w.heap.size w w61):=by rw [<- hgz]; exact ⟨bw HB⟩
               (try clear HO_7)
               (try clear HO804)
               (try clear BK775)
               (try clear BK790)
               (try clear BK809)
               (try clear HB)
               clear hgz
               have HO_7:=n0_
               have HO804:=n1_
               have BK775:=n2_
               have BK790:=n3_
               have BK809:=n4_
               have HB:=n5_
               clear n0_ n1_ n2_ n3_ n4_ n5_
               (try (rw [drewN_self w61]; generalize hq_ : World.drewN w61 _ = w61; have n0_ : Zz (Kd.R Qav 32 w61 w.heap.size (fun k_ => k_ ≠ gb790) (.slice Ao60 t802.length co60) t802):=⟨by rw [<- hq_]; exact (rk HO804)⟩; have n1_ : Zz (Kd.R (Kd.int .i32) 21 w61 w.heap.size (fun _ => True) v784 t782):=⟨by rw [<- hq_]; exact (rk HO_7)⟩; have n2_ : Zz (w61.heap[gb775]? = some (.cells #[.slice (some ad778) l0_0.length c0_0, .slice A0_1 l0_1.length c0_1, .slice A0_2 l0_2.length c0_2, .slice A0_3 l0_3.length c0_3] 27 (0,0))):=⟨by rw [<- hq_]; exact (kk BK775)⟩; have n3_ : Zz (w61.heap[gb790]? = some (.cells #[.int .i64 t786, .int .i64 t787, .int .i64 t788] 32 (0,0))):=⟨by rw [<- hq_]; exact (kk BK790)⟩; have n4_ : Zz (w61.heap[gb809]? = some (.cells #[.int .i64 t795, .int .i64 t796, .int .i64 t797, .int .i64 t798, .int .i64 t799, .int .i64 t800, .string t801, .slice Ao60 t802.length co60, .int .i64 t805, .int .i64 t806, .int .i64 t807] 34 (0,0))):=⟨by rw [<- hq_]; exact (kk BK809)⟩; have n5_ : Zz (Below w.heap.size w w61):=⟨by rw [<- hq_]; exact (bw HB)⟩; clear HO804 HO_7 BK775 BK790 BK809 HB hq_; have HO804:=n0_; have HO_7:=n1_; have BK775:=n2_; have BK790:=n3_; have BK809:=n4_; have HB:=n5_; clear n0_ n1_ n2_ n3_ n4_ n5_))
               have n0_:=Zz.k (Kd.R_drew HO_7.out)
               have n1_:=Zz.k (Kd.R_drew HO804.out)
               have n2_:=Zz.k (Qat BK775.out)
               have n3_:=Zz.k (Qat BK790.out)
               have n4_:=Zz.k (Qat BK809.out)
               have n5_:=Zz.k (Qaf HB.out)
               clear HO_7
               clear HO804
               clear BK775
               clear BK790
               clear BK809
               clear HB
               have HO_7:=n0_
               have HO804:=n1_
               have BK775:=n2_
               have BK790:=n3_
               have BK809:=n4_
               have HB:=n5_
               clear n0_ n1_ n2_ n3_ n4_ n5_
               refine stP (fun w' => B11 w' gb809 (.int .i64 t795) (.int .i64 t796) (.int .i64 t797) (.int .i64 t798) (.int .i64 t799) (.int .i64 t800) (.string t801) (.slice Ao60 t802.length co60) (.int .i64 t805) (.int .i64 t806) (.int .i64 t807) (E3 w' gb790 (.int .i64 t786) (.int .i64 t787) (.int .i64 t788))) 12 (b11 BK809 (e3 BK790)) (h:=fun hHeld => ?_); refine Qbr w11_CaretStays.tab24 w11_CaretStays.bits24 (fun HT_ HW_ => ?_)
               generalize w61.drew = w62 at HO_7 HO804 BK775 BK790 BK809 HB hHeld ⊢
               refine pu HT_ 0 121 1 (h := ?_)
               refine tk HT_ HW_ hHeld 2 123 5 (h := ?_)
               refine tk HT_ HW_ hHeld 5 126 37 (h := ?_)
               refine join_ (σ:=Value × Value) 7 (bA 12 47) (fun s_ => [(122,s_.1),(124,s_.2)]) (fun s_ w' => (w'.cell? ⟨gb809,0,none⟩ = some (.int .i64 t795) /\ w'.cell? ⟨gb809,1,none⟩ = some (.int .i64 t796) /\ w'.cell? ⟨gb809,2,none⟩ = some (.int .i64 t797) /\ w'.cell? ⟨gb809,3,none⟩ = some (.int .i64 t798) /\ w'.cell? ⟨gb809,4,none⟩ = some (.int .i64 t799) /\ w'.cell? ⟨gb809,5,none⟩ = some (.int .i64 t800) /\ w'.cell? ⟨gb809,6,none⟩ = some (.string t801) /\ w'.cell? ⟨gb809,7,none⟩ = some (.slice Ao60 t802.length co60) /\ w'.cell? ⟨gb809,8,none⟩ = some (.int .i64 t805) /\ w'.cell? ⟨gb809,9,none⟩ = some (.int .i64 t806) /\ w'.cell? ⟨gb809,10,none⟩ = some (.int .i64 t807) /\ w'.cell? ⟨gb790,0,none⟩ = some (.int .i64 t786) /\ w'.cell? ⟨gb790,1,none⟩ = some (.int .i64 t787) /\ w'.cell? ⟨gb790,2,none⟩ = some (.int .i64 t788)) /\ (Kd.N kOp 34 w' w.heap.size (fun k_ => some k_ ≠ (s_.2 : Value).ownBlock /\ some k_ ≠ (v784 : Value).ownBlock /\ k_ ≠ gb775 /\ k_ ≠ gb790 /\ k_ ≠ gb809) s_.1 t811) /\ (Kd.N kOp 34 w' w.heap.size (fun k_ => some k_ ≠ (s_.1 : Value).ownBlock /\ some k_ ≠ (v784 : Value).ownBlock /\ k_ ≠ gb775 /\ k_ ≠ gb790 /\ k_ ≠ gb809) s_.2 y814) /\ (Kd.R (Kd.int .i32) 21 w' w.heap.size (fun _ => True) v784 t782) /\ (w'.heap[gb775]? = some (.cells #[.slice (some ad778) l0_0.length c0_0, .slice A0_1 l0_1.length c0_1, .slice A0_2 l0_2.length c0_2, .slice A0_3 l0_3.length c0_3] 27 (0,0))) /\ (w'.heap[gb790]? = some (.cells #[.int .i64 t786, .int .i64 t787, .int .i64 t788] 32 (0,0))) /\ (w'.heap[gb809]? = some (.cells #[.int .i64 t795, .int .i64 t796, .int .i64 t797, .int .i64 t798, .int .i64 t799, .int .i64 t800, .string t801, .slice Ao60 t802.length co60, .int .i64 t805, .int .i64 t806, .int .i64 t807] 34 (0,0))) /\ (Below w.heap.size w w')) ?_ ?_
               rotate_left
               ·show (let G_ : Prop:=_; G_)
                intro G_
                exact (let_tmp i_ : Nonempty G_:=(((⟨by
                subst G_
                intro hCont
                refine two_ (i:=1) (j:=3) (Ni:=some 122) (Nj:=some 124) (bA 12 39) (bA 12 45) rfl rfl rfl rfl (two_of HT_.out (by kernel_rfl)) (by decide) (by decide) (fun K hK => ?_) (fun K hK => ?_)
                ·show (let G_ : Prop:=_; G_)
                 intro G_
                 exact (let_tmp i_ : Nonempty G_:=(((⟨by
                 subst G_
                 skip
                 refine gS Tryz.func20 #[.slice A778_0 (Qay l0_0 x3_1).length c778_0] (h := ?_)
                 with_reducible refine (r0_CopyOps.calls kj42 _ _ (Qay l0_0 x3_1) t811 _ ?side1 ?side2 A51.out).mono ?_
                 (case side1 => exact cb HR778_0 HB)
                 (case side2 => exact HC778_0.out)
                 rintro e w63 ⟨v812,rfl,ho0,hb⟩
                 refine ⟨_,rfl, ?_⟩
                 have n0_:=rb HO_7 hb
                 have n1_:=rb HO804 hb
                 have n2_:=Zz.k (Kd.N_lower (Kd.N_mono (ok':=fun k_ => some k_ ≠ (v784 : Value).ownBlock /\ some k_ ≠ (.slice Ao60 t802.length co60 : Value).ownBlock /\ k_ ≠ gb775 /\ k_ ≠ gb790 /\ k_ ≠ gb809) (Kd.S_N (Kd.S_bound ho0)) (fun k_ hk_ => ⟨(Kd.fresh' (Kd.R_lt (rk HO_7)) k_ hk_.2.1),(Kd.fresh' (Kd.R_lt (rk HO804)) k_ hk_.2.1),(Kd.freshB (kk BK775) k_ hk_.2.1),(Kd.freshB (kk BK790) k_ hk_.2.1),(Kd.freshB (kk BK809) k_ hk_.2.1)⟩)) (Qai (bw HB)))
                 have n3_:=bl BK775 hb
                 have n4_:=bl BK790 hb
                 have n5_:=bl BK809 hb
                 have n6_:=bs HB hb
                 clear HO_7
                 clear HO804
                 clear BK775
                 clear BK790
                 clear BK809
                 clear HB
                 have HO_7:=n0_
                 have HO804:=n1_
                 have HO813:=n2_
                 have BK775:=n3_
                 have BK790:=n4_
                 have BK809:=n5_
                 have HB:=n6_
                 clear n0_ n1_ n2_ n3_ n4_ n5_ n6_
                 (try clear hb)
                 (try clear hb2)
                 (try clear hk)
                 (try clear hi)
                 (try clear ho0)
                 refine hK.out _ _ (b11 BK809 (e3 BK790)) (fun hHeld => ?_)
                 clear hK K
                 refine nn 122 (h := ?_)
                 refine on HT_ 3 (some 124) 47 (h:=fun K hK => ?_)
                 refine Kd.N_lit_step kOp _ 34 ?hg (N':=124) ?hd (xs:=([(⟨t795,t796,t797,(⟨t798,t799,t800⟩ : SElem),t801,t802,t805,t806,t807⟩ : SOp)] : List (SOp))) (inner:=[.int .i64 t795, .int .i64 t796, .int .i64 t797, .int .i64 t798, .int .i64 t799, .int .i64 t800, .string t801, .slice Ao60 t802.length co60, .int .i64 t805, .int .i64 t806, .int .i64 t807]) (ok:=(fun k_ => some k_ ≠ (v784 : Value).ownBlock /\ some k_ ≠ (v812 : Value).ownBlock /\ k_ ≠ gb775 /\ k_ ≠ gb790 /\ k_ ≠ gb809)) (okp:=(fun k_ => some k_ ≠ (v784 : Value).ownBlock /\ some k_ ≠ (v812 : Value).ownBlock /\ k_ ≠ gb775 /\ k_ ≠ gb790 /\ k_ ≠ gb809)) ?hr ?hp (fun _ hk => hk) ((show ∀ k_,w63.heap.size <= k_ -> (fun k_ => some k_ ≠ (v784 : Value).ownBlock /\ some k_ ≠ (v812 : Value).ownBlock /\ k_ ≠ gb775 /\ k_ ≠ gb790 /\ k_ ≠ gb809) k_ from fun k_ hk => ⟨Kd.fresh' (Kd.R_lt (rk HO_7)) k_ hk,Kd.fresh' (Kd.N_lt (nk HO813)) k_ hk,Kd.freshB (kk BK775) k_ hk,Kd.freshB (kk BK790) k_ hk,Kd.freshB (kk BK809) k_ hk⟩) _ (Nat.le_refl _)) (Below.refl _ _) (Nat.le_refl _) (by simp) ?_; (case hd => rfl); (case hg => rfl); (case hr => first | (go_simp; done) | (go_simp; rfl)); (case hp => exact (Reps.front (show Kd.FK kOp _ _ (⟨t795,t796,t797,(⟨t798,t799,t800⟩ : SElem),t801,t802,t805,t806,t807⟩ : SOp) [.int .i64 t795, .int .i64 t796, .int .i64 t797, .int .i64 t798, .int .i64 t799, .int .i64 t800, .string t801, .slice Ao60 t802.length co60, .int .i64 t805, .int .i64 t806, .int .i64 t807] from (kOp_mkF _ _ (⟨t795,t796,t797,(⟨t798,t799,t800⟩ : SElem),t801,t802,t805,t806,t807⟩ : SOp) (Kd.R_reads' (Kd.R_mono (ok':=(fun k_ => some k_ ≠ (v784 : Value).ownBlock /\ some k_ ≠ (v812 : Value).ownBlock /\ k_ ≠ gb775 /\ k_ ≠ gb790 /\ k_ ≠ gb809)) (Kd.R_types (Kd.R_types (Kd.R_apart' (Kd.R_apart' (HO804.out) (Kd.R_typed HO_7.out) (by decide)) (Kd.N_typed HO813.out) (by decide)) BK775.out (by decide)) BK809.out (by decide)) (fun k_ hk => ⟨hk.1.1.1.2,⟨hk.1.1.2,⟨hk.1.2,⟨hk.1.1.1.1,hk.2⟩⟩⟩⟩))).2.1 (Kd.R_F (Kd.R_mono (ok':=(fun k_ => some k_ ≠ (v784 : Value).ownBlock /\ some k_ ≠ (v812 : Value).ownBlock /\ k_ ≠ gb775 /\ k_ ≠ gb790 /\ k_ ≠ gb809)) (Kd.R_types (Kd.R_types (Kd.R_apart' (Kd.R_apart' (HO804.out) (Kd.R_typed HO_7.out) (by decide)) (Kd.N_typed HO813.out) (by decide)) BK775.out (by decide)) BK809.out (by decide)) (fun k_ hk => ⟨hk.1.1.1.2,⟨hk.1.1.2,⟨hk.1.2,⟨hk.1.1.1.1,hk.2⟩⟩⟩⟩))))) rfl (Reps.none _ _) rfl))
                 intro v815 w64 ho65 hb hg_ hnew_
                 clear hg_ hnew_
                 (first | rw [<- Ny814.out] at ho65 | (simp only [Int.reduceToNat] at ho65; rw [<- Ny814.out] at ho65))
                 have n0_:=rb HO_7 hb
                 have n1_:=Zz.k (Kd.N_elder' (nk HO813) (Kd.N_base ho65) hb)
                 have n2_:=Zz.k (Kd.N_lower ho65 (Qai (bw HB)))
                 have n3_:=bl BK775 hb
                 have n4_:=bl BK790 hb
                 have n5_:=bl BK809 hb
                 have n6_:=bs HB hb
                 clear HO_7
                 clear HO813
                 clear BK775
                 clear BK790
                 clear BK809
                 clear HB
                 clear HO804
                 have HO_7:=n0_
                 have HO813:=n1_
                 have HO816:=n2_
                 have BK775:=n3_
                 have BK790:=n4_
                 have BK809:=n5_
                 have HB:=n6_
                 clear n0_ n1_ n2_ n3_ n4_ n5_ n6_
                 clear hb ho65
                 refine hK.out _ _ (b11 BK809 (e3 BK790)) (fun hHeld => ?_)
                 clear hK K
                 refine nn 124 (h := ?_)
                 exact norm_ (by simp only [putAll,Act.put,List.setIfInBounds_toArray,List.set_cons_zero,List.set_cons_succ]) (hCont (v812,v815) _ ⟨hHeld,(by (with_reducible repeat (first | apply Kd.N_alloc | apply Kd.N_drewN | apply Kd.N_drew)); exact Kd.N_mono HO813.out (fun _ hk => ⟨hk.2,⟨hk.1.1,⟨hk.1.2.2.1,⟨hk.1.2.2.2.1,hk.1.2.2.2.2⟩⟩⟩⟩)),(by (with_reducible repeat (first | apply Kd.N_alloc | apply Kd.N_drewN | apply Kd.N_drew)); exact Kd.N_mono HO816.out (fun _ hk => ⟨hk.2.1,⟨hk.1,⟨hk.2.2.1,⟨hk.2.2.2.1,hk.2.2.2.2⟩⟩⟩⟩)),(rk HO_7),(kk BK775),(kk BK790),(kk BK809),(bw HB)⟩)⟩ : Nonempty G_)) :); w11_CaretStays.bxo (G:=G_) (inferInstanceAs (Nonempty G_)))
                skip
                refine Kd.N_lit_step kOp _ 34 ?hg (N':=124) ?hd (xs:=([(⟨t795,t796,t797,(⟨t798,t799,t800⟩ : SElem),t801,t802,t805,t806,t807⟩ : SOp)] : List (SOp))) (inner:=[.int .i64 t795, .int .i64 t796, .int .i64 t797, .int .i64 t798, .int .i64 t799, .int .i64 t800, .string t801, .slice Ao60 t802.length co60, .int .i64 t805, .int .i64 t806, .int .i64 t807]) (ok:=(fun k_ => some k_ ≠ (v784 : Value).ownBlock /\ k_ ≠ gb775 /\ k_ ≠ gb790 /\ k_ ≠ gb809)) (okp:=(fun k_ => some k_ ≠ (v784 : Value).ownBlock /\ k_ ≠ gb775 /\ k_ ≠ gb790 /\ k_ ≠ gb809)) ?hr ?hp (fun _ hk => hk) ((show ∀ k_,w62.heap.size <= k_ -> (fun k_ => some k_ ≠ (v784 : Value).ownBlock /\ k_ ≠ gb775 /\ k_ ≠ gb790 /\ k_ ≠ gb809) k_ from fun k_ hk => ⟨Kd.fresh' (Kd.R_lt (rk HO_7)) k_ hk,Kd.freshB (kk BK775) k_ hk,Kd.freshB (kk BK790) k_ hk,Kd.freshB (kk BK809) k_ hk⟩) _ (Nat.le_refl _)) (Below.refl _ _) (Nat.le_refl _) (by simp) ?_; (case hd => rfl); (case hg => rfl); (case hr => first | (go_simp; done) | (go_simp; rfl)); (case hp => exact (Reps.front (show Kd.FK kOp _ _ (⟨t795,t796,t797,(⟨t798,t799,t800⟩ : SElem),t801,t802,t805,t806,t807⟩ : SOp) [.int .i64 t795, .int .i64 t796, .int .i64 t797, .int .i64 t798, .int .i64 t799, .int .i64 t800, .string t801, .slice Ao60 t802.length co60, .int .i64 t805, .int .i64 t806, .int .i64 t807] from (kOp_mkF _ _ (⟨t795,t796,t797,(⟨t798,t799,t800⟩ : SElem),t801,t802,t805,t806,t807⟩ : SOp) (Kd.R_reads' (Kd.R_mono (ok':=(fun k_ => some k_ ≠ (v784 : Value).ownBlock /\ k_ ≠ gb775 /\ k_ ≠ gb790 /\ k_ ≠ gb809)) (Kd.R_types (Kd.R_types (Kd.R_apart' (HO804.out) (Kd.R_typed HO_7.out) (by decide)) BK775.out (by decide)) BK809.out (by decide)) (fun k_ hk => ⟨hk.1.1.2,⟨hk.1.2,⟨hk.1.1.1,hk.2⟩⟩⟩))).2.1 (Kd.R_F (Kd.R_mono (ok':=(fun k_ => some k_ ≠ (v784 : Value).ownBlock /\ k_ ≠ gb775 /\ k_ ≠ gb790 /\ k_ ≠ gb809)) (Kd.R_types (Kd.R_types (Kd.R_apart' (HO804.out) (Kd.R_typed HO_7.out) (by decide)) BK775.out (by decide)) BK809.out (by decide)) (fun k_ hk => ⟨hk.1.1.2,⟨hk.1.2,⟨hk.1.1.1,hk.2⟩⟩⟩))))) rfl (Reps.none _ _) rfl))
                intro v815 w63 ho64 hb hg_ hnew_
                clear hg_ hnew_
                (first | rw [<- Ny814.out] at ho64 | (simp only [Int.reduceToNat] at ho64; rw [<- Ny814.out] at ho64))
                have n0_:=rb HO_7 hb
                have n1_:=Zz.k (Kd.N_lower ho64 (Qai (bw HB)))
                have n2_:=bl BK775 hb
                have n3_:=bl BK790 hb
                have n4_:=bl BK809 hb
                have n5_:=bs HB hb
                clear HO_7
                clear BK775
                clear BK790
                clear BK809
                clear HB
                clear HO804
                have HO_7:=n0_
                have HO816:=n1_
                have BK775:=n2_
                have BK790:=n3_
                have BK809:=n4_
                have HB:=n5_
                clear n0_ n1_ n2_ n3_ n4_ n5_
                clear hb ho64
                refine hK.out _ _ (b11 BK809 (e3 BK790)) (fun hHeld => ?_)
                clear hK K
                refine nn 124 (h := ?_)
                refine on HT_ 1 (some 122) 47 (h:=fun K hK => ?_)
                refine gS Tryz.func20 #[.slice A778_0 (Qay l0_0 x3_1).length c778_0] (h := ?_)
                with_reducible refine (r0_CopyOps.calls kj42 _ _ (Qay l0_0 x3_1) t811 _ ?side1 ?side2 A51.out).mono ?_
                (case side1 => exact cb HR778_0 HB)
                (case side2 => exact HC778_0.out)
                rintro e w65 ⟨v812,rfl,ho0,hb⟩
                refine ⟨_,rfl, ?_⟩
                have n0_:=rb HO_7 hb
                have n1_:=Zz.k (Kd.N_elder' (nk HO816) (Kd.N_base (Kd.S_N ho0)) hb)
                have n2_:=Zz.k (Kd.N_lower (Kd.N_mono (ok':=fun k_ => some k_ ≠ (v784 : Value).ownBlock /\ some k_ ≠ (v815 : Value).ownBlock /\ k_ ≠ gb775 /\ k_ ≠ gb790 /\ k_ ≠ gb809) (Kd.S_N (Kd.S_bound ho0)) (fun k_ hk_ => ⟨(Kd.fresh' (Kd.R_lt (rk HO_7)) k_ hk_.2.1),(Kd.fresh' (Kd.N_lt (nk HO816)) k_ hk_.2.1),(Kd.freshB (kk BK775) k_ hk_.2.1),(Kd.freshB (kk BK790) k_ hk_.2.1),(Kd.freshB (kk BK809) k_ hk_.2.1)⟩)) (Qai (bw HB)))
                have n3_:=bl BK775 hb
                have n4_:=bl BK790 hb
                have n5_:=bl BK809 hb
                have n6_:=bs HB hb
                clear HO_7
                clear HO816
                clear BK775
                clear BK790
                clear BK809
                clear HB
                have HO_7:=n0_
                have HO816:=n1_
                have HO813:=n2_
                have BK775:=n3_
                have BK790:=n4_
                have BK809:=n5_
                have HB:=n6_
                clear n0_ n1_ n2_ n3_ n4_ n5_ n6_
                (try clear hb)
                (try clear hb2)
                (try clear hk)
                (try clear hi)
                (try clear ho0)
                refine hK.out _ _ (b11 BK809 (e3 BK790)) (fun hHeld => ?_)
                clear hK K
                refine nn 122 (h := ?_)
                exact norm_ (by simp only [putAll,Act.put,List.setIfInBounds_toArray,List.set_cons_zero,List.set_cons_succ]) (hCont (v812,v815) _ ⟨hHeld,(by (with_reducible repeat (first | apply Kd.N_alloc | apply Kd.N_drewN | apply Kd.N_drew)); exact Kd.N_mono HO813.out (fun _ hk => ⟨hk.2.1,⟨hk.1,⟨hk.2.2.1,⟨hk.2.2.2.1,hk.2.2.2.2⟩⟩⟩⟩)),(by (with_reducible repeat (first | apply Kd.N_alloc | apply Kd.N_drewN | apply Kd.N_drew)); exact Kd.N_mono HO816.out (fun _ hk => ⟨hk.2,⟨hk.1.1,⟨hk.1.2.1,⟨hk.1.2.2.1,hk.1.2.2.2⟩⟩⟩⟩)),(rk HO_7),(kk BK775),(kk BK790),(kk BK809),(bw HB)⟩)⟩ : Nonempty G_)) :); w11_CaretStays.bxo (G:=G_) (inferInstanceAs (Nonempty G_)))
               rintro ⟨v812,v815⟩ w66 ⟨hS_,h0_,h1_,h2_,h3_,h4_,h5_,h6_⟩
               have n0_ : Zz (Kd.N kOp 34 w66 w.heap.size (fun k_ => some k_ ≠ (v815 : Value).ownBlock /\ some k_ ≠ (v784 : Value).ownBlock /\ k_ ≠ gb775 /\ k_ ≠ gb790 /\ k_ ≠ gb809) v812 t811):=⟨h0_⟩
               have n1_ : Zz (Kd.N kOp 34 w66 w.heap.size (fun k_ => some k_ ≠ (v812 : Value).ownBlock /\ some k_ ≠ (v784 : Value).ownBlock /\ k_ ≠ gb775 /\ k_ ≠ gb790 /\ k_ ≠ gb809) v815 y814):=⟨h1_⟩
               have n2_ : Zz (Kd.R (Kd.int .i32) 21 w66 w.heap.size (fun _ => True) v784 t782):=⟨h2_⟩
               have n3_ : Zz (w66.heap[gb775]? = some (.cells #[.slice (some ad778) l0_0.length c0_0, .slice A0_1 l0_1.length c0_1, .slice A0_2 l0_2.length c0_2, .slice A0_3 l0_3.length c0_3] 27 (0,0))):=⟨h3_⟩
               have n4_ : Zz (w66.heap[gb790]? = some (.cells #[.int .i64 t786, .int .i64 t787, .int .i64 t788] 32 (0,0))):=⟨h4_⟩
               have n5_ : Zz (w66.heap[gb809]? = some (.cells #[.int .i64 t795, .int .i64 t796, .int .i64 t797, .int .i64 t798, .int .i64 t799, .int .i64 t800, .string t801, .slice Ao60 t802.length co60, .int .i64 t805, .int .i64 t806, .int .i64 t807] 34 (0,0))):=⟨h5_⟩
               have n6_ : Zz (Below w.heap.size w w66):=⟨h6_⟩
               clear HO_7
               clear HO804
               clear BK775
               clear BK790
               clear BK809
               clear HB
               clear h0_ h1_ h2_ h3_ h4_ h5_ h6_
               have HO813:=n0_
               have HO816:=n1_
               have HO_7:=n2_
               have BK775:=n3_
               have BK790:=n4_
               have BK809:=n5_
               have HB:=n6_
               clear n0_ n1_ n2_ n3_ n4_ n5_ n6_
               have hHeld : w66.cell? ⟨gb809,0,none⟩ = some (.int .i64 t795) /\ w66.cell? ⟨gb809,1,none⟩ = some (.int .i64 t796) /\ w66.cell? ⟨gb809,2,none⟩ = some (.int .i64 t797) /\ w66.cell? ⟨gb809,3,none⟩ = some (.int .i64 t798) /\ w66.cell? ⟨gb809,4,none⟩ = some (.int .i64 t799) /\ w66.cell? ⟨gb809,5,none⟩ = some (.int .i64 t800) /\ w66.cell? ⟨gb809,6,none⟩ = some (.string t801) /\ w66.cell? ⟨gb809,7,none⟩ = some (.slice Ao60 t802.length co60) /\ w66.cell? ⟨gb809,8,none⟩ = some (.int .i64 t805) /\ w66.cell? ⟨gb809,9,none⟩ = some (.int .i64 t806) /\ w66.cell? ⟨gb809,10,none⟩ = some (.int .i64 t807) /\ w66.cell? ⟨gb790,0,none⟩ = some (.int .i64 t786) /\ w66.cell? ⟨gb790,1,none⟩ = some (.int .i64 t787) /\ w66.cell? ⟨gb790,2,none⟩ = some (.int .i64 t788):=hS_
               obtain ⟨Ao68,co68,eo68⟩:=Kd.N_slice HO816.out
               (first | subst eo68 | (injection eo68 with f1_ f2_ f3_; have f4_:=f1_.symm; have f5_:=f3_.symm; clear f1_ f2_ f3_; subst f4_; subst f5_))
               refine norm_ (a' := ?_) ?_ ?_
               rotate_left
               ·simp only [putAll,Act.put,List.setIfInBounds_toArray,List.set_cons_zero,List.set_cons_succ]
                rfl
               refine on HT_ 4 (some 125) 63 (h:=fun K hK => ?_)
               refine Kd.N_append_rows_step kOp (w0:=w) w.heap.size (by rfl) (.tmp 122) (.tmp 124) 24 34 (.agg #[(.int .i64 0),(.int .i64 0),(.int .i64 0),(.int .i64 0),(.int .i64 0),(.int .i64 0),(.string ⟨#[]⟩),(.slice none 0 0),(.int .i64 0),(.int .i64 0),(.int .i64 0)]) 112 rfl Tryz.underlying24 info34 rfl (by decide) (by omega) v812 t811 y814 _ _ _ (fun k_ => some k_ ≠ (v784 : Value).ownBlock /\ k_ ≠ gb775 /\ k_ ≠ gb790 /\ k_ ≠ gb809) (fun k_ => ((fun k_ => some k_ ≠ (v784 : Value).ownBlock /\ k_ ≠ gb775 /\ k_ ≠ gb790 /\ k_ ≠ gb809)) k_ /\ some k_ ≠ (v812 : Value).ownBlock) rfl rfl ?aO ?aR (fun _ hk => hk) ?aF ?aB ?aS ?aL ?_
               (case aR => exact (by skip; exact Kd.N_F (Kd.N_mono (ok':=(fun k_ => ((fun k_ => some k_ ≠ (v784 : Value).ownBlock /\ k_ ≠ gb775 /\ k_ ≠ gb790 /\ k_ ≠ gb809)) k_ /\ some k_ ≠ (v812 : Value).ownBlock)) (HO816.out) (fun k_ hk => ⟨⟨hk.2.1,⟨hk.2.2.1,⟨hk.2.2.2.1,hk.2.2.2.2⟩⟩⟩,hk.1⟩))))
               (case aB => exact (bw HB))
               (case aF => exact (fun k_ hk => ⟨Kd.fresh' (Kd.R_lt (rk HO_7)) k_ hk,Kd.freshB (kk BK775) k_ hk,Kd.freshB (kk BK790) k_ hk,Kd.freshB (kk BK809) k_ hk⟩))
               (case aO => exact (by (with_reducible repeat (first | apply Kd.N_alloc | apply Kd.N_drewN | apply Kd.N_drew)); exact Kd.N_mono HO813.out (fun _ hk => ⟨hk.2.1,⟨hk.2.2.1,⟨hk.2.2.2.1,hk.2.2.2.2⟩⟩⟩)))
               (case aS => exact (Qai (bw HB)))
               (case aL => have:=LMc52.out; omega)
               intro v818 w67 ho hb hg hat
               rw [<- Ny817.out] at ho
               have n0_:=Zz.k (Kd.R_over' (rk HO_7) (Kd.N_typed (nk HO813)) (by decide) hg)
               have n1_:=Zz.k (Qdc (kk BK775) hg (Kd.N_ne HO813.out BK775.out (by decide)))
               have n2_:=Zz.k (Qdc (kk BK790) hg (Kd.N_ne HO813.out BK790.out (by decide)))
               have n3_:=Zz.k (Qdc (kk BK809) hg (Kd.N_away HO813.out (fun _ hk => hk.2.2.2.2)))
               have n4_:=Zz.k (Kd.N_afterv (ok:=(fun k_ => some k_ ≠ (v784 : Value).ownBlock /\ k_ ≠ gb775 /\ k_ ≠ gb790 /\ k_ ≠ gb809)) (by (with_reducible repeat (first | apply Kd.N_alloc | apply Kd.N_drewN | apply Kd.N_drew)); exact Kd.N_mono HO816.out (fun _ hk => ⟨⟨hk.2.1,⟨hk.2.2.1,⟨hk.2.2.2.1,hk.2.2.2.2⟩⟩⟩,hk.1⟩)) hg hat)
               have n5_:=Zz.k (hb)
               have n6_:=Zz.k (ho)
               clear HO_7
               clear BK775
               clear BK790
               clear BK809
               clear HO816
               clear HB
               clear HO813
               have HO_7:=n0_
               have BK775:=n1_
               have BK790:=n2_
               have BK809:=n3_
               have HO816:=n4_
               have HB:=n5_
               have HO819:=n6_
               clear n0_ n1_ n2_ n3_ n4_ n5_ n6_
               clear ho hb hg hat
               obtain ⟨Ao69,co69,eo69⟩:=Kd.N_slice HO819.out
               (first | subst eo69 | (injection eo69 with f1_ f2_ f3_; have f4_:=f1_.symm; have f5_:=f3_.symm; clear f1_ f2_ f3_; subst f4_; subst f5_))
               refine hK.out _ _ (b11 BK809 (e3 BK790)) (fun hHeld => ?_)
               clear hK K
               refine nn 125 (h := ?_)
               refine on HT_ 6 (some 127) 127 (h:=fun K hK => ?_)
               refine gS Tryz.func34 #[.slice Ao69 y817.length co69, .agg #[.int .i64 t786, .int .i64 t787, .int .i64 t788]] (h := ?_)
               with_reducible refine (caret_Place.calls _ _ y817 t786 t787 t788 t820 t821 _ ?side1 ?side2 A53.out).mono ?_
               (case side1 => exact cn HO819)
               (case side2 => exact (Kd.N_reads' HO819.out).2.1)
               rintro e w70 ⟨rfl,hb⟩
               refine ⟨_,rfl, ?_⟩
               have n0_:=rb HO_7 hb
               have n1_:=nb HO816 hb
               have n2_:=nb HO819 hb
               have n3_:=bl BK775 hb
               have n4_:=bl BK790 hb
               have n5_:=bl BK809 hb
               have n6_:=bs HB hb
               clear HO_7
               clear HO816
               clear HO819
               clear BK775
               clear BK790
               clear BK809
               clear HB
               have HO_7:=n0_
               have HO816:=n1_
               have HO819:=n2_
               have BK775:=n3_
               have BK790:=n4_
               have BK809:=n5_
               have HB:=n6_
               clear n0_ n1_ n2_ n3_ n4_ n5_ n6_
               (try clear hb)
               (try clear hb2)
               (try clear hk)
               (try clear hi)
               refine hK.out _ _ (b11 BK809 (e3 BK790)) (fun hHeld => ?_)
               clear hK K
               refine nn 127 (h := ?_)
               refine pu HT_ 7 120 255 (h := ?_)
               refine pu HT_ 8 128 511 (h := ?_)
               refine pu HT_ 9 129 1023 (h := ?_)
               refine pu HT_ 10 17 2047 (h := ?_)
               refine pu HT_ 11 18 4095 (h := ?_)
               refine dn HT_ (h := ?_)
               go_upto_if 133 with (fail)
               go_cut [19] (fun v19 wc => ∃ (kq : Nat) (x19_53 : Int),v19 = .int .i64 x19_53 /\ Zz (w11_CaretStays.j7 kq x3_1 (Qay l0_0 x3_1) t782 x9_3 x14_6 t820 t821 x19_53 l0_0 l0_1 l0_2 l0_3 t786 t787 t788 = some r) /\ Zz (kq <= kj42) /\ Zz (Kd.R (Kd.int .i32) 21 wc w.heap.size (fun _ => True) v784 t782) /\ Zz (wc.heap[gb775]? = some (.cells #[(.slice (some ad778) l0_0.length c0_0),(.slice A0_1 l0_1.length c0_1),(.slice A0_2 l0_2.length c0_2),(.slice A0_3 l0_3.length c0_3)] 27 (0,0))) /\ Zz (wc.heap[gb790]? = some (.cells #[.int .i64 t786, .int .i64 t787, .int .i64 t788] 32 (0,0))) /\ Zz (wc.heap[gb809]? = some (.cells #[.int .i64 t795, .int .i64 t796, .int .i64 t797, .int .i64 t798, .int .i64 t799, .int .i64 t800, .string t801,(.slice Ao60 t802.length co60), .int .i64 t805, .int .i64 t806, .int .i64 t807] 34 (0,0))) /\ Zz (Below w.heap.size w wc))
               case first =>
                have H:=HC54.out
                clear HC54
                by_cases c71 : x14_6 < x9_3
                ·show (let G_ : Prop:=_; G_)
                 intro G_
                 exact (let_tmp i_ : Nonempty G_:=(((⟨by
                 subst G_
                 rw [if_pos c71] at H
                 have c71b0:=Zd c71
                 clear c71
                 (first | rw [c71b0] | (simp only [i64_w,i32_w]; rw [c71b0]) | skip)
                 have H':=Zz.k H
                 clear H
                 go_wp2
                 go_meet
                 case rel => exact ⟨_,(wrap64 (x9_3 + 2)),rf,H',⟨by have:=HK1.out; have:=HJ9.out; have:=HK3.out; have:=HJ24.out; have:=HJ31.out; have:=HK6.out; have:=HJ42.out; first | omega | exact Nat.le_refl _⟩,⟨rk HO_7⟩,⟨kk BK775⟩,⟨kk BK790⟩,⟨kk BK809⟩,⟨bw HB⟩⟩⟩ : Nonempty G_)) :); w11_CaretStays.bxo (G:=G_) (inferInstanceAs (Nonempty G_)))
                rw [if_neg c71] at H
                have c71b0:=Ze c71
                clear c71
                (first | rw [c71b0] | (simp only [i64_w,i32_w]; rw [c71b0]) | skip)
                have H':=Zz.k H
                clear H
                go_wp2
                go_meet
                case rel => exact ⟨_,(x9_3),rf,H',⟨by have:=HK1.out; have:=HJ9.out; have:=HK3.out; have:=HJ24.out; have:=HJ31.out; have:=HK6.out; have:=HJ42.out; first | omega | exact Nat.le_refl _⟩,⟨rk HO_7⟩,⟨kk BK775⟩,⟨kk BK790⟩,⟨kk BK809⟩,⟨bw HB⟩⟩
               case rest =>
                show (let G_ : Prop:=_; G_)
                intro G_
                exact (let_tmp i_ : Nonempty G_:=(((⟨by
                subst G_
                clear HC54
                try clear c47; try clear c50b0; try clear c50b1
                obtain ⟨kq,x19_53,rfl,HA,HJ53,HO_7,BK775,BK790,BK809,HB⟩:=hcut
                cases kq with
                | zero => exact absurd HA.out (by simp [w11_CaretStays.j7])
                | succ kj53 =>
                 have H:=HA.out
                 clear HA
                 simp only [w11_CaretStays.j7] at H
                 obtain ⟨t822,A72,H⟩:=bE H
                 by_cases c73 : t822 = 0; rotate_left
                 ·rw [if_neg c73] at H
                  obtain ⟨c73b0,c73b1⟩:=bF c73
                  obtain rfl:=Zo H
                  go_wp2_with (first | ((with_reducible refine Qab (f:=32) rfl ?_); refine gl (some 137) Tryz.func32 #[.int .i64 t821] (h := ?_); (with_reducible refine (w11_num.calls t821 t822 _ A72.out).mono ?_); rintro e w' ⟨rfl,⟨nd,rfl⟩⟩; refine ⟨_,rfl, ?_⟩))
                  go_ret
                  exact ⟨re,bw HB⟩
                 show (let G_ : Prop:=_; G_)
                 intro G_
                 exact (let_tmp i_ : Nonempty G_:=(((⟨by
                 subst G_
                 rw [if_pos c73] at H
                 obtain ⟨c73b0,c73b1⟩:=bT c73
                 clear c73
                 by_cases c74 : t820 = x19_53; rotate_left
                 ·rw [if_neg c74] at H
                  obtain ⟨c74b0,c74b1⟩:=bF c74
                  obtain rfl:=Zo H
                  go_wp2_with (first | ((with_reducible refine Qab (f:=32) rfl ?_); refine gl (some 137) Tryz.func32 #[.int .i64 t821] (h := ?_); (with_reducible refine (w11_num.calls t821 t822 _ A72.out).mono ?_); rintro e w' ⟨rfl,⟨nd,rfl⟩⟩; refine ⟨_,rfl, ?_⟩))
                  go_ret
                  exact ⟨re,bw HB⟩
                 show (let G_ : Prop:=_; G_)
                 intro G_
                 exact (let_tmp i_ : Nonempty G_:=(((⟨by
                 subst G_
                 rw [if_pos c74] at H
                 obtain ⟨c74b0,c74b1⟩:=bT c74
                 clear c74
                 have H':=Zz.k H
                 clear H
                 go_wp2_with (first | ((with_reducible refine Qab (f:=32) rfl ?_); refine gl (some 137) Tryz.func32 #[.int .i64 t821] (h := ?_); (with_reducible refine (w11_num.calls t821 t822 _ A72.out).mono ?_); rintro e w' ⟨rfl,⟨nd,rfl⟩⟩; refine ⟨_,rfl, ?_⟩))
                 go_roundg kj53
                 case measure => have:=HK1.out; have:=HJ9.out; have:=HK3.out; have:=HJ24.out; have:=HJ31.out; have:=HK6.out; have:=HJ42.out; have:=HJ53.out; omega
                 case rel => exact ⟨(wrap64 ((wrap64 (x14_6 + 1)) + x3_1)),rf,H',⟨by have:=HK1.out; have:=HJ9.out; have:=HK3.out; have:=HJ24.out; have:=HJ31.out; have:=HK6.out; have:=HJ42.out; have:=HJ53.out; omega⟩,⟨rk HO_7⟩,⟨kk BK775⟩,⟨kk BK790⟩,⟨bw HB⟩⟩⟩ : Nonempty G_)) :); w11_CaretStays.bxo (G:=G_) (inferInstanceAs (Nonempty G_)))⟩ : Nonempty G_)) :); w11_CaretStays.bxo (G:=G_) (inferInstanceAs (Nonempty G_)))⟩ : Nonempty G_)) :); w11_CaretStays.bxo (G:=G_) (inferInstanceAs (Nonempty G_)))⟩ : Nonempty G_)) :); w11_CaretStays.bxo (G:=G_) (inferInstanceAs (Nonempty G_)))⟩ : Nonempty G_)) :); w11_CaretStays.bxo (G:=G_) (inferInstanceAs (Nonempty G_)))⟩ : Nonempty G_)) :); w11_CaretStays.bxo (G:=G_) (inferInstanceAs (Nonempty G_)))⟩ : Nonempty G_)) :); w11_CaretStays.bxo (G:=G_) (inferInstanceAs (Nonempty G_)))⟩ : Nonempty G_)) :); w11_CaretStays.bxo (G:=G_) (inferInstanceAs (Nonempty G_)))⟩ : Nonempty G_)) :); w11_CaretStays.bxo (G:=G_) (inferInstanceAs (Nonempty G_)))⟩ : Nonempty G_)) :); w11_CaretStays.bxo (G:=G_) (inferInstanceAs (Nonempty G_)))⟩ : Nonempty G_)) :); w11_CaretStays.bxo (G:=G_) (inferInstanceAs (Nonempty G_)))⟩ : Nonempty G_)) :); w11_CaretStays.bxo (G:=G_) (inferInstanceAs (Nonempty G_)))⟩ : Nonempty G_)) :); w11_CaretStays.bxo (G:=G_) (inferInstanceAs (Nonempty G_)))⟩ : Nonempty G_)) :); w11_CaretStays.bxo (G:=G_) (inferInstanceAs (Nonempty G_)))⟩ : Nonempty G_)) :); w11_CaretStays.bxo (G:=G_) (inferInstanceAs (Nonempty G_)))⟩ : Nonempty G_)) :); w11_CaretStays.bxo (G:=G_) (inferInstanceAs (Nonempty G_)))⟩ : Nonempty G_)) :); w11_CaretStays.bxo (G:=G_) (inferInstanceAs (Nonempty G_)))⟩ : Nonempty G_)) :); w11_CaretStays.bxo (G:=G_) (inferInstanceAs (Nonempty G_)))⟩ : Nonempty G_)) :); w11_CaretStays.bxo (G:=G_) (inferInstanceAs (Nonempty G_)))
end
section
section
variable {P : Program} {ops : Array Oper} {rest : List Oper} {o : Oper} {a : Act} {Q : Exit -> Act -> World -> Prop}
end
def w7_wakes.f : Option Bool:=some true
end
section
theorem repV_cases (L : List SOp) (s a n : Int) (t : ByteArray) : (∃ o c,c ≠ 0 /\ repV L s a n t = (o,c)) \/ (0 <= a /\ a <= ((Qak L).length : Int) /\ 0 <= n /\ n <= ((Qak L).length : Int) - a /\ repV L s a n t = (repO L s a.toNat n.toNat t,0)):=by
 unfold repV
 by_cases h1 : badB L s t = true
 ·rw [if_pos h1]; exact .inl ⟨_,1,by decide,rfl⟩
 ·rw [if_neg h1]
  by_cases h2 : limB L a n t
  ·rw [if_pos h2]; exact .inl ⟨_,2,by decide,rfl⟩
  ·rw [if_neg h2]
   by_cases h3 : n = 0 /\ t.toList.isEmpty = true
   ·rw [if_pos h3]; exact .inl ⟨_,3,by decide,rfl⟩
   ·rw [if_neg h3]
    by_cases h4 : mayB (L ++ [repO L s a.toNat n.toNat t]) = true
    ·rw [if_pos h4]
     unfold limB at h2
     exact .inr ⟨by omega,by omega,by omega,by omega,rfl⟩
    ·rw [if_neg h4]; exact .inl ⟨_,6,by decide,rfl⟩
theorem rep_f {L : List SOp} (hs : smalls L = true) (s a n : Int) {t : ByteArray} (ht : t.size <= 1000000) {o : SOp} {c : Int} (h : repV L s a n t = (o,c)) : edit_Replace.f L s a n t = some (o.f0,o.f1,o.f2,o.f3.f0,o.f3.f1,o.f3.f2,o.f4,o.f5,o.f6,o.f7,o.f8,c):=by
 unfold edit_Replace.f
 rw [if_pos ⟨hs,ht⟩,h]
theorem ins_f {L : List SOp} (hs : smalls L = true) (s a : Int) {t : ByteArray} (ht : t.size <= 1000000) {o : SOp} {c : Int} (h : repV L s a 0 t = (o,c)) : edit_Insert.f L s a t = some (o.f0,o.f1,o.f2,o.f3.f0,o.f3.f1,o.f3.f2,o.f4,o.f5,o.f6,o.f7,o.f8,c):=by
 unfold edit_Insert.f
 rw [rep_f hs s a 0 ht h]; rfl
theorem repV_ok {L : List SOp} {s a n : Int} {t : ByteArray} {o : SOp} (h : repV L s a n t = (o,0)) : mayB L = true /\ mayB (L ++ [repO L s a.toNat n.toNat t]) = true /\ o = repO L s a.toNat n.toNat t /\ 0 <= a /\ a <= ((Qak L).length : Int) /\ 0 <= n /\ n <= ((Qak L).length : Int) - a:=by
 unfold repV at h
 by_cases h1 : badB L s t = true
 ·rw [if_pos h1] at h; exact absurd (Prod.mk.inj h).2 (by decide)
 ·rw [if_neg h1] at h
  by_cases h2 : limB L a n t
  ·rw [if_pos h2] at h; exact absurd (Prod.mk.inj h).2 (by decide)
  ·rw [if_neg h2] at h
   by_cases h3 : n = 0 /\ t.toList.isEmpty = true
   ·rw [if_pos h3] at h; exact absurd (Prod.mk.inj h).2 (by decide)
   ·rw [if_neg h3] at h
    by_cases h4 : mayB (L ++ [repO L s a.toNat n.toNat t]) = true
    ·rw [if_pos h4] at h
     have hm : mayB L = true:=(Qbf L).2 ((Qbf _).1 h4).snoc_inv.1
     unfold limB at h2
     exact ⟨hm,h4,(Prod.mk.inj h).1.symm,by omega,by omega,by omega,by omega⟩
    ·rw [if_neg h4] at h; exact absurd (Prod.mk.inj h).2 (by decide)
end
section
theorem runesBytes_from (ns : List Int) : ∀ s : ByteArray,ns.foldl (fun r n => r ++ Utf8.encode n) s = s ++ runesBytes ns:=by
 induction ns with
 | nil => intro s; show s = s ++ ByteArray.empty; exact ByteArray.append_empty.symm
 | cons n ns ih =>
  intro s
  unfold runesBytes
  rw [List.foldl_cons,List.foldl_cons,ih,ih,ByteArray.empty_append,ByteArray.append_assoc]
theorem runesBytes_app (a b : List Int) : runesBytes (a ++ b) = runesBytes a ++ runesBytes b:=by
 rw [<- runesBytes_from b (runesBytes a)]; unfold runesBytes; rw [List.foldl_append]
theorem runesBytes_one (r : Int) : runesBytes [r] = Utf8.encode r:=by
 unfold runesBytes; rw [List.foldl_cons,List.foldl_nil,ByteArray.empty_append]
end
section
theorem runeOk_valid {r : Int} (h : Qcr r = true) : (0 <= r /\ r <= 55295) \/ (57344 <= r /\ r <= 1114111):=by
 unfold Qcr at h
 simp only [Bool.or_eq_true,Bool.and_eq_true,beq_iff_eq,decide_eq_true_eq] at h
 omega
theorem valid_of {r : Int} (h : (0 <= r /\ r <= 55295) \/ (57344 <= r /\ r <= 1114111)) : Utf8.valid r = true:=by
 unfold Utf8.valid
 simp only [Bool.or_eq_true,Bool.and_eq_true,decide_eq_true_eq]
 omega
theorem get_mid (A E B : ByteArray) {k : Nat} (hk : k < E.size) : (A ++ E ++ B).get! (A.size + k) = E.get! k:=by
 show (A ++ E ++ B).data[A.data.size + k]! = E.data[k]!
 have h2 : k < E.data.size:=hk
 rw [ByteArray.data_append,ByteArray.data_append,getElem!_pos (A.data ++ E.data ++ B.data) _ (by simp; omega),getElem!_pos E.data _ h2,Array.getElem_append_left (by simp; omega),Array.getElem_append_right (by omega)]
 congr 1; omega
theorem size_mid (A E B : ByteArray) : (A ++ E ++ B).size = A.size + E.size + B.size:=by
 show (A ++ E ++ B).data.size = A.data.size + E.data.size + B.data.size
 rw [ByteArray.data_append,ByteArray.data_append]; simp [Nat.add_assoc]
theorem b_nat {n : Nat} (h : n < 256) : (UInt8.ofNat n).toNat = n:=by simp [UInt8.toNat_ofNat']; omega
theorem dec_enc (A B : ByteArray) {r : Int} (h : Qcr r = true) : Utf8.decode (A ++ Utf8.encode r ++ B) A.size = (r.toNat,(Utf8.encode r).size):=by
 have hv:=runeOk_valid h
 have hval:=valid_of hv
 obtain ⟨c,rfl⟩ : ∃ c : Nat,r = (c : Int):=⟨r.toNat,by omega⟩
 have hE : Utf8.encode (c : Int) = if c < 0x80 then ⟨#[UInt8.ofNat c]⟩ else if c < 0x800 then ⟨#[UInt8.ofNat (0xC0 + c / 64),UInt8.ofNat (0x80 + c % 64)]⟩ else if c < 0x10000 then ⟨#[UInt8.ofNat (0xE0 + c / 4096),UInt8.ofNat (0x80 + c / 64 % 64),UInt8.ofNat (0x80 + c % 64)]⟩ else ⟨#[UInt8.ofNat (0xF0 + c / 262144),UInt8.ofNat (0x80 + c / 4096 % 64),UInt8.ofNat (0x80 + c / 64 % 64),UInt8.ofNat (0x80 + c % 64)]⟩:=by
  unfold Utf8.encode
  simp only [hval,if_true,Int.toNat_natCast]
 by_cases h1 : c < 0x80
 ·rw [if_pos h1] at hE
  rw [hE]
  have g0:=get_mid A ⟨#[UInt8.ofNat c]⟩ B (k:=0) (by show 0 < 1; omega)
  have e0 : ((⟨#[UInt8.ofNat c]⟩ : ByteArray).get! 0).toNat = c:=b_nat (by omega)
  unfold Utf8.decode
  simp only [g0,e0]
  rw [if_pos h1]; rfl
 ·rw [if_neg h1] at hE
  by_cases h2 : c < 0x800
  ·rw [if_pos h2] at hE
   rw [hE]
   generalize hEE : (⟨#[UInt8.ofNat (0xC0 + c / 64),UInt8.ofNat (0x80 + c % 64)]⟩ : ByteArray) = E
   have hz : E.size = 2:=by rw [<- hEE]; rfl
   have hs:=size_mid A E B
   rw [hz] at hs
   have g0:=get_mid A E B (k:=0) (by omega)
   have g1:=get_mid A E B (k:=1) (by omega)
   have e0 : (E.get! 0).toNat = 0xC0 + c / 64:=by rw [<- hEE]; exact b_nat (by omega)
   have e1 : (E.get! 1).toNat = 0x80 + c % 64:=by rw [<- hEE]; exact b_nat (by omega)
   have hc : (0xC0 + c / 64) % 32 * 64 + (0x80 + c % 64) % 64 = c:=by omega
   unfold Utf8.decode
   simp only [g0,e0,g1,e1,hs,hc,hz,Int.toNat_natCast]
   rw [if_neg (by omega),if_pos (by simp only [Bool.and_eq_true,beq_iff_eq,decide_eq_true_eq]; omega),if_pos (by omega)]
  ·rw [if_neg h2] at hE
   by_cases h3 : c < 0x10000
   ·rw [if_pos h3] at hE
    rw [hE]
    generalize hEE : (⟨#[UInt8.ofNat (0xE0 + c / 4096),UInt8.ofNat (0x80 + c / 64 % 64),UInt8.ofNat (0x80 + c % 64)]⟩ : ByteArray) = E
    have hz : E.size = 3:=by rw [<- hEE]; rfl
    have hs:=size_mid A E B
    rw [hz] at hs
    have g0:=get_mid A E B (k:=0) (by omega)
    have g1:=get_mid A E B (k:=1) (by omega)
    have g2:=get_mid A E B (k:=2) (by omega)
    have e0 : (E.get! 0).toNat = 0xE0 + c / 4096:=by rw [<- hEE]; exact b_nat (by omega)
    have e1 : (E.get! 1).toNat = 0x80 + c / 64 % 64:=by rw [<- hEE]; exact b_nat (by omega)
    have e2 : (E.get! 2).toNat = 0x80 + c % 64:=by rw [<- hEE]; exact b_nat (by omega)
    have hc : (0xE0 + c / 4096) % 16 * 4096 + (0x80 + c / 64 % 64) % 64 * 64 + (0x80 + c % 64) % 64 = c:=by omega
    unfold Utf8.decode
    simp only [g0,e0,g1,e1,g2,e2,hs,hc,hz,hval,Int.toNat_natCast]
    rw [if_neg (by omega),if_neg (by simp only [Bool.and_eq_true,beq_iff_eq,decide_eq_true_eq]; omega),if_pos (by simp only [Bool.and_eq_true,beq_iff_eq,decide_eq_true_eq]; omega),if_pos (by simp only [Bool.and_eq_true,decide_eq_true_eq]; exact ⟨by omega,trivial⟩)]
   ·rw [if_neg h3] at hE
    rw [hE]
    generalize hEE : (⟨#[UInt8.ofNat (0xF0 + c / 262144),UInt8.ofNat (0x80 + c / 4096 % 64),UInt8.ofNat (0x80 + c / 64 % 64),UInt8.ofNat (0x80 + c % 64)]⟩ : ByteArray) = E
    have hz : E.size = 4:=by rw [<- hEE]; rfl
    have hs:=size_mid A E B
    rw [hz] at hs
    have g0:=get_mid A E B (k:=0) (by omega)
    have g1:=get_mid A E B (k:=1) (by omega)
    have g2:=get_mid A E B (k:=2) (by omega)
    have g3:=get_mid A E B (k:=3) (by omega)
    have e0 : (E.get! 0).toNat = 0xF0 + c / 262144:=by rw [<- hEE]; exact b_nat (by omega)
    have e1 : (E.get! 1).toNat = 0x80 + c / 4096 % 64:=by rw [<- hEE]; exact b_nat (by omega)
    have e2 : (E.get! 2).toNat = 0x80 + c / 64 % 64:=by rw [<- hEE]; exact b_nat (by omega)
    have e3 : (E.get! 3).toNat = 0x80 + c % 64:=by rw [<- hEE]; exact b_nat (by omega)
    have hc : (0xF0 + c / 262144) % 8 * 262144 + (0x80 + c / 4096 % 64) % 64 * 4096 + (0x80 + c / 64 % 64) % 64 * 64 + (0x80 + c % 64) % 64 = c:=by omega
    unfold Utf8.decode
    simp only [g0,e0,g1,e1,g2,e2,g3,e3,hs,hc,hz,hval,Int.toNat_natCast]
    rw [if_neg (by omega),if_neg (by simp only [Bool.and_eq_true,beq_iff_eq,decide_eq_true_eq]; omega),if_neg (by simp only [Bool.and_eq_true,beq_iff_eq,decide_eq_true_eq]; omega),if_pos (by simp only [Bool.and_eq_true,beq_iff_eq,decide_eq_true_eq]; omega),if_pos (by simp only [Bool.and_eq_true,decide_eq_true_eq]; exact ⟨by omega,trivial⟩)]
theorem enc_pos (r : Int) : 0 < (Utf8.encode r).size:=by
 unfold Utf8.encode
 dsimp only
 generalize (if Utf8.valid r = true then r.toNat else Utf8.runeError) = c
 split
 ·exact Nat.one_pos
 ·split
  ·exact Nat.two_pos
  ·split
   ·show 0 < 3; omega
   ·show 0 < 4; omega
theorem dec_bytes : ∀ (rs : List Int) (A : ByteArray) (f : Nat),(∀ r ∈ rs,Qcr r = true) -> (runesBytes rs).size <= f -> Qbh (A ++ runesBytes rs) f A.size = rs
 | [],A,f,_,_ => by
  have hz : ¬ A.size < (A ++ runesBytes []).size:=by
   show ¬ A.data.size < (A ++ runesBytes []).data.size
   rw [ByteArray.data_append]; simp [runesBytes]
  cases f with
  | zero => rfl
  | succ f => unfold Qbh; rw [if_neg hz]
 | r :: rs,A,f,h,hf => by
  have e : runesBytes (r :: rs) = Utf8.encode r ++ runesBytes rs:=by rw [show r :: rs = [r] ++ rs from rfl,runesBytes_app,runesBytes_one]
  have hp:=enc_pos r
  have hz : (runesBytes (r :: rs)).size = (Utf8.encode r).size + (runesBytes rs).size:=by rw [e]; exact ByteArray.size_append
  have hd:=dec_enc A (runesBytes rs) (h r (List.mem_cons_self ..))
  have hr:=runeOk_valid (h r (List.mem_cons_self ..))
  have ih:=dec_bytes rs (A ++ Utf8.encode r) (f - 1) (fun q hq => h q (List.mem_cons_of_mem _ hq)) (by omega)
  obtain ⟨g,rfl⟩ : ∃ g,f = g + 1:=⟨f - 1,by omega⟩
  rw [e,<- ByteArray.append_assoc]
  unfold Qbh
  rw [if_pos (by rw [size_mid]; omega),hd]
  show ((r.toNat : Nat) : Int) :: _ = _
  rw [show ((r.toNat : Nat) : Int) = r by omega]
  rw [ByteArray.size_append,Nat.add_sub_cancel] at ih
  rw [ih]
theorem runesOf_bytes {rs : List Int} (h : ∀ r ∈ rs,Qcr r = true) : Qaq (runesBytes rs) = rs:=by
 have:=dec_bytes rs ⟨#[]⟩ (runesBytes rs).size h (Nat.le_refl _)
 rw [show (⟨#[]⟩ : ByteArray) = ByteArray.empty from rfl,ByteArray.empty_append] at this
 exact this
theorem opOk_texts {o : SOp} (h : opOk o = true) : Qcf o.f4 = true:=by
 rcases opOk_kind h with ⟨_,h⟩ | ⟨_,h⟩
 ·unfold editOk at h; simp only [Bool.and_eq_true] at h
  exact h.1.1.1.1.1.2
 ·unfold Qbp at h; simp only [Bool.and_eq_true] at h
  have e:=List.isEmpty_iff.1 h.1.2
  have e2 : o.f4.size = 0:=by rw [<- data_length,<- ByteArray.toList_eq,e]; rfl
  unfold Qcf Qaq
  rw [e2]; rfl
theorem at_rune {L : List SOp} (h : RowOk L) {e : SElem} (he : e ∈ ordL L) : Qcr (atR L e) = true:=by
 obtain ⟨p,hp,e0,e1,h2,h3⟩:=(Qbx h e).1 he
 obtain ⟨i,hi,ef,ei⟩:=findOp_mem h hp
 rw [e0,e1] at ef
 unfold atR
 rw [ef,Qaz _ _ hi,ei]
 have ht:=opOk_texts (h.oks p hp)
 have hlt : e.f2.toNat < (Qaq p.f4).length:=by unfold Qan at h3; omega
 rw [List.getD_eq_getElem?_getD,List.getElem?_eq_getElem hlt]
 exact List.all_eq_true.1 ht _ (List.getElem_mem hlt)
theorem seen_runes {L : List SOp} (h : RowOk L) : ∀ r ∈ (Qak L).map (atR L),Qcr r = true:=by
 intro r hr
 obtain ⟨e,he,rfl⟩:=List.mem_map.1 hr
 exact at_rune h (seen_mem.1 he).1
theorem runes_plain {L : List SOp} (h : RowOk L) : Qaq (plainR L) = (Qak L).map (atR L):=runesOf_bytes (seen_runes h)
theorem text_plain {L : List SOp} (h : RowOk L) : Qcf (plainR L) = true:=by
 unfold Qcf
 rw [runes_plain h]
 exact List.all_eq_true.2 (seen_runes h)
theorem enc_le (r : Int) : (Utf8.encode r).size <= 4:=by
 unfold Utf8.encode
 dsimp only
 generalize (if Utf8.valid r = true then r.toNat else Utf8.runeError) = c
 split
 ·show 1 <= 4; omega
 ·split
  ·show 2 <= 4; omega
  ·split
   ·show 3 <= 4; omega
   ·show 4 <= 4; omega
theorem bytes_le : ∀ rs : List Int,(runesBytes rs).size <= 4 * rs.length
 | [] => Nat.zero_le _
 | r :: rs => by
  have e : runesBytes (r :: rs) = Utf8.encode r ++ runesBytes rs:=by rw [show r :: rs = [r] ++ rs from rfl,runesBytes_app,runesBytes_one]
  have ih:=bytes_le rs
  have h4:=enc_le r
  rw [e,ByteArray.size_append,List.length_cons]; omega
theorem plain_size {L : List SOp} (h : RowOk L) : (plainR L).size <= 800:=by
 have h1:=bytes_le ((Qak L).map (atR L))
 have h2 : (Qak L).length <= 200:=Nat.le_trans (List.length_filter_le _ _) (by rw [(Qbs h).2]; exact h.sums.2)
 rw [List.length_map] at h1
 unfold plainR; omega
end
section
theorem ref1_Rune_f (r : Int) : r1_Rune.f r = some (Qcr r):=by
 unfold r1_Rune.f Qcr
 by_cases h10 : r = 10
 ·simp [h10]
 ·have e10 : (r == 10) = false:=by simp [h10]
  rw [if_neg h10,e10,Bool.false_or]
  by_cases h1 : 32 <= r <;> by_cases h2 : r <= 1114111 <;> by_cases h3 : r = 127 <;> by_cases h4 : r = 65533 <;> by_cases h5 : r <= 55295 <;> by_cases h6 : 57344 <= r <;> (first | (exfalso; omega) | simp [h1,h2,h3,h4,h5,h6])
theorem decodeN_le (n b0 b1 b2 b3 : Nat) (h : 1 <= n) : (Lib.decodeN n b0 b1 b2 b3).2 <= n:=by
 unfold Lib.decodeN
 repeat' split
 all_goals (simp_all <;> omega)
theorem decode_le (s : ByteArray) (i : Nat) (h : i < s.size) : 1 <= (Utf8.decode s i).2 /\ i + (Utf8.decode s i).2 <= s.size:=by
 refine ⟨Lib.decode_width_pos s i h, ?_⟩
 rw [Lib.decode_at]
 have:=decodeN_le (s.size - i) (s.get! i).toNat (s.get! (i + 1)).toNat (s.get! (i + 2)).toNat (s.get! (i + 3)).toNat (by omega)
 omega
theorem decFrom_more (s : ByteArray) : ∀ d pos f,s.size <= pos + d -> d <= f -> Qbh s f pos = Qbh s d pos
 | 0,pos,f,h,_ => by cases f <;> simp [Qbh,Nat.not_lt.2 (show s.size <= pos by omega)]
 | d + 1,pos,0,h,hf => by omega
 | d + 1,pos,f + 1,h,hf => by
  unfold Qbh
  by_cases hp : pos < s.size
  ·rw [if_pos hp,if_pos hp,decFrom_more s d _ f (by have:=(decode_le s pos hp).1; omega) (by omega)]
  ·rw [if_neg hp,if_neg hp]
theorem decFrom_step (s : ByteArray) (pos : Nat) (h : pos < s.size) : Qbh s s.size pos = ((Utf8.decode s pos).1 : Int) :: Qbh s s.size (pos + (Utf8.decode s pos).2):=by
 have hw:=decode_le s pos h
 rw [decFrom_more s (s.size - pos) pos s.size (by omega) (by omega),show s.size - pos = (s.size - pos - 1) + 1 by omega]
 conv => lhs; unfold Qbh
 rw [if_pos h,<- decFrom_more s (s.size - pos - 1) (pos + (Utf8.decode s pos).2) s.size (by omega) (by omega)]
theorem decFrom_end (s : ByteArray) (pos : Nat) (h : s.size <= pos) : Qbh s s.size pos = []:=by
 rw [decFrom_more s 0 pos s.size (by omega) (by omega)]; rfl
theorem decodeGo_at (s : ByteArray) (pos : Nat) (h : pos < s.size) : Lib.decodeGo (s.extract pos s.size) = Utf8.decode s pos:=by
 unfold Lib.decodeGo
 rw [if_neg (by rw [ByteArray.size_extract]; omega),Lib.tail_decode,Nat.add_zero]
def runesR (s : ByteArray) (acc : List Int) (pos : Nat) : List Int × Bool:=if (Qbh s s.size pos).all Qcr = true then (acc ++ Qbh s s.size pos,true) else ([],false)
theorem Runes_loop (s : ByteArray) (hs : s.size <= 35184372088000) : ∀ d pos (acc : List Int),s.size <= pos + d -> pos <= s.size -> acc.length <= pos -> Ev (fun k => r1_Runes.l0 k s acc (pos : Int)) (runesR s acc pos)
 | 0,pos,acc,h,hp,_ => by
  unfold runesR
  rw [decFrom_end s pos (by omega),List.all_nil,if_pos rfl,List.append_nil]
  exact Ev.step (f:=fun _ => some (acc,true)) (fun k => by simp only [r1_Runes.l0]; rw [if_neg (by omega)]) (Ev.now _)
 | d + 1,pos,acc,h,hp,ha => by
  by_cases hlt : pos < s.size
  ·have hw:=decode_le s pos hlt
   have ih:=Runes_loop s hs d (pos + (Utf8.decode s pos).2) (acc ++ [((Utf8.decode s pos).1 : Int)]) (by omega) hw.2 (by simp; omega)
   have hf : utf8_DecodeRuneInString.f (s.extract (pos : Int).toNat s.size) = some (((Utf8.decode s pos).1 : Int),((Utf8.decode s pos).2 : Int)):=by
    unfold utf8_DecodeRuneInString.f
    rw [Int.toNat_natCast,decodeGo_at s pos hlt]
   unfold runesR at ih ⊢
   rw [decFrom_step s pos hlt,List.all_cons]
   cases hr : Qcr ((Utf8.decode s pos).1 : Int)
   ·simp only [Bool.false_and,Bool.false_eq_true,if_false]
    refine Ev.step (f:=fun _ => some ([],false)) (fun k => ?_) (Ev.now _)
    simp only [r1_Runes.l0]
    rw [if_pos (by omega),if_pos (by omega),if_pos (by omega),hf,Option.bind_some,ref1_Rune_f,Option.bind_some,hr]
    rfl
   ·simp only [Bool.true_and]
    rw [List.append_assoc,List.singleton_append] at ih
    refine Ev.step (fun k => ?_) ih
    simp only [r1_Runes.l0]
    rw [if_pos (by omega),if_pos (by omega),if_pos (by omega),hf,Option.bind_some,ref1_Rune_f,Option.bind_some,hr,if_pos rfl,if_pos (by omega),Qaj (by omega) (by omega)]
    simp only [Int.natCast_add]
  ·have hpe : pos = s.size:=by omega
   unfold runesR
   rw [decFrom_end s pos (by omega),List.all_nil,if_pos rfl,List.append_nil]
   exact Ev.step (f:=fun _ => some (acc,true)) (fun k => by simp only [r1_Runes.l0]; rw [if_neg (by omega)]) (Ev.now _)
theorem Runes_ev (s : ByteArray) (hs : s.size <= 35184372088000) : Ev (fun k => r1_Runes.f k s) (if Qcf s = true then (Qaq s,true) else ([],false)) :=
 Runes_loop s hs s.size 0 [] (by omega) (Nat.zero_le _) (Nat.le_refl _)
def Sm2 (o : SOp) : Prop:=o.f4.size <= 35184372088000 /\ o.f5.length <= 1000000000000000
structure SmL (l : List SOp) : Prop where
 len : l.length <= 1000000000000
 ops : ∀ o ∈ l,Sm2 o
theorem SmL.take {l : List SOp} (h : SmL l) (n : Nat) : SmL (l.take n):=⟨by have:=h.len; rw [List.length_take]; omega,fun o ho => h.ops o (List.mem_of_mem_take ho)⟩
end
section
theorem CopyElems_loop (l : List SElem) (hl : l.length <= 1000000000000) : ∀ d i,i + d = l.length -> Ev (fun k => r0_CopyElems.l0 k l (l.take i) (i : Int)) l
 | 0,i,h => by
  rw [List.take_of_length_le (by omega)]
  refine Ev.step (f:=fun _ => some l) (fun k => ?_) (Ev.now _)
  simp only [r0_CopyElems.l0]
  rw [if_neg (by omega)]
 | d + 1,i,h => by
  have hlt : i < l.length:=by omega
  have ih:=CopyElems_loop l hl d (i + 1) (by omega)
  rw [List.take_succ_eq_append_getElem hlt] at ih
  refine Ev.step (fun k => ?_) ih
  simp only [r0_CopyElems.l0]
  rw [if_pos (by omega),if_pos (by omega),Qar _ _ hlt,if_pos (by rw [List.length_take]; omega),wrapS hlt (by omega)]
theorem CopyElems_ev (l : List SElem) (hl : l.length <= 1000000000000) : Ev (fun k => r0_CopyElems.f k l) l:=CopyElems_loop l hl l.length 0 (Nat.zero_add _)
theorem CopyOp_ev (o : SOp) (hl : o.f5.length <= 1000000000000) : Ev (fun k => r0_CopyOp.f k o.f0 o.f1 o.f2 o.f3.f0 o.f3.f1 o.f3.f2 o.f4 o.f5 o.f6 o.f7 o.f8) (o.f0,o.f1,o.f2,o.f3.f0,o.f3.f1,o.f3.f2,o.f4,o.f5,o.f6,o.f7,o.f8) :=
 Ev.bind (f:=fun _ t => some (o.f0,o.f1,o.f2,o.f3.f0,o.f3.f1,o.f3.f2,o.f4,t,o.f6,o.f7,o.f8)) (CopyElems_ev o.f5 hl) (Ev.now _)
theorem CopyOps_loop (l : List SOp) (hl : l.length <= 1000000) (hs : ∀ o ∈ l,o.f5.length <= 1000000000000) : ∀ d i,i + d = l.length -> Ev (fun k => r0_CopyOps.l0 k l (l.take i) (i : Int)) l
 | 0,i,h => by
  rw [List.take_of_length_le (by omega)]
  refine Ev.step (f:=fun _ => some l) (fun k => ?_) (Ev.now _)
  simp only [r0_CopyOps.l0]
  rw [if_neg (by omega)]
 | d + 1,i,h => by
  have hlt : i < l.length:=by omega
  have ih:=CopyOps_loop l hl hs d (i + 1) (by omega)
  rw [List.take_succ_eq_append_getElem hlt] at ih
  have hlen : (l.take i).length < 1256584717458:=by rw [List.length_take]; omega
  refine Ev.step (fun k => by simp only [r0_CopyOps.l0]; rw [if_pos (by omega),if_pos (by omega),Qaz _ _ hlt,wrapS hlt (by omega)]) (Ev.bind (CopyOp_ev l[i] (hs _ (List.getElem_mem hlt))) ?_)
  simp only [if_pos hlen]
  exact ih
theorem CopyOps_ev (l : List SOp) (hl : l.length <= 1000000) (hs : ∀ o ∈ l,o.f5.length <= 1000000000000) : Ev (fun k => r0_CopyOps.f k l) l:=CopyOps_loop l hl hs l.length 0 (Nat.zero_add _)
end
section
def stays (l : List SOp) (e : SElem) (o : SOp) : Bool:=!Qda l o || !decide (e ∈ o.f5)
end
section
def tiny (o : SOp) : Prop:=o.f4.size <= 4000 /\ o.f5.length <= 1000
def Tiny (l : List SOp) : Prop:=∀ o ∈ l,tiny o
theorem OpsWeight_small (l : List SOp) (hl : l.length <= 140737488351232) (hs : ∀ o ∈ l,o.f4.size <= 140737488351232 /\ o.f5.length <= 140737488351232) : ∀ d i (t : Int),i + d = l.length -> 0 <= t -> t <= 200000000000000 ->
  ∃ r,Ev (fun k => w0_OpsWeight.l0 k l t (i : Int)) r /\ t <= r /\ r <= 400000000000000 /\ (r <= 900 -> ∀ j (hj : j < l.length),i <= j -> tiny l[j])
 | 0,i,t,h,h0,h1 => ⟨t,Ev.step (f:=fun _ => some t) (fun k => by simp only [w0_OpsWeight.l0]; rw [if_neg (by omega)]) (Ev.now _),Int.le_refl _,by omega,fun _ j hj hij => by omega⟩
 | d + 1,i,t,h,h0,h1 => by
  by_cases ht : t < 1048576
  ·have hlt : i < l.length:=by omega
   have hb:=hs _ (List.getElem_mem hlt)
   have hw : wrap64 (t + (wrap64 ((wrap64 (2 + (wrap64 ((l[i].f4.size : Int) / 4)))) + (l[i].f5.length : Int)))) = t + (2 + (l[i].f4.size : Int) / 4 + (l[i].f5.length : Int)):=by
    rw [Qaj (i:=(l[i].f4.size : Int) / 4) (by omega) (by omega),Qaj (i:=2 + (l[i].f4.size : Int) / 4) (by omega) (by omega),Qaj (i:=2 + (l[i].f4.size : Int) / 4 + (l[i].f5.length : Int)) (by omega) (by omega),Qaj (by omega) (by omega)]
   obtain ⟨r,hr,r1,r2,r3⟩:=OpsWeight_small l hl hs d (i + 1) (t + (2 + (l[i].f4.size : Int) / 4 + (l[i].f5.length : Int))) (by omega) (by omega) (by omega)
   rw [<- hw] at hr
   refine ⟨r,Ev.step (fun k => ?_) hr,by omega,r2,fun h9 j hj hij => ?_⟩
   ·simp only [w0_OpsWeight.l0]
    rw [if_pos (by omega),if_pos ht,if_pos (by omega),wrapS hlt (by omega),Qaz _ _ hlt]
    rfl
   ·rcases Nat.lt_or_ge i j with hj2 | hj2
    ·exact r3 h9 j hj hj2
    ·obtain rfl : j = i:=by omega
     exact ⟨by omega,by omega⟩
  ·exact ⟨t,Ev.step (f:=fun _ => some t) (fun k => by simp only [w0_OpsWeight.l0]; rw [if_pos (by omega),if_neg ht]) (Ev.now _),Int.le_refl _,by omega,fun h9 => by omega⟩
theorem rd_LOp_nat (l : List (List SOp)) (i : Nat) (h : i < l.length) : Qay l (i : Int) = l[i]:=by unfold Qay; simp [h]
theorem Heavy_lp {l0 : List (List SOp)} {l1 : List SElem} {l2 : List SOp} {l3 : List Int} (hg : GoodAsk l0 l1 l2 l3) : ∀ d i (t : Int),i + d = l0.length -> 0 <= t -> t <= 900000000000000 ->
  ∃ b,Ev (fun k => w5_Heavy.l0 k t (i : Int) l0 l1 l2 l3) b /\ (b = false -> t <= 900 /\ ∀ j (hj : j < l0.length),i <= j -> l0[j].length <= 900 /\ Tiny l0[j])
 | 0,i,t,h,h0,h1 => ⟨_,Ev.step (f:=fun _ => some (decide (t > 900))) (fun k => by simp only [w5_Heavy.l0]; rw [if_neg (by omega)]) (Ev.now _),fun hb => ⟨by have:=of_decide_eq_false hb; omega,fun j hj hij => by omega⟩⟩
 | d + 1,i,t,h,h0,h1 => by
  by_cases ht : t < 1048576
  ·have hlt : i < l0.length:=by omega
   have hn:=hg.n0
   have hm:=hg.r0 _ (List.getElem_mem hlt)
   obtain ⟨q,hq,q1,q2,q3⟩:=OpsWeight_small l0[i] hm.1 hm.2 _ 0 (l0[i].length : Int) (Nat.zero_add _) (by omega) (by omega)
   obtain ⟨b,hr,r1⟩:=Heavy_lp hg d (i + 1) (t + q) (by omega) (by omega) (by omega)
   have hw : wrap64 (t + q) = t + q:=Qaj (by omega) (by omega)
   refine ⟨b,Ev.step (fun k => ?_) (Ev.bind (f:=fun k q => w5_Heavy.l0 k (wrap64 (t + q)) ((i + 1 : Nat) : Int) l0 l1 l2 l3) hq (by rw [hw]; exact hr)),fun hb => ?_⟩
   ·simp only [w5_Heavy.l0]
    rw [if_pos (by omega),if_pos ht,if_pos (by omega),wrapS hlt (by omega),rd_LOp_nat _ _ hlt]
    rfl
   ·obtain ⟨k1,k2⟩:=r1 hb
    refine ⟨by omega,fun j hj hij => ?_⟩
    rcases Nat.lt_or_ge i j with hj2 | hj2
    ·exact k2 j hj hj2
    ·obtain rfl : j = i:=by omega
     refine ⟨by omega,fun o ho => ?_⟩
     obtain ⟨z,hz,rfl⟩:=List.getElem_of_mem ho
     exact q3 (by omega) z hz (Nat.zero_le _)
  ·exact ⟨_,Ev.step (f:=fun _ => some (decide (t > 900))) (fun k => by simp only [w5_Heavy.l0]; rw [if_pos (by omega),if_neg ht]) (Ev.now _),fun hb => by have:=of_decide_eq_false hb; omega⟩
theorem Heavy_small2 {l0 : List (List SOp)} {l1 : List SElem} {l2 : List SOp} {l3 : List Int} (hg : GoodAsk l0 l1 l2 l3) : ∃ b,Ev (fun k => w5_Heavy.f k l0 l1 l2 l3) b /\ (b = false -> (∀ x ∈ l0,x.length <= 900 /\ Tiny x) /\ l1.length <= 900 /\ l3.length <= 900 /\ Tiny l2):=by
 have n1:=hg.n1
 have n2:=hg.n2
 have n3:=hg.n3
 obtain ⟨q,hq,q1,q2,q3⟩:=OpsWeight_small l2 hg.n2 hg.r2 _ 0 (l2.length : Int) (Nat.zero_add _) (by omega) (by omega)
 have hw : wrap64 ((wrap64 ((l1.length : Int) + (l3.length : Int))) + q) = (l1.length : Int) + (l3.length : Int) + q:=by
  rw [Qaj (i:=(l1.length : Int) + (l3.length : Int)) (by omega) (by omega),Qaj (by omega) (by omega)]
 obtain ⟨b,hb,hr⟩:=Heavy_lp hg _ 0 ((l1.length : Int) + (l3.length : Int) + q) (Nat.zero_add _) (by omega) (by omega)
 refine ⟨b,Ev.bind (f:=fun k q => w5_Heavy.l0 k (wrap64 ((wrap64 ((l1.length : Int) + (l3.length : Int))) + q)) 0 l0 l1 l2 l3) hq (by rw [hw]; exact hb),fun h => ?_⟩
 obtain ⟨h1,h2⟩:=hr h
 refine ⟨fun x hx => ?_,by omega,by omega,fun o ho => by obtain ⟨z,hz,rfl⟩:=List.getElem_of_mem ho; exact q3 (by omega) z hz (Nat.zero_le _)⟩
 obtain ⟨j,hj,rfl⟩:=List.getElem_of_mem hx
 exact h2 j hj (Nat.zero_le _)
end
section
theorem Tiny.smalls {l : List SOp} (h : Tiny l) (hn : l.length <= 1000) : smalls l = true:=good_smalls ⟨by omega,fun o ho => by have:=h o ho; unfold tiny at this; exact ⟨by omega,by omega⟩⟩
theorem Tiny.snoc {l : List SOp} (h : Tiny l) {o : SOp} (ho : tiny o) : Tiny (l ++ [o]):=by
 intro x hx
 rcases List.mem_append.1 hx with hx | hx
 ·exact h x hx
 ·rw [List.mem_singleton] at hx; subst hx; exact ho
end
section
theorem tree_Written_f {l : List SOp} (hs : smalls l = true) (a b c : Int) : tree_Written.f l a b c = some (Qcn l ⟨a,b,c⟩):=by
 have hlen : l.length <= 9223372036854775807:=by
  unfold smalls at hs; simp only [Bool.and_eq_true,decide_eq_true_eq] at hs; exact hs.1
 unfold tree_Written.f tree_Find.f Qcn
 rw [if_pos hlen,Option.bind_some]
 simp only
 rcases Qbi l a b with ⟨i,hi,_,_,_,e⟩ | ⟨_,e⟩
 ·rw [e,if_pos (by omega)]
  by_cases hc : c >= 0
  ·rw [if_pos hc,if_pos (by omega),if_pos (by omega),op_Size_f _ (smalls_at hs hi),Option.bind_some]
   have h1 : decide ((0 : Int) <= (i : Int)) = true:=Zd (by omega)
   have h2 : decide ((0 : Int) <= c) = true:=Zd hc
   rw [h1,h2]; simp
  ·rw [if_neg hc]
   have h2 : decide ((0 : Int) <= c) = false:=Ze (by omega)
   rw [h2]; simp
 ·rw [e,if_neg (by omega)]; simp
end
section
theorem Upto_ok {L : List SOp} (hs : smalls L = true) (h : RowOk L) (e : SElem) : caret_Upto.f L e.f0 e.f1 e.f2 = some (Qcz L e):=by
 unfold caret_Upto.f; exact if_pos ⟨hs,(Qbf L).2 h⟩
theorem asked_ok {L : List SOp} (hs : smalls L = true) (h : RowOk L) (e : SElem) : caret_asked.f L e.f0 e.f1 e.f2 = some (if (Qao e || Qcn L e) = true then 0 else 3):=by
 unfold caret_asked.f
 rw [Qco hs,(Qbf L).2 h,Option.bind_some,if_pos rfl,not_begin]
 cases hb : Qao e
 ·rw [if_pos (by decide),tree_Written_f hs,Option.bind_some,Bool.false_or]
  cases Qcn L e <;> rfl
 ·rw [if_neg (by decide),Bool.true_or]; rfl
theorem Place_ok {L : List SOp} (hs : smalls L = true) (h : RowOk L) (e : SElem) : caret_Place.f L e.f0 e.f1 e.f2 = some (if (Qao e || Qcn L e) = true then (((Qcz L e).length : Int),0) else (0,3)):=by
 unfold caret_Place.f
 rw [asked_ok hs h,Option.bind_some]
 cases Qao e || Qcn L e
 ·rfl
 ·simp only [if_true]
  rw [Upto_ok hs h]; rfl
def Qbo (L : List SOp) (n : Nat) : SElem:=if n = 0 then ⟨0,0,0⟩ else Qac (Qak L) ((n - 1 : Nat) : Int)
theorem Set_ok {L : List SOp} (hs : smalls L = true) (h : RowOk L) {n : Nat} (hn : n <= (Qak L).length) : Ev (fun k => caret_Set.f k L (n : Int)) ((Qbo L n).f0,(Qbo L n).f1,(Qbo L n).f2,0):=by
 have h200:=seen_len h
 refine Ev.congr (f:=fun k => caret_Set.j0 k (n : Int) (Qak L) false) (fun k => ?_) (Ev.step (f:=fun _ => some ((Qbo L n).f0,(Qbo L n).f1,(Qbo L n).f2,0)) (fun k => ?_) (Ev.now _))
 ·unfold caret_Set.f
  rw [Qco hs,(Qbf L).2 h,Option.bind_some,if_pos rfl,doc_Seen_f hs h,Option.bind_some,if_neg (by omega),Ze (by omega)]
 ·simp only [caret_Set.j0]
  rw [if_neg (by decide)]
  unfold Qbo
  by_cases h0 : n = 0
  ·subst h0; rfl
  ·have w1 : wrap64 ((n : Int) - 1) = ((n - 1 : Nat) : Int):=by rw [Qaj (by omega) (by omega)]; omega
   rw [if_neg (by omega),if_neg h0,w1,if_pos (by omega),if_pos (by omega)]
end
section
theorem filter_take (O : List SElem) (hn : O.Nodup) (p : SElem -> Bool) (m : Nat) : (O.filter p).filter (fun x => decide (x ∈ O.take m)) = (O.take m).filter p:=by
 have hO : O = O.take m ++ O.drop m:=(List.take_append_drop _ _).symm
 have hnd:=hn
 rw [hO] at hnd
 have hdis:=(List.nodup_append.1 hnd).2.2
 have hf : O.filter p = (O.take m).filter p ++ (O.drop m).filter p:=by rw [<- List.filter_append,<- hO]
 have ha : ((O.take m).filter p).filter (fun y => decide (y ∈ O.take m)) = (O.take m).filter p:=List.filter_eq_self.2 fun y hy => Zd ((List.mem_filter.1 hy).1)
 have hb : ((O.drop m).filter p).filter (fun y => decide (y ∈ O.take m)) = []:=List.filter_eq_nil_iff.2 fun y hy => by
  rw [decide_eq_true_eq]
  exact fun hy2 => hdis y hy2 y ((List.mem_filter.1 hy).1) rfl
 rw [hf,List.filter_append,ha,hb,List.append_nil]
def aheadN (L : List SOp) (e : SElem) : Nat:=(idxE (ordL L) e + 1).toNat
theorem upto_prefix {L : List SOp} (h : RowOk L) (e : SElem) : Qcz L e = (Qak L).take (Qcz L e).length:=by
 have h1 : Qcz L e = ((ordL L).take (aheadN L e)).filter fun e => !(goneE L e || !thereE L e):=filter_take (ordL L) (Qbs h).1 (fun e => !(goneE L e || !thereE L e)) (aheadN L e)
 have hf : Qak L = Qcz L e ++ ((ordL L).drop (aheadN L e)).filter fun e => !(goneE L e || !thereE L e):=by
  rw [h1,<- List.filter_append,List.take_append_drop]; rfl
 generalize Qcz L e = u at hf
 rw [hf,List.take_append_of_le_length (Nat.le_refl _),List.take_length]
theorem upto_len {L : List SOp} (h : RowOk L) (e : SElem) : (Qcz L e).length <= (Qak L).length:=by
 have:=congrArg List.length (upto_prefix h e)
 rw [List.length_take] at this
 omega
def nearR (L : List SOp) (e : SElem) : SElem:=if (Qcz L e).length = 0 then ⟨0,0,0⟩ else Qac (Qak L) (((Qcz L e).length - 1 : Nat) : Int)
theorem Near_ok {L : List SOp} (hs : smalls L = true) (h : RowOk L) (e : SElem) : caret_Near.f L e.f0 e.f1 e.f2 = some (if (Qao e || Qcn L e) = true then ((nearR L e).f0,(nearR L e).f1,(nearR L e).f2,0) else (0,0,0,3)):=by
 have hlen:=upto_len h e
 have h200:=seen_len h
 unfold caret_Near.f
 rw [asked_ok hs h,Option.bind_some]
 cases Qao e || Qcn L e
 ·rfl
 ·simp only [if_true]
  rw [Upto_ok hs h,Option.bind_some]
  unfold nearR
  by_cases h0 : (Qcz L e).length = 0
  ·rw [if_pos h0,if_pos (by omega)]
  ·have w1 : wrap64 (((Qcz L e).length : Int) - 1) = (((Qcz L e).length - 1 : Nat) : Int):=by rw [Qaj (by omega) (by omega)]; omega
   have hr : Qac (Qcz L e) (((Qcz L e).length - 1 : Nat) : Int) = Qac (Qak L) (((Qcz L e).length - 1 : Nat) : Int):=by
    rw [Qar _ _ (show (Qcz L e).length - 1 < (Qcz L e).length by omega),Qar _ _ (show (Qcz L e).length - 1 < (Qak L).length by omega)]
    have hp:=upto_prefix h e
    have : (Qcz L e)[(Qcz L e).length - 1]? = (Qak L)[(Qcz L e).length - 1]?:=by
     conv => lhs; rw [hp]
     rw [List.getElem?_take,if_pos (by rw [List.length_take]; omega)]
     congr 1
     rw [List.length_take]; omega
    rw [List.getElem?_eq_getElem (by omega),List.getElem?_eq_getElem (by omega)] at this
    exact Zo this
   rw [if_neg h0,if_neg (by omega),w1,if_pos (by omega),if_pos (by omega),hr]
end
section
theorem ElT_l0 (L : List SOp) (hL : L.length <= 1000) : ∀ d i (acc : List SElem),i + d = L.length -> acc.length <= 6 + i -> ∃ es,Ev (fun k => w5_Elems.l0 k L acc (i : Int)) es /\ es.length <= 1100
 | 0,i,acc,hi,ha => ⟨acc,Ev.step (f:=fun _ => some acc) (fun k => by simp only [w5_Elems.l0]; rw [if_neg (by omega)]) (Ev.now _),by omega⟩
 | d + 1,i,acc,hi,ha => by
  by_cases h40 : i < 40
  ·obtain ⟨es,h1,h2⟩:=ElT_l0 L hL d (i + 1) (acc ++ [(⟨(Qah L (i : Int)).f0,(Qah L (i : Int)).f1,Int.tmod (i : Int) 3⟩ : SElem)]) (by omega) (by rw [List.length_append,List.length_singleton]; omega)
   refine ⟨es,Ev.step (fun k => ?_) h1,h2⟩
   simp only [w5_Elems.l0]
   rw [if_pos (by omega),if_pos (by omega),if_pos (by omega),if_pos (by omega),wrapS (show i < L.length by omega) (by omega)]
  ·refine ⟨acc,Ev.step (f:=fun _ => some acc) (fun k => ?_) (Ev.now _),by omega⟩
   simp only [w5_Elems.l0]
   rw [if_pos (by omega),if_neg (by omega)]
theorem ElemsT_some (l0 : List (List SOp)) (l1 : List SElem) (l2 : List SOp) (l3 : List Int) (hn : l1.length <= 900) (L : List SOp) (hL : L.length <= 1000) : ∃ es,Ev (fun k => w5_Elems.f k l0 l1 l2 l3 L) es /\ es.length <= 1100:=by
 have hlen : ([(⟨0,0,0⟩ : SElem)] ++ l1).length = 1 + l1.length:=by rw [List.length_append,List.length_singleton]
 obtain ⟨es,h1,h2⟩:=ElT_l0 L hL L.length 0 (if (([(⟨0,0,0⟩ : SElem)] ++ l1).length : Int) > 6 then ([(⟨0,0,0⟩ : SElem)] ++ l1).take 6 else [(⟨0,0,0⟩ : SElem)] ++ l1) (Nat.zero_add _) (by
  split
  ·rw [List.length_take]; omega
  ·omega)
 refine ⟨es,Ev.congr (f:=fun k => w5_Elems.j0 k L (if (([(⟨0,0,0⟩ : SElem)] ++ l1).length : Int) > 6 then ([(⟨0,0,0⟩ : SElem)] ++ l1).take 6 else [(⟨0,0,0⟩ : SElem)] ++ l1)) (fun k => ?_) (Ev.step (fun k => by simp only [w5_Elems.j0]; rfl) h1),h2⟩
 unfold w5_Elems.f
 simp only [Option.bind_some]
 rw [if_pos (by rw [List.length_singleton]; omega)]
 by_cases h6 : (([(⟨0,0,0⟩ : SElem)] ++ l1).length : Int) > 6
 ·rw [if_pos h6,if_pos (by omega),if_pos h6]; rfl
 ·rw [if_neg h6,if_neg h6]
end
section
theorem sort_mem (l : List SElem) (e : SElem) : e ∈ sortL l ↔ e ∈ l:=(List.mergeSort_perm l _).mem_iff
end
end Go.Proofs.YtlllghajjamdpaaGreatDoor.L
end
