/- Part 11 of the proof that for every argument the law EditLands answers true: what is written stands at the place that was asked for; what was taken away is gone, the rest is as it was; toggled it is as before, toggled again as behind -/
import Derived.Test.YtlllghajjamdpaaGreatDoorZEL10
section
namespace Go.Proofs.YtlllghajjamdpaaGreatDoor.L
open Go.RowKit Go.Proofs.YtlllghajjamdpaaGreatDoorW.PrintWords Go.Proofs.YtlllghajjamdpaaGreatDoorW.PrintLast Go.Proofs.YtlllghajjamdpaaGreatDoorW.PrintMore
set_option linter.unusedVariables false
set_option linter.unusedSimpArgs false
set_option maxHeartbeats 40000000
set_option maxRecDepth 1000000
section
attribute [local go_sem] Qbu Qbs Qcg Qcf Qbe Qbd Qbt Qbr
theorem w7_EditLands.bxo {G : Prop} (h : Nonempty G) : G:=h.elim id
mutual
def w7_EditLands.l0 : Nat -> Int -> List (List (SOp)) -> List (SElem) -> List (SOp) -> List Int -> Option (Bool)
 | 0,_,_,_,_,_ => none
 | k + 1,x3,x610000,x610001,x610002,x610003 => if x3 < (x610000.length : Int) then (w7_EditLands.j1 k x3 (decide (x3 < 4)) x610000 x610001 x610002 x610003) else (w7_EditLands.j1 k x3 false x610000 x610001 x610002 x610003)
def w7_EditLands.j1 : Nat -> Int -> Bool -> List (List (SOp)) -> List (SElem) -> List (SOp) -> List Int -> Option (Bool)
 | 0,_,_,_,_,_,_ => none
 | k + 1,x3,x39,x610000,x610001,x610002,x610003 => if x39 = true then (if 0 <= x3 then (if x3 < (x610000.length : Int) then ((doc_Text.f (Qbo x610000 x3)).bind fun bt612 => ((w7_num.f bt612.2).bind fun t614 => (if t614 = 0 then ((r1_Runes.f k bt612.1).bind fun bt615 => (if bt615.2 = true then (w7_EditLands.l1 k x3 (Qbo x610000 x3) bt612.1 bt615.1 0 x610000 x610001 x610002 x610003) else (some false))) else (w7_EditLands.l0 k (wrap64 (x3 + 1)) x610000 x610001 x610002 x610003)))) else (none)) else (none)) else ((r4_Row.f k ([] : List (SOp))).bind fun t721 => (if t721 = true then ((w7_wakes.f).bind fun t722 => (some t722)) else (some false)))
def w7_EditLands.l1 : Nat -> Int -> List (SOp) -> ByteArray -> List Int -> Int -> List (List (SOp)) -> List (SElem) -> List (SOp) -> List Int -> Option (Bool)
 | 0,_,_,_,_,_,_,_,_,_ => none
 | k + 1,x3,x4,x5,x7,x9,x610000,x610001,x610002,x610003 => if x9 < 8 then ((w0_Within.f (wrap64 ((wrap64 (x9 * 3)) + (x610003.length : Int))) (wrap64 ((x7.length : Int) + 1))).bind fun t619 => ((w0_Within.f (wrap64 ((wrap64 (x9 * 5)) + x3)) (wrap64 ((wrap64 ((x7.length : Int) - t619)) + 1))).bind fun t620 => ((some (([(⟨#[]⟩ : ByteArray),(⟨#[113]⟩ : ByteArray),(⟨#[117,118]⟩ : ByteArray),(⟨#[230,151,165]⟩ : ByteArray)] : List ByteArray) : List ByteArray)).bind fun y621 => (if 0 <= (Int.tmod x9 4) then (if (Int.tmod x9 4) < (y621.length : Int) then ((edit_Replace.f x4 (wrap64 (1 + (Int.tmod x9 3))) t619 t620 (rdOf ByteArray.empty y621 (Int.tmod x9 4))).bind fun bt625 => ((w7_num.f bt625.2.2.2.2.2.2.2.2.2.2.2).bind fun t640 => (if t640 = 0 then ((r0_CopyOps.f k x4).bind fun t641 => ((some (([(⟨bt625.1,bt625.2.1,bt625.2.2.1,(⟨bt625.2.2.2.1,bt625.2.2.2.2.1,bt625.2.2.2.2.2.1⟩ : SElem),bt625.2.2.2.2.2.2.1,bt625.2.2.2.2.2.2.2.1,bt625.2.2.2.2.2.2.2.2.1,bt625.2.2.2.2.2.2.2.2.2.1,bt625.2.2.2.2.2.2.2.2.2.2.1⟩ : SOp)] : List (SOp)) : List (SOp))).bind fun y644 => (if t641.length + y644.length < 1256584717458 then ((some (t641 ++ y644 : List (SOp))).bind fun y647 => ((doc_Text.f y647).bind fun bt650 => (if 0 <= t619 then (if t619 <= (x7.length : Int) then ((r1_Make.f k (x7.take (t619 : Int).toNat)).bind fun t657 => (if t657.size + (rdOf ByteArray.empty y621 (Int.tmod x9 4)).size <= 9223372036854775807 then (if 0 <= (wrap64 (t619 + t620)) then (if (wrap64 (t619 + t620)) <= (x7.length : Int) then ((r1_Make.f k (x7.drop ((wrap64 (t619 + t620)) : Int).toNat)).bind fun t663 => (if (t657 ++ (rdOf ByteArray.empty y621 (Int.tmod x9 4))).size + t663.size <= 9223372036854775807 then ((w7_num.f bt650.2).bind fun t664 => (if t664 = 0 then (w7_EditLands.j3 k x3 x4 x5 x7 x9 (wrap64 (1 + (Int.tmod x9 3))) y647 ((t657 ++ (rdOf ByteArray.empty y621 (Int.tmod x9 4))) ++ t663) (bt650.1.toList != ((t657 ++ (rdOf ByteArray.empty y621 (Int.tmod x9 4))) ++ t663).toList) x610000 x610001 x610002 x610003 bt625.1 bt625.2.1 bt625.2.2.1 bt625.2.2.2.1 bt625.2.2.2.2.1 bt625.2.2.2.2.2.1 bt625.2.2.2.2.2.2.1 bt625.2.2.2.2.2.2.2.1 bt625.2.2.2.2.2.2.2.2.1 bt625.2.2.2.2.2.2.2.2.2.1 bt625.2.2.2.2.2.2.2.2.2.2.1) else (w7_EditLands.j3 k x3 x4 x5 x7 x9 (wrap64 (1 + (Int.tmod x9 3))) y647 ((t657 ++ (rdOf ByteArray.empty y621 (Int.tmod x9 4))) ++ t663) true x610000 x610001 x610002 x610003 bt625.1 bt625.2.1 bt625.2.2.1 bt625.2.2.2.1 bt625.2.2.2.2.1 bt625.2.2.2.2.2.1 bt625.2.2.2.2.2.2.1 bt625.2.2.2.2.2.2.2.1 bt625.2.2.2.2.2.2.2.2.1 bt625.2.2.2.2.2.2.2.2.2.1 bt625.2.2.2.2.2.2.2.2.2.2.1))) else (none))) else (none)) else (none)) else (none))) else (none)) else (none)))) else (none)))) else (w7_EditLands.l1 k x3 x4 x5 x7 (wrap64 (x9 + 1)) x610000 x610001 x610002 x610003)))) else (none)) else (none))))) else (w7_EditLands.l0 k (wrap64 (x3 + 1)) x610000 x610001 x610002 x610003)
def w7_EditLands.j3 : Nat -> Int -> List (SOp) -> ByteArray -> List Int -> Int -> Int -> List (SOp) -> ByteArray -> Bool -> List (List (SOp)) -> List (SElem) -> List (SOp) -> List Int -> Int -> Int -> Int -> Int -> Int -> Int -> ByteArray -> List (SElem) -> Int -> Int -> Int -> Option (Bool)
 | 0,_,_,_,_,_,_,_,_,_,_,_,_,_,_,_,_,_,_,_,_,_,_,_,_ => none
 | k + 1,x3,x4,x5,x7,x9,x13,x16,x19,x136,x610000,x610001,x610002,x610003,x640000,x640001,x640002,x640003,x640004,x640005,x640006,x640007,x640008,x640009,x640010 => if x136 = true then (some false) else ((edit_Toggle.f x16 x13 x640000 x640001).bind fun bt665 => ((w7_num.f bt665.2.2.2.2.2.2.2.2.2.2.2).bind fun t680 => (if t680 = 0 then ((r0_CopyOps.f k x16).bind fun t681 => ((some (([(⟨bt665.1,bt665.2.1,bt665.2.2.1,(⟨bt665.2.2.2.1,bt665.2.2.2.2.1,bt665.2.2.2.2.2.1⟩ : SElem),bt665.2.2.2.2.2.2.1,bt665.2.2.2.2.2.2.2.1,bt665.2.2.2.2.2.2.2.2.1,bt665.2.2.2.2.2.2.2.2.2.1,bt665.2.2.2.2.2.2.2.2.2.2.1⟩ : SOp)] : List (SOp)) : List (SOp))).bind fun y684 => (if t681.length + y684.length < 1256584717458 then ((some (t681 ++ y684 : List (SOp))).bind fun y687 => ((doc_Text.f y687).bind fun bt690 => ((w7_num.f bt690.2).bind fun t692 => (if t692 = 0 then (w7_EditLands.j4 k x3 x4 x5 x7 x9 x19 y687 (bt690.1.toList != x5.toList) x610000 x610001 x610002 x610003 x640000 x640001 x640002 x640003 x640004 x640005 x640006 x640007 x640008 x640009 x640010) else (w7_EditLands.j4 k x3 x4 x5 x7 x9 x19 y687 true x610000 x610001 x610002 x610003 x640000 x640001 x640002 x640003 x640004 x640005 x640006 x640007 x640008 x640009 x640010))))) else (none)))) else (w7_EditLands.l1 k x3 x4 x5 x7 (wrap64 (x9 + 1)) x610000 x610001 x610002 x610003))))
def w7_EditLands.j4 : Nat -> Int -> List (SOp) -> ByteArray -> List Int -> Int -> ByteArray -> List (SOp) -> Bool -> List (List (SOp)) -> List (SElem) -> List (SOp) -> List Int -> Int -> Int -> Int -> Int -> Int -> Int -> ByteArray -> List (SElem) -> Int -> Int -> Int -> Option (Bool)
 | 0,_,_,_,_,_,_,_,_,_,_,_,_,_,_,_,_,_,_,_,_,_,_,_ => none
 | k + 1,x3,x4,x5,x7,x9,x19,x22,x167,x610000,x610001,x610002,x610003,x640000,x640001,x640002,x640003,x640004,x640005,x640006,x640007,x640008,x640009,x640010 => if x167 = true then (some false) else ((edit_Toggle.f x22 (wrap64 (1 + (Int.tmod (wrap64 (x9 + 1)) 3))) x640000 x640001).bind fun bt693 => ((w7_num.f bt693.2.2.2.2.2.2.2.2.2.2.2).bind fun t708 => (if t708 = 0 then ((r0_CopyOps.f k x22).bind fun t709 => ((some (([(⟨bt693.1,bt693.2.1,bt693.2.2.1,(⟨bt693.2.2.2.1,bt693.2.2.2.2.1,bt693.2.2.2.2.2.1⟩ : SElem),bt693.2.2.2.2.2.2.1,bt693.2.2.2.2.2.2.2.1,bt693.2.2.2.2.2.2.2.2.1,bt693.2.2.2.2.2.2.2.2.2.1,bt693.2.2.2.2.2.2.2.2.2.2.1⟩ : SOp)] : List (SOp)) : List (SOp))).bind fun y712 => (if t709.length + y712.length < 1256584717458 then ((doc_Text.f (t709 ++ y712)).bind fun bt718 => ((w7_num.f bt718.2).bind fun t720 => (if t720 = 0 then (if bt718.1.toList = x19.toList then (w7_EditLands.l1 k x3 x4 x5 x7 (wrap64 (x9 + 1)) x610000 x610001 x610002 x610003) else (some false)) else (some false)))) else (none)))) else (w7_EditLands.l1 k x3 x4 x5 x7 (wrap64 (x9 + 1)) x610000 x610001 x610002 x610003))))
end
def w7_EditLands.f (k : Nat) (l0_0 : List (List (SOp))) (l0_1 : List (SElem)) (l0_2 : List (SOp)) (l0_3 : List Int) : Option (Bool):=(w5_Heavy.f k l0_0 l0_1 l0_2 l0_3).bind fun t610 => (if t610 = true then (some true) else (w7_EditLands.l0 k 0 l0_0 l0_1 l0_2 l0_3))
def w7_EditLands.T23 : Bool × List (List Nat × List Nat):=(true,[([],[]),([],[]),([0,1],[0,1]),([2],[2]),([],[]),([3,4],[3,4]),([],[]),([],[]),([],[]),([7,8],[7,8]),([6,9],[6,9]),([10,3],[10]),([5,11],[5,11]),([12,11,0,1,2,3,4,5,6,7,8,9,10,11,12],[12])])
def w7_EditLands.B23 : List Nat:=[0,0,3,7,0,31,0,0,0,384,960,1999,4095,8191]
theorem w7_EditLands.tab23 : rtab .any (Qdf Tryz.f4 23) = w7_EditLands.T23:=by kernel_rfl
theorem w7_EditLands.bits23 : Qay w7_EditLands.T23.2 w7_EditLands.B23 = true:=by kernel_rfl
def w7_EditLands.T34 : Bool × List (List Nat × List Nat):=(true,[([],[]),([0],[0]),([],[]),([2],[2]),([1,3,1],[1,3]),([4,4],[4]),([5],[5]),([6],[6]),([6],[6]),([7,5,0,1,2,3,4,5,6,7],[7]),([8,9,0,1,2,3,4,5,6,7,8,9],[8])])
def w7_EditLands.B34 : List Nat:=[0,1,0,4,15,31,63,127,127,255,1023]
theorem w7_EditLands.tab34 : rtab .any (Qdf Tryz.f4 34) = w7_EditLands.T34:=by kernel_rfl
theorem w7_EditLands.bits34 : Qay w7_EditLands.T34.2 w7_EditLands.B34 = true:=by kernel_rfl
theorem w7_EditLands.calls (k : Nat) (A0_0 : Option Addr) (c0_0 : Nat) (l0_0 : List (List (SOp))) (A0_1 : Option Addr) (c0_1 : Nat) (l0_1 : List (SElem)) (A0_2 : Option Addr) (c0_2 : Nat) (l0_2 : List (SOp)) (A0_3 : Option Addr) (c0_3 : Nat) (l0_3 : List Int) (r : Bool) (w : World) (hr0_0 : Kd.C (Kd.slice 34 kOp) w A0_0 l0_0.length l0_0) (hc0_0 : l0_0.length <= c0_0) (hr0_1 : Kd.C Qav w A0_1 l0_1.length l0_1) (hc0_1 : l0_1.length <= c0_1) (hr0_2 : Kd.C kOp w A0_2 l0_2.length l0_2) (hc0_2 : l0_2.length <= c0_2) (hr0_3 : Kd.C (Kd.int .i64) w A0_3 l0_3.length l0_3) (hc0_3 : l0_3.length <= c0_3) (hT : GT w) (h : w7_EditLands.f k l0_0 l0_1 l0_2 l0_3 = some r) :
  Calls Tryz.prog 4 #[.agg #[.slice A0_0 l0_0.length c0_0, .slice A0_1 l0_1.length c0_1, .slice A0_2 l0_2.length c0_2, .slice A0_3 l0_3.length c0_3]] w fun e w' => e = .returned (.bool r) /\ Below w.heap.size w w':=by
 have hu27:=Tryz.underlying27
 have hu34:=Tryz.underlying34
 have HR0_0:=Zz.k hr0_0
 have HC0_0:=Zz.k hc0_0
 clear hr0_0 hc0_0
 have HR0_1:=Zz.k hr0_1
 have HC0_1:=Zz.k hc0_1
 clear hr0_1 hc0_1
 have HR0_2:=Zz.k hr0_2
 have HC0_2:=Zz.k hc0_2
 clear hr0_2 hc0_2
 have HR0_3:=Zz.k hr0_3
 have HC0_3:=Zz.k hc0_3
 clear hr0_3 hc0_3
 have HB:=Zz.k (Below.refl w.heap.size w)
 unfold w7_EditLands.f at h; have H:=h
 clear h
 obtain ⟨t610,A2,H⟩:=bE H
 by_cases c3 : t610 = true
 ·show (let G_ : Prop:=_; G_)
  intro G_
  exact (let_tmp i_ : Nonempty G_:=(((⟨by
  subst G_
  subst c3
  rw [if_pos rfl] at H
  obtain rfl:=Zo H
  go_enter Tryz.func4,Tryz.ntmps4
  go_wp2_with (first | ((with_reducible refine Qad (N:=1) rfl ?_); refine bx 1 #[.slice A0_0 l0_0.length c0_0, .slice A0_1 l0_1.length c0_1, .slice A0_2 l0_2.length c0_2, .slice A0_3 l0_3.length c0_3] 27 (h := ?_); intro gb609 hg w4 hbox hb; have BK609:=Zz.k (hbox); have GW609:=bz HB hg; have GE609:=bz HB hg; replace HB:=bs HB hb; clear hb hbox hg; obtain ⟨_,_,_,_,_,_,_,_⟩:=kc4 BK609) | ((with_reducible refine Qaa (f:=7) rfl ?_); refine gl (some 30) Tryz.func7 #[.agg #[.slice A0_0 l0_0.length c0_0, .slice A0_1 l0_1.length c0_1, .slice A0_2 l0_2.length c0_2, .slice A0_3 l0_3.length c0_3]] (h := ?_); (with_reducible refine (w5_Heavy.calls k _ _ l0_0 _ _ l0_1 _ _ l0_2 _ _ l0_3 true _ ?side1 ?side2 ?side3 ?side4 ?side5 ?side6 ?side7 ?side8 A2.out).mono ?_); (case side1 => exact cb HR0_0 HB); (case side2 => exact HC0_0.out); (case side3 => exact cb HR0_1 HB); (case side4 => exact HC0_1.out); (case side5 => exact cb HR0_2 HB); (case side6 => exact HC0_2.out); (case side7 => exact cb HR0_3 HB); (case side8 => exact HC0_3.out); rintro e w6 ⟨rfl,hb⟩; refine ⟨_,rfl, ?_⟩; replace BK609:=bl BK609 hb; replace HB:=bs HB hb; clear hb))
  go_ret
  exact ⟨re,bw HB⟩⟩ : Nonempty G_)) :); w7_EditLands.bxo (G:=G_) (inferInstanceAs (Nonempty G_)))
 replace c3:=Zf c3
 subst c3
 rw [if_neg nft] at H
 have H':=Zz.k H
 clear H
 go_enter Tryz.func4,Tryz.ntmps4
 go_wp2_with (first | ((with_reducible refine Qad (N:=1) rfl ?_); refine bx 1 #[.slice A0_0 l0_0.length c0_0, .slice A0_1 l0_1.length c0_1, .slice A0_2 l0_2.length c0_2, .slice A0_3 l0_3.length c0_3] 27 (h := ?_); intro gb609 hg w7 hbox hb; have BK609:=Zz.k (hbox); have GW609:=bz HB hg; have GE609:=bz HB hg; replace HB:=bs HB hb; clear hb hbox hg; obtain ⟨_,_,_,_,_,_,_,_⟩:=kc4 BK609) | ((with_reducible refine Qaa (f:=7) rfl ?_); refine gl (some 30) Tryz.func7 #[.agg #[.slice A0_0 l0_0.length c0_0, .slice A0_1 l0_1.length c0_1, .slice A0_2 l0_2.length c0_2, .slice A0_3 l0_3.length c0_3]] (h := ?_); (with_reducible refine (w5_Heavy.calls k _ _ l0_0 _ _ l0_1 _ _ l0_2 _ _ l0_3 false _ ?side1 ?side2 ?side3 ?side4 ?side5 ?side6 ?side7 ?side8 A2.out).mono ?_); (case side1 => exact cb HR0_0 HB); (case side2 => exact HC0_0.out); (case side3 => exact cb HR0_1 HB); (case side4 => exact HC0_1.out); (case side5 => exact cb HR0_2 HB); (case side6 => exact HC0_2.out); (case side7 => exact cb HR0_3 HB); (case side8 => exact HC0_3.out); rintro e w9 ⟨rfl,hb⟩; refine ⟨_,rfl, ?_⟩; replace BK609:=bl BK609 hb; replace HB:=bs HB hb; clear hb))
 go_loopg [3] k (fun kq v3 w' => ∃ (x3_1 : Int),v3 = .int .i64 x3_1 /\ Zz (w7_EditLands.l0 kq x3_1 l0_0 l0_1 l0_2 l0_3 = some r) /\ Zz (kq <= k) /\ Zz (w'.heap[gb609]? = some (.cells #[(.slice A0_0 l0_0.length c0_0),(.slice A0_1 l0_1.length c0_1),(.slice A0_2 l0_2.length c0_2),(.slice A0_3 l0_3.length c0_3)] 27 (0,0))) /\ Zz (Below w.heap.size w w'))
 case atStart => exact ⟨(0),rf,H',⟨Nat.le_refl _⟩,⟨kk BK609⟩,⟨bw HB⟩⟩
 case round =>
  show (let G_ : Prop:=_; G_)
  intro G_
  exact (let_tmp i_ : Nonempty G_:=(((⟨by
  subst G_
  clear H'
  try clear c3
  obtain ⟨x3_1,rfl,HA,HK1,BK609,HB⟩:=hrel
  cases gk with
  | zero => exact absurd HA.out (by simp [w7_EditLands.l0])
  | succ k1 =>
   have H:=HA.out
   clear HA
   simp only [w7_EditLands.l0] at H
   have HC10:=Zz.k H
   clear H
   go_upto_region 4 with (fail)
   go_cut [39] (fun v39 wc => ∃ (kq : Nat) (x39_9 : Bool),v39 = .bool x39_9 /\ Zz (w7_EditLands.j1 kq x3_1 x39_9 l0_0 l0_1 l0_2 l0_3 = some r) /\ Zz (kq <= k1) /\ Zz (wc.heap[gb609]? = some (.cells #[(.slice A0_0 l0_0.length c0_0),(.slice A0_1 l0_1.length c0_1),(.slice A0_2 l0_2.length c0_2),(.slice A0_3 l0_3.length c0_3)] 27 (0,0))) /\ Zz (Below w.heap.size w wc))
   case first =>
    have H:=HC10.out
    clear HC10
    by_cases c11 : x3_1 < (l0_0.length : Int)
    ·show (let G_ : Prop:=_; G_)
     intro G_
     exact (let_tmp i_ : Nonempty G_:=(((⟨by
     subst G_
     rw [if_pos c11] at H
     have c11b0:=Zd c11
     clear c11
     (first | rw [c11b0] | (simp only [i64_w,i32_w]; rw [c11b0]) | skip)
     have H':=Zz.k H
     clear H
     obtain ⟨_,_,_,_,_,_,_,_⟩:=kc4 BK609
     go_wp2
     go_meet
     case rel => exact ⟨_,(decide (x3_1 < 4)),rf,H',⟨by have:=HK1.out; first | omega | exact Nat.le_refl _⟩,⟨kk BK609⟩,⟨bw HB⟩⟩⟩ : Nonempty G_)) :); w7_EditLands.bxo (G:=G_) (inferInstanceAs (Nonempty G_)))
    rw [if_neg c11] at H
    have c11b0:=Ze c11
    clear c11
    (first | rw [c11b0] | (simp only [i64_w,i32_w]; rw [c11b0]) | skip)
    have H':=Zz.k H
    clear H
    obtain ⟨_,_,_,_,_,_,_,_⟩:=kc4 BK609
    go_wp2
    go_meet
    case rel => exact ⟨_,(false),rf,H',⟨by have:=HK1.out; first | omega | exact Nat.le_refl _⟩,⟨kk BK609⟩,⟨bw HB⟩⟩
   case rest =>
    show (let G_ : Prop:=_; G_)
    intro G_
    exact (let_tmp i_ : Nonempty G_:=(((⟨by
    subst G_
    clear HC10
    obtain ⟨kq,x39_9,rfl,HA,HJ9,BK609,HB⟩:=hcut
    cases kq with
    | zero => exact absurd HA.out (by simp [w7_EditLands.j1])
    | succ kj9 =>
     have H:=HA.out
     clear HA
     simp only [w7_EditLands.j1] at H
     by_cases c14 : x39_9 = true; rotate_left
     ·replace c14:=Zf c14
      subst c14
      rw [if_neg nft] at H
      obtain ⟨t721,A203,H⟩:=bE H
      by_cases c204 : t721 = true
      ·show (let G_ : Prop:=_; G_)
       intro G_
       exact (let_tmp i_ : Nonempty G_:=(((⟨by
       subst G_
       subst c204
       rw [if_pos rfl] at H
       obtain ⟨t722,A205,H⟩:=bE H
       obtain rfl:=Zo H
       go_wp2_with (first | ((with_reducible refine Qaa (f:=8) rfl ?_); refine gl (some 201) Tryz.func8 #[.slice none 0 0] (h := ?_); (refine (r4_Row.calls kj9 _ _ ([] : List (SOp)) true _ ?side1 ?side2 ?side3 A203.out).mono ?_); (case side1 => exact Kd.C_nil _ _); (case side2 => exact Nat.le_refl _); (case side3 => exact (hT.below (bw HB))); rintro e w206 ⟨rfl,hb⟩; refine ⟨_,rfl, ?_⟩; replace BK609:=bl BK609 hb; replace HB:=bs HB hb; clear hb) | (go_at_call 16; (with_reducible refine (w7_wakes.calls  t722 _ A205.out).mono ?_); rintro e w207 ⟨rfl,hb⟩; replace BK609:=bl BK609 hb; replace HB:=bs HB hb; clear hb))
       go_ret
       exact ⟨re,bw HB⟩⟩ : Nonempty G_)) :); w7_EditLands.bxo (G:=G_) (inferInstanceAs (Nonempty G_)))
      replace c204:=Zf c204
      subst c204
      rw [if_neg nft] at H
      obtain rfl:=Zo H
      go_wp2_with (first | ((with_reducible refine Qaa (f:=8) rfl ?_); refine gl (some 201) Tryz.func8 #[.slice none 0 0] (h := ?_); (refine (r4_Row.calls kj9 _ _ ([] : List (SOp)) false _ ?side1 ?side2 ?side3 A203.out).mono ?_); (case side1 => exact Kd.C_nil _ _); (case side2 => exact Nat.le_refl _); (case side3 => exact (hT.below (bw HB))); rintro e w208 ⟨rfl,hb⟩; refine ⟨_,rfl, ?_⟩; replace BK609:=bl BK609 hb; replace HB:=bs HB hb; clear hb))
      go_ret
      exact ⟨re,bw HB⟩
     show (let G_ : Prop:=_; G_)
     intro G_
     exact (let_tmp i_ : Nonempty G_:=(((⟨by
     subst G_
     subst c14
     rw [if_pos rfl] at H
     by_cases c15 : 0 <= x3_1; rotate_left
     ·rw [if_neg c15] at H
      exact absurd H (by simp)
     show (let G_ : Prop:=_; G_)
     intro G_
     exact (let_tmp i_ : Nonempty G_:=(((⟨by
     subst G_
     rw [if_pos c15] at H
     have c15b0:=Zd c15
     clear c15
     by_cases c16 : x3_1 < (l0_0.length : Int); rotate_left
     ·rw [if_neg c16] at H
      exact absurd H (by simp)
     show (let G_ : Prop:=_; G_)
     intro G_
     exact (let_tmp i_ : Nonempty G_:=(((⟨by
     subst G_
     rw [if_pos c16] at H
     have c16b0:=Zd c16
     clear c16
     obtain ⟨⟨t612,t613⟩,A17,H⟩:=bE H
     try dsimp only at H
     obtain ⟨t614,A18,H⟩:=bE H
     by_cases c19 : t614 = 0; rotate_left
     ·rw [if_neg c19] at H
      obtain ⟨c19b0,c19b1⟩:=bF c19
      have H':=Zz.k H
      clear H
      obtain ⟨_,_,_,_,_,_,_,_⟩:=kc4 BK609
      have p611 : 0 <= (x3_1 : Int):=od
      have q611 : x3_1 < (l0_0.length : Int):=od
      obtain ⟨ad611,A611_0,c611_0,e611,hx611_0,hl611_0,hi611_0⟩:=at_LOp HR0_0.out x3_1 p611 q611
      cases e611
      replace hx611_0:=cl HB hx611_0
      have HR611_0:=Zz.k hi611_0
      have HC611_0:=Zz.k hl611_0
      clear hi611_0 hl611_0
      replace p611:=eq_true p611
      replace q611:=eq_true q611
      go_wp2_with (first | ((with_reducible refine Qaa (f:=17) rfl ?_); refine gl (some 49) Tryz.func17 #[.slice A611_0 (Qbo l0_0 x3_1).length c611_0] (h := ?_); (with_reducible refine (doc_Text.calls _ _ (Qbo l0_0 x3_1) t612 t613 _ ?side1 ?side2 A17.out).mono ?_); (case side1 => exact cb HR611_0 HB); (case side2 => exact HC611_0.out); rintro e w202 ⟨rfl,hb⟩; refine ⟨_,rfl, ?_⟩; replace BK609:=bl BK609 hb; replace HB:=bs HB hb; clear hb) | ((with_reducible refine Qaa (f:=11) rfl ?_); refine gl (some 53) Tryz.func11 #[.int .i64 t613] (h := ?_); (with_reducible refine (w7_num.calls t613 t614 _ A18.out).mono ?_); rintro e w' ⟨rfl,⟨nd,rfl⟩⟩; refine ⟨_,rfl, ?_⟩))
      go_roundg kj9
      case measure => have:=HK1.out; have:=HJ9.out; omega
      case rel => exact ⟨(wrap64 (x3_1 + 1)),rf,H',⟨by have:=HK1.out; have:=HJ9.out; omega⟩,⟨kk BK609⟩,⟨bw HB⟩⟩
     show (let G_ : Prop:=_; G_)
     intro G_
     exact (let_tmp i_ : Nonempty G_:=(((⟨by
     subst G_
     rw [if_pos c19] at H
     obtain ⟨c19b0,c19b1⟩:=bT c19
     clear c19
     obtain ⟨⟨t615,t616⟩,A20,H⟩:=bE H
     try dsimp only at H
     by_cases c21 : t616 = true; rotate_left
     ·replace c21:=Zf c21
      subst c21
      rw [if_neg nft] at H
      obtain rfl:=Zo H
      obtain ⟨_,_,_,_,_,_,_,_⟩:=kc4 BK609
      have p611 : 0 <= (x3_1 : Int):=od
      have q611 : x3_1 < (l0_0.length : Int):=od
      obtain ⟨ad611,A611_0,c611_0,e611,hx611_0,hl611_0,hi611_0⟩:=at_LOp HR0_0.out x3_1 p611 q611
      cases e611
      replace hx611_0:=cl HB hx611_0
      have HR611_0:=Zz.k hi611_0
      have HC611_0:=Zz.k hl611_0
      clear hi611_0 hl611_0
      replace p611:=eq_true p611
      replace q611:=eq_true q611
      go_wp2_with (first | ((with_reducible refine Qaa (f:=17) rfl ?_); refine gl (some 49) Tryz.func17 #[.slice A611_0 (Qbo l0_0 x3_1).length c611_0] (h := ?_); (with_reducible refine (doc_Text.calls _ _ (Qbo l0_0 x3_1) t612 t613 _ ?side1 ?side2 A17.out).mono ?_); (case side1 => exact cb HR611_0 HB); (case side2 => exact HC611_0.out); rintro e w199 ⟨rfl,hb⟩; refine ⟨_,rfl, ?_⟩; replace BK609:=bl BK609 hb; replace HB:=bs HB hb; clear hb) | ((with_reducible refine Qaa (f:=11) rfl ?_); refine gl (some 53) Tryz.func11 #[.int .i64 t613] (h := ?_); (with_reducible refine (w7_num.calls t613 t614 _ A18.out).mono ?_); rintro e w' ⟨rfl,⟨nd,rfl⟩⟩; refine ⟨_,rfl, ?_⟩) | ((with_reducible refine Qaa (f:=18) rfl ?_); refine gl (some 57) Tryz.func18 #[.string t612] (h := ?_); (with_reducible refine (r1_Runes.calls kj9 t612 t615 false _ ?side1 A20.out).mono ?_); (case side1 => exact (hT.below (bw HB))); rintro e w200 ⟨v617,rfl,ho0,hb⟩; refine ⟨_,rfl, ?_⟩; have HO618:=Zz.k (Kd.R_lower ho0 (Qag (bw HB))); replace BK609:=bl BK609 hb; replace HB:=bs HB hb; clear hb; clear ho0))
      go_ret
      exact ⟨re,bw HB⟩
     show (let G_ : Prop:=_; G_)
     intro G_
     exact (let_tmp i_ : Nonempty G_:=(((⟨by
     subst G_
     subst c21
     rw [if_pos rfl] at H
     have H':=Zz.k H
     clear H
     obtain ⟨_,_,_,_,_,_,_,_⟩:=kc4 BK609
     have p611 : 0 <= (x3_1 : Int):=od
     have q611 : x3_1 < (l0_0.length : Int):=od
     obtain ⟨ad611,A611_0,c611_0,e611,hx611_0,hl611_0,hi611_0⟩:=at_LOp HR0_0.out x3_1 p611 q611
     cases e611
     replace hx611_0:=cl HB hx611_0
     have HR611_0:=Zz.k hi611_0
     have HC611_0:=Zz.k hl611_0
     clear hi611_0 hl611_0
     replace p611:=eq_true p611
     replace q611:=eq_true q611
     go_wp2_with (first | ((with_reducible refine Qaa (f:=17) rfl ?_); refine gl (some 49) Tryz.func17 #[.slice A611_0 (Qbo l0_0 x3_1).length c611_0] (h := ?_); (with_reducible refine (doc_Text.calls _ _ (Qbo l0_0 x3_1) t612 t613 _ ?side1 ?side2 A17.out).mono ?_); (case side1 => exact cb HR611_0 HB); (case side2 => exact HC611_0.out); rintro e w23 ⟨rfl,hb⟩; refine ⟨_,rfl, ?_⟩; replace BK609:=bl BK609 hb; replace HB:=bs HB hb; clear hb) | ((with_reducible refine Qaa (f:=11) rfl ?_); refine gl (some 53) Tryz.func11 #[.int .i64 t613] (h := ?_); (with_reducible refine (w7_num.calls t613 t614 _ A18.out).mono ?_); rintro e w' ⟨rfl,⟨nd,rfl⟩⟩; refine ⟨_,rfl, ?_⟩) | ((with_reducible refine Qaa (f:=18) rfl ?_); refine gl (some 57) Tryz.func18 #[.string t612] (h := ?_); (with_reducible refine (r1_Runes.calls kj9 t612 t615 true _ ?side1 A20.out).mono ?_); (case side1 => exact (hT.below (bw HB))); rintro e w24 ⟨v617,rfl,ho0,hb⟩; refine ⟨_,rfl, ?_⟩; have HO618:=Zz.k (Kd.R_lower ho0 (Qag (bw HB))); replace BK609:=bl BK609 hb; replace HB:=bs HB hb; clear hb; clear ho0))
     go_loopg [9] kj9 (fun kq v9 w' => ∃ (x9_3 : Int),v9 = .int .i64 x9_3 /\ Zz (w7_EditLands.l1 kq x3_1 (Qbo l0_0 x3_1) t612 t615 x9_3 l0_0 l0_1 l0_2 l0_3 = some r) /\ Zz (kq <= kj9) /\ Zz (Kd.R (Kd.int .i32) 21 w' w.heap.size (fun _ => True) v617 t615) /\ Zz (w'.heap[gb609]? = some (.cells #[(.slice (some ad611) l0_0.length c0_0),(.slice A0_1 l0_1.length c0_1),(.slice A0_2 l0_2.length c0_2),(.slice A0_3 l0_3.length c0_3)] 27 (0,0))) /\ Zz (Below w.heap.size w w'))
     case atStart => exact ⟨(0),rf,H',⟨Nat.le_refl _⟩,⟨rk HO618⟩,⟨kk BK609⟩,⟨bw HB⟩⟩
     case round =>
      show (let G_ : Prop:=_; G_)
      intro G_
      exact (let_tmp i_ : Nonempty G_:=(((⟨by
      subst G_
      clear H'
      try clear c14; try clear c15b0; try clear c16b0; try clear c19b0; try clear c19b1; try clear c21; try clear hx611_0; try clear p611; try clear q611
      obtain ⟨x9_3,rfl,HA,HK3,HO_7,BK609,HB⟩:=hrel
      cases gk with
      | zero => exact absurd HA.out (by simp [w7_EditLands.l1])
      | succ k3 =>
       have H:=HA.out
       clear HA
       simp only [w7_EditLands.l1] at H
       by_cases c25 : x9_3 < 8; rotate_left
       ·rw [if_neg c25] at H
        have c25b0:=Ze c25
        clear c25
        have H':=Zz.k H
        clear H
        go_wp2
        go_roundg k3
        case measure => have:=HK1.out; have:=HJ9.out; have:=HK3.out; omega
        case rel => exact ⟨(wrap64 (x3_1 + 1)),rf,H',⟨by have:=HK1.out; have:=HJ9.out; have:=HK3.out; omega⟩,⟨kk BK609⟩,⟨bw HB⟩⟩
       show (let G_ : Prop:=_; G_)
       intro G_
       exact (let_tmp i_ : Nonempty G_:=(((⟨by
       subst G_
       rw [if_pos c25] at H
       have c25b0:=Zd c25
       clear c25
       obtain ⟨t619,A26,H⟩:=bE H
       obtain ⟨t620,A27,H⟩:=bE H
       obtain ⟨y621,hy621⟩ : ∃ y_ : List ByteArray,y_ = (([(⟨#[]⟩ : ByteArray),(⟨#[113]⟩ : ByteArray),(⟨#[117,118]⟩ : ByteArray),(⟨#[230,151,165]⟩ : ByteArray)] : List ByteArray)):=⟨_,rfl⟩
       first | rw [Option.bind_some,<- hy621] at H | rw [<- hy621] at H
       have Ny621:=Zz.k hy621
       clear hy621
       obtain ⟨ji28,hji28⟩ : ∃ j_ : Int,(Int.tmod x9_3 4) = j_:=⟨_,rfl⟩
       replace H : (if 0 <= (ji28) then (if (ji28) < (y621.length : Int) then ((edit_Replace.f (Qbo l0_0 x3_1) (wrap64 (1 + (Int.tmod x9_3 3))) t619 t620 (rdOf ByteArray.empty y621 (ji28))).bind fun bt625 => ((w7_num.f bt625.2.2.2.2.2.2.2.2.2.2.2).bind fun t640 => (if t640 = 0 then ((r0_CopyOps.f k3 (Qbo l0_0 x3_1)).bind fun t641 => ((some (([(⟨bt625.1,bt625.2.1,bt625.2.2.1,(⟨bt625.2.2.2.1,bt625.2.2.2.2.1,bt625.2.2.2.2.2.1⟩ : SElem),bt625.2.2.2.2.2.2.1,bt625.2.2.2.2.2.2.2.1,bt625.2.2.2.2.2.2.2.2.1,bt625.2.2.2.2.2.2.2.2.2.1,bt625.2.2.2.2.2.2.2.2.2.2.1⟩ : SOp)] : List (SOp)) : List (SOp))).bind fun y644 => (if t641.length + y644.length < 1256584717458 then ((some (t641 ++ y644 : List (SOp))).bind fun y647 => ((doc_Text.f y647).bind fun bt650 => (if 0 <= t619 then (if t619 <= (t615.length : Int) then ((r1_Make.f k3 (t615.take (t619 : Int).toNat)).bind fun t657 => (if t657.size + (rdOf ByteArray.empty y621 (ji28)).size <= 9223372036854775807 then (if 0 <= (wrap64 (t619 + t620)) then (if (wrap64 (t619 + t620)) <= (t615.length : Int) then ((r1_Make.f k3 (t615.drop ((wrap64 (t619 + t620)) : Int).toNat)).bind fun t663 => (if (t657 ++ (rdOf ByteArray.empty y621 (ji28))).size + t663.size <= 9223372036854775807 then ((w7_num.f bt650.2).bind fun t664 => (if t664 = 0 then (w7_EditLands.j3 k3 x3_1 (Qbo l0_0 x3_1) t612 t615 x9_3 (wrap64 (1 + (Int.tmod x9_3 3))) y647 ((t657 ++ (rdOf ByteArray.empty y621 (ji28))) ++ t663) (bt650.1.toList != ((t657 ++ (rdOf ByteArray.empty y621 (ji28))) ++ t663).toList) l0_0 l0_1 l0_2 l0_3 bt625.1 bt625.2.1 bt625.2.2.1 bt625.2.2.2.1 bt625.2.2.2.2.1 bt625.2.2.2.2.2.1 bt625.2.2.2.2.2.2.1 bt625.2.2.2.2.2.2.2.1 bt625.2.2.2.2.2.2.2.2.1 bt625.2.2.2.2.2.2.2.2.2.1 bt625.2.2.2.2.2.2.2.2.2.2.1) else (w7_EditLands.j3 k3 x3_1 (Qbo l0_0 x3_1) t612 t615 x9_3 (wrap64 (1 + (Int.tmod x9_3 3))) y647 ((t657 ++ (rdOf ByteArray.empty y621 (ji28))) ++ t663) true l0_0 l0_1 l0_2 l0_3 bt625.1 bt625.2.1 bt625.2.2.1 bt625.2.2.2.1 bt625.2.2.2.2.1 bt625.2.2.2.2.2.1 bt625.2.2.2.2.2.2.1 bt625.2.2.2.2.2.2.2.1 bt625.2.2.2.2.2.2.2.2.1 bt625.2.2.2.2.2.2.2.2.2.1 bt625.2.2.2.2.2.2.2.2.2.2.1))) else (none))) else (none)) else (none)) else (none))) else (none)) else (none)))) else (none)))) else (w7_EditLands.l1 k3 x3_1 (Qbo l0_0 x3_1) t612 t615 (wrap64 (x9_3 + 1)) l0_0 l0_1 l0_2 l0_3)))) else (none)) else (none)) = some r:=by first | (rw [hji28] at H; exact H) | (simp only [hji28] at H ⊢; exact H)
       (try rw [hji28] at A26)
       (try rw [hji28] at A27)
       by_cases c29 : 0 <= (ji28); rotate_left
       ·rw [if_neg c29] at H
        exact absurd H (by simp)
       show (let G_ : Prop:=_; G_)
       intro G_
       exact (let_tmp i_ : Nonempty G_:=(((⟨by
       subst G_
       rw [if_pos c29] at H
       have c29b0:=Zd c29
       clear c29
       by_cases c30 : (ji28) < (y621.length : Int); rotate_left
       ·rw [if_neg c30] at H
        exact absurd H (by simp)
       show (let G_ : Prop:=_; G_)
       intro G_
       exact (let_tmp i_ : Nonempty G_:=(((⟨by
       subst G_
       rw [if_pos c30] at H
       have c30b0:=Zd c30
       clear c30
       obtain ⟨⟨t625,t626,t627,t628,t629,t630,t631,t632,t635,t636,t637,t638⟩,A31,H⟩:=bE H
       try dsimp only at H
       obtain ⟨t640,A32,H⟩:=bE H
       by_cases c33 : t640 = 0; rotate_left
       ·rw [if_neg c33] at H
        obtain ⟨c33b0,c33b1⟩:=bF c33
        have H':=Zz.k H
        clear H
        obtain ⟨_,_,_,_,_,_,_,_⟩:=kc4 BK609
        obtain ⟨Ao189,co189,eo189⟩:=Kd.R_slice HO_7.out
        subst eo189
        go_wp2_with (first | ((with_reducible refine Qaa (f:=19) rfl ?_); refine gl (some 75) Tryz.func19 #[.int .i64 (wrap64 ((wrap64 (x9_3 * 3)) + (l0_3.length : Int))), .int .i64 (wrap64 ((t615.length : Int) + 1))] (h := ?_); (with_reducible refine (w0_Within.calls (wrap64 ((wrap64 (x9_3 * 3)) + (l0_3.length : Int))) (wrap64 ((t615.length : Int) + 1)) t619 _ A26.out).mono ?_); rintro e w' ⟨rfl,⟨nd,rfl⟩⟩; refine ⟨_,rfl, ?_⟩; (try (rw [Qbm wr]; generalize hq_ : World.drewN wr _ = wr; have n0_ : Zz (Kd.R (Kd.int .i32) 21 wr w.heap.size (fun _ => True) (.slice Ao189 t615.length co189) t615):=⟨by rw [<- hq_]; exact (rk HO_7)⟩; have n1_ : Zz (wr.heap[gb609]? = some (.cells #[.slice (some ad611) l0_0.length c0_0, .slice A0_1 l0_1.length c0_1, .slice A0_2 l0_2.length c0_2, .slice A0_3 l0_3.length c0_3] 27 (0,0))):=⟨by rw [<- hq_]; exact (kk BK609)⟩; have n2_ : Zz (Below w.heap.size w wr):=⟨by rw [<- hq_]; exact (bw HB)⟩; clear HO_7 BK609 HB hq_; have HO_7:=n0_; have BK609:=n1_; have HB:=n2_; clear n0_ n1_ n2_))) | ((with_reducible refine Qaa (f:=19) rfl ?_); refine gl (some 85) Tryz.func19 #[.int .i64 (wrap64 ((wrap64 (x9_3 * 5)) + x3_1)), .int .i64 (wrap64 ((wrap64 ((t615.length : Int) - t619)) + 1))] (h := ?_); (with_reducible refine (w0_Within.calls (wrap64 ((wrap64 (x9_3 * 5)) + x3_1)) (wrap64 ((wrap64 ((t615.length : Int) - t619)) + 1)) t620 _ A27.out).mono ?_); rintro e w' ⟨rfl,⟨nd,rfl⟩⟩; refine ⟨_,rfl, ?_⟩; (try (rw [Qbm wr]; generalize hq_ : World.drewN wr _ = wr; have n0_ : Zz (Kd.R (Kd.int .i32) 21 wr w.heap.size (fun _ => True) (.slice Ao189 t615.length co189) t615):=⟨by rw [<- hq_]; exact (rk HO_7)⟩; have n1_ : Zz (wr.heap[gb609]? = some (.cells #[.slice (some ad611) l0_0.length c0_0, .slice A0_1 l0_1.length c0_1, .slice A0_2 l0_2.length c0_2, .slice A0_3 l0_3.length c0_3] 27 (0,0))):=⟨by rw [<- hq_]; exact (kk BK609)⟩; have n2_ : Zz (Below w.heap.size w wr):=⟨by rw [<- hq_]; exact (bw HB)⟩; clear HO_7 BK609 HB hq_; have HO_7:=n0_; have BK609:=n1_; have HB:=n2_; clear n0_ n1_ n2_))) | ((with_reducible refine Qad (N:=86) rfl ?_); refine Kd.R_lit Kd.string _ 9 ?hg (N:=86) ?hd (xs:=([(⟨#[]⟩ : ByteArray),(⟨#[113]⟩ : ByteArray),(⟨#[117,118]⟩ : ByteArray),(⟨#[230,151,165]⟩ : ByteArray)] : List ByteArray)) (inner:=[.string (⟨#[]⟩ : ByteArray), .string (⟨#[113]⟩ : ByteArray), .string (⟨#[117,118]⟩ : ByteArray), .string (⟨#[230,151,165]⟩ : ByteArray)]) (ok:=fun _ => True) (okp:=fun _ => True) ?hr ?hp (fun _ hk => hk) trivial (Below.refl _ _) (Nat.le_refl _) (by simp) ?_; (case hd => rfl); (case hg => rfl); (case hr => first | (go_simp; done) | (go_simp; rfl)); (case hp => exact (Reps.one (show Kd.M Kd.string _ _ _ (⟨#[]⟩ : ByteArray) [.string (⟨#[]⟩ : ByteArray)] from rfl) (Reps.one (show Kd.M Kd.string _ _ _ (⟨#[113]⟩ : ByteArray) [.string (⟨#[113]⟩ : ByteArray)] from rfl) (Reps.one (show Kd.M Kd.string _ _ _ (⟨#[117,118]⟩ : ByteArray) [.string (⟨#[117,118]⟩ : ByteArray)] from rfl) (Reps.one (show Kd.M Kd.string _ _ _ (⟨#[230,151,165]⟩ : ByteArray) [.string (⟨#[230,151,165]⟩ : ByteArray)] from rfl) (Reps.none _ _)))))); intro v622 w190 ho191 hb hg_ hnew_; clear hg_ hnew_; (first | rw [<- Ny621.out] at ho191 | (simp only [Int.reduceToNat] at ho191; rw [<- Ny621.out] at ho191)); have HO623:=Zz.k (Kd.R_lower ho191 (Qag (bw HB))); replace HO_7:=rb HO_7 hb; replace BK609:=bl BK609 hb; replace HB:=bs HB hb; clear hb ho191; obtain ⟨Ao192,co192,eo192⟩:=Kd.R_slice HO623.out; subst eo192; have p624 : 0 <= ((ji28) : Int):=od; have q624 : (ji28) < (y621.length : Int):=od; obtain ⟨ad624,e624,hx624_0⟩:=Kd.at_string (Kd.R_reads' HO623.out).2.2 (ji28) p624 q624; cases e624; replace p624:=eq_true p624; replace q624:=eq_true q624) | ((with_reducible refine Qaa (f:=10) rfl ?_); refine goesL_ (some 100) rfl rfl Tryz.func10 (by kernel_rfl) rfl #[.slice A611_0 (Qbo l0_0 x3_1).length c611_0, .int .i64 (wrap64 (1 + (Int.tmod x9_3 3))), .int .i64 t619, .int .i64 t620, .string (rdOf ByteArray.empty y621 (ji28))] rfl (by (try simp only [List.map_toArray,List.map_cons,List.map_nil]); first | done | (simp only [hji28]; rfl) | rfl | (simp only [List.length_drop,List.length_take]; rfl)) ?_; (with_reducible refine (edit_Replace.calls _ _ (Qbo l0_0 x3_1) (wrap64 (1 + (Int.tmod x9_3 3))) t619 t620 (rdOf ByteArray.empty y621 (ji28)) t625 t626 t627 t628 t629 t630 t631 t632 t635 t636 t637 t638 _ ?side1 ?side2 A31.out).mono ?_); (case side1 => exact cb HR611_0 HB); (case side2 => exact HC611_0.out); rintro e w193 ⟨v633,rfl,ho0,hb⟩; refine ⟨_,rfl, ?_⟩; have HO634:=Zz.k (Kd.R_lower ho0 (Qag (bw HB))); replace HO_7:=rb HO_7 hb; replace HO623:=rb HO623 hb; replace BK609:=bl BK609 hb; replace HB:=bs HB hb; clear hb; clear ho0) | ((with_reducible refine Qad (N:=14) rfl ?_); refine bx 14 #[.int .i64 0, .int .i64 0, .int .i64 0, .int .i64 0, .int .i64 0, .int .i64 0, .string (⟨#[]⟩ : ByteArray), .slice none 0 0, .int .i64 0, .int .i64 0, .int .i64 0] 34 (h := ?_); intro gb639 hg w194 hbox hb; have BK639:=Zz.k (hbox); have GW639:=bz HB hg; have GE639:=bz HB hg; have NB609_639:=bn BK609 hg; have NB639_609:=bm BK609 hg; replace HO_7:=rb HO_7 hb; replace HO623:=rb HO623 hb; replace HO634:=rb HO634 hb; replace BK609:=bl BK609 hb; replace HB:=bs HB hb; clear hb hbox hg; have hnb195:=NB639_609.out; have hnc195:=NB609_639.out; obtain ⟨_,_,_,_,_,_,_,_,_,_,_,_,_,_,_,_,_,_,_,_,_,_⟩:=kc11 BK639; obtain ⟨Ao197,co197,eo197⟩:=Kd.R_slice HO634.out; subst eo197) | ((with_reducible refine Qaa (f:=11) rfl ?_); refine gl (some 104) Tryz.func11 #[.int .i64 t638] (h := ?_); (with_reducible refine (w7_num.calls t638 t640 _ A32.out).mono ?_); rintro e w' ⟨rfl,⟨nd,rfl⟩⟩; refine ⟨_,rfl, ?_⟩))
        go_roundg k3
        case measure => have:=HK1.out; have:=HJ9.out; have:=HK3.out; omega
        case rel => exact ⟨(wrap64 (x9_3 + 1)),rf,H',⟨by have:=HK1.out; have:=HJ9.out; have:=HK3.out; omega⟩,⟨by (with_reducible repeat (first | apply Kd.R_alloc | apply Kd.R_drewN | apply Kd.R_drew)); exact Kd.R_mono (rf11 (Kd.R_types HO_7.out BK639.out (by decide))) (fun _ hk => trivial)⟩,⟨kk BK609⟩,⟨bw HB⟩⟩
       show (let G_ : Prop:=_; G_)
       intro G_
       exact (let_tmp i_ : Nonempty G_:=(((⟨by
       subst G_
       rw [if_pos c33] at H
       obtain ⟨c33b0,c33b1⟩:=bT c33
       clear c33
       obtain ⟨t641,A34,H⟩:=bE H
       obtain ⟨y644,hy644⟩ : ∃ y_ : List (SOp),y_ = (([(⟨t625,t626,t627,(⟨t628,t629,t630⟩ : SElem),t631,t632,t635,t636,t637⟩ : SOp)] : List (SOp))):=⟨_,rfl⟩
       first | rw [Option.bind_some,<- hy644] at H | rw [<- hy644] at H
       have Ny644:=Zz.k hy644
       clear hy644
       by_cases c35 : t641.length + y644.length < 1256584717458; rotate_left
       ·rw [if_neg c35] at H
        exact absurd H (by simp)
       show (let G_ : Prop:=_; G_)
       intro G_
       exact (let_tmp i_ : Nonempty G_:=(((⟨by
       subst G_
       rw [if_pos c35] at H
       have LMc35:=Zz.k c35
       clear c35
       obtain ⟨y647,hy647⟩ : ∃ y_ : List (SOp),y_ = (t641 ++ y644):=⟨_,rfl⟩
       first | rw [Option.bind_some,<- hy647] at H | rw [<- hy647] at H
       have Ny647:=Zz.k hy647
       clear hy647
       obtain ⟨⟨t650,t651⟩,A36,H⟩:=bE H
       try dsimp only at H
       by_cases c37 : 0 <= t619; rotate_left
       ·rw [if_neg c37] at H
        exact absurd H (by simp)
       show (let G_ : Prop:=_; G_)
       intro G_
       exact (let_tmp i_ : Nonempty G_:=(((⟨by
       subst G_
       rw [if_pos c37] at H
       have c37b0:=eq_true c37
       have c37b1:=Zd c37
       clear c37
       by_cases c38 : t619 <= (t615.length : Int); rotate_left
       ·rw [if_neg c38] at H
        exact absurd H (by simp)
       show (let G_ : Prop:=_; G_)
       intro G_
       exact (let_tmp i_ : Nonempty G_:=(((⟨by
       subst G_
       rw [if_pos c38] at H
       have c38b0:=eq_true c38
       have c38b1:=Zd c38
       clear c38
       obtain ⟨y652,hy652⟩ : ∃ y_ : List Int,y_ = (t615.take (t619 : Int).toNat):=⟨_,rfl⟩
       first | rw [Option.bind_some,<- hy652] at H | rw [<- hy652] at H
       have Ny652:=Zz.k hy652
       clear hy652
       obtain ⟨t657,A39,H⟩:=bE H
       by_cases c40 : t657.size + (rdOf ByteArray.empty y621 (ji28)).size <= 9223372036854775807; rotate_left
       ·rw [if_neg c40] at H
        exact absurd H (by simp)
       show (let G_ : Prop:=_; G_)
       intro G_
       exact (let_tmp i_ : Nonempty G_:=(((⟨by
       subst G_
       rw [if_pos c40] at H
       have c40b0:=eq_true c40
       have c40b1:=Zd c40
       try have c40b2 : (9223372036854775807 < t657.size + (rdOf ByteArray.empty y621 (ji28)).size) = False:=eq_false (Nat.not_lt.2 c40)
       obtain ⟨ji41,hji41⟩ : ∃ j_ : Int,(wrap64 (t619 + t620)) = j_:=⟨_,rfl⟩
       replace H : (if 0 <= (ji41) then (if (ji41) <= (t615.length : Int) then ((r1_Make.f k3 (t615.drop ((ji41) : Int).toNat)).bind fun t663 => (if (t657 ++ (rdOf ByteArray.empty y621 (ji28))).size + t663.size <= 9223372036854775807 then ((w7_num.f t651).bind fun t664 => (if t664 = 0 then (w7_EditLands.j3 k3 x3_1 (Qbo l0_0 x3_1) t612 t615 x9_3 (wrap64 (1 + (Int.tmod x9_3 3))) y647 ((t657 ++ (rdOf ByteArray.empty y621 (ji28))) ++ t663) (t650.toList != ((t657 ++ (rdOf ByteArray.empty y621 (ji28))) ++ t663).toList) l0_0 l0_1 l0_2 l0_3 t625 t626 t627 t628 t629 t630 t631 t632 t635 t636 t637) else (w7_EditLands.j3 k3 x3_1 (Qbo l0_0 x3_1) t612 t615 x9_3 (wrap64 (1 + (Int.tmod x9_3 3))) y647 ((t657 ++ (rdOf ByteArray.empty y621 (ji28))) ++ t663) true l0_0 l0_1 l0_2 l0_3 t625 t626 t627 t628 t629 t630 t631 t632 t635 t636 t637))) else (none))) else (none)) else (none)) = some r:=by first | (rw [hji41] at H; exact H) | (simp only [hji41] at H ⊢; exact H)
       (try rw [hji41] at A26)
       (try rw [hji41] at A27)
       (try rw [hji41] at A31)
       (try rw [hji41] at A32)
       (try rw [hji41] at A34)
       (try rw [hji41] at A36)
       (try rw [hji41] at A39)
       have hji41w : (IntKind.i64.wrap (t619 + t620)) = ji41:=(i64_w _).trans hji41
       by_cases c42 : 0 <= (ji41); rotate_left
       ·rw [if_neg c42] at H
        exact absurd H (by simp)
       show (let G_ : Prop:=_; G_)
       intro G_
       exact (let_tmp i_ : Nonempty G_:=(((⟨by
       subst G_
       rw [if_pos c42] at H
       have c42b0:=eq_true c42
       have c42b1:=Zd c42
       clear c42
       by_cases c43 : (ji41) <= (t615.length : Int); rotate_left
       ·rw [if_neg c43] at H
        exact absurd H (by simp)
       show (let G_ : Prop:=_; G_)
       intro G_
       exact (let_tmp i_ : Nonempty G_:=(((⟨by
       subst G_
       rw [if_pos c43] at H
       have c43b0:=eq_true c43
       have c43b1:=Zd c43
       clear c43
       obtain ⟨y658,hy658⟩ : ∃ y_ : List Int,y_ = (t615.drop ((ji41) : Int).toNat):=⟨_,rfl⟩
       first | rw [Option.bind_some,<- hy658] at H | rw [<- hy658] at H
       have Ny658:=Zz.k hy658
       clear hy658
       obtain ⟨t663,A44,H⟩:=bE H
       by_cases c45 : (t657 ++ (rdOf ByteArray.empty y621 (ji28))).size + t663.size <= 9223372036854775807; rotate_left
       ·rw [if_neg c45] at H
        exact absurd H (by simp)
       show (let G_ : Prop:=_; G_)
       intro G_
       exact (let_tmp i_ : Nonempty G_:=(((⟨by
       subst G_
       rw [if_pos c45] at H
       have c45b0:=eq_true c45
       have c45b1:=Zd c45
       try have c45b2 : (9223372036854775807 < t657.size + (rdOf ByteArray.empty y621 (ji28)).size + t663.size) = False:=eq_false (Nat.not_lt.2 (by have z_:=c45; rw [ByteArray.size_append] at z_; exact z_))
       have HC46:=Zz.k H
       clear H
       obtain ⟨_,_,_,_,_,_,_,_⟩:=kc4 BK609
       obtain ⟨Ao48,co48,eo48⟩:=Kd.R_slice HO_7.out
       subst eo48
       try go_wp2_with (first | ((with_reducible refine Qaa (f:=19) rfl ?_); refine gl (some 75) Tryz.func19 #[.int .i64 (wrap64 ((wrap64 (x9_3 * 3)) + (l0_3.length : Int))), .int .i64 (wrap64 ((t615.length : Int) + 1))] (h := ?_); (with_reducible refine (w0_Within.calls (wrap64 ((wrap64 (x9_3 * 3)) + (l0_3.length : Int))) (wrap64 ((t615.length : Int) + 1)) t619 _ A26.out).mono ?_); rintro e w' ⟨rfl,⟨nd,rfl⟩⟩; refine ⟨_,rfl, ?_⟩; (try (rw [Qbm wr]; generalize hq_ : World.drewN wr _ = wr; have n0_ : Zz (Kd.R (Kd.int .i32) 21 wr w.heap.size (fun _ => True) (.slice Ao48 t615.length co48) t615):=⟨by rw [<- hq_]; exact (rk HO_7)⟩; have n1_ : Zz (wr.heap[gb609]? = some (.cells #[.slice (some ad611) l0_0.length c0_0, .slice A0_1 l0_1.length c0_1, .slice A0_2 l0_2.length c0_2, .slice A0_3 l0_3.length c0_3] 27 (0,0))):=⟨by rw [<- hq_]; exact (kk BK609)⟩; have n2_ : Zz (Below w.heap.size w wr):=⟨by rw [<- hq_]; exact (bw HB)⟩; clear HO_7 BK609 HB hq_; have HO_7:=n0_; have BK609:=n1_; have HB:=n2_; clear n0_ n1_ n2_))) | ((with_reducible refine Qaa (f:=19) rfl ?_); refine gl (some 85) Tryz.func19 #[.int .i64 (wrap64 ((wrap64 (x9_3 * 5)) + x3_1)), .int .i64 (wrap64 ((wrap64 ((t615.length : Int) - t619)) + 1))] (h := ?_); (with_reducible refine (w0_Within.calls (wrap64 ((wrap64 (x9_3 * 5)) + x3_1)) (wrap64 ((wrap64 ((t615.length : Int) - t619)) + 1)) t620 _ A27.out).mono ?_); rintro e w' ⟨rfl,⟨nd,rfl⟩⟩; refine ⟨_,rfl, ?_⟩; (try (rw [Qbm wr]; generalize hq_ : World.drewN wr _ = wr; have n0_ : Zz (Kd.R (Kd.int .i32) 21 wr w.heap.size (fun _ => True) (.slice Ao48 t615.length co48) t615):=⟨by rw [<- hq_]; exact (rk HO_7)⟩; have n1_ : Zz (wr.heap[gb609]? = some (.cells #[.slice (some ad611) l0_0.length c0_0, .slice A0_1 l0_1.length c0_1, .slice A0_2 l0_2.length c0_2, .slice A0_3 l0_3.length c0_3] 27 (0,0))):=⟨by rw [<- hq_]; exact (kk BK609)⟩; have n2_ : Zz (Below w.heap.size w wr):=⟨by rw [<- hq_]; exact (bw HB)⟩; clear HO_7 BK609 HB hq_; have HO_7:=n0_; have BK609:=n1_; have HB:=n2_; clear n0_ n1_ n2_))) | ((with_reducible refine Qad (N:=86) rfl ?_); refine Kd.R_lit Kd.string _ 9 ?hg (N:=86) ?hd (xs:=([(⟨#[]⟩ : ByteArray),(⟨#[113]⟩ : ByteArray),(⟨#[117,118]⟩ : ByteArray),(⟨#[230,151,165]⟩ : ByteArray)] : List ByteArray)) (inner:=[.string (⟨#[]⟩ : ByteArray), .string (⟨#[113]⟩ : ByteArray), .string (⟨#[117,118]⟩ : ByteArray), .string (⟨#[230,151,165]⟩ : ByteArray)]) (ok:=fun _ => True) (okp:=fun _ => True) ?hr ?hp (fun _ hk => hk) trivial (Below.refl _ _) (Nat.le_refl _) (by simp) ?_; (case hd => rfl); (case hg => rfl); (case hr => first | (go_simp; done) | (go_simp; rfl)); (case hp => exact (Reps.one (show Kd.M Kd.string _ _ _ (⟨#[]⟩ : ByteArray) [.string (⟨#[]⟩ : ByteArray)] from rfl) (Reps.one (show Kd.M Kd.string _ _ _ (⟨#[113]⟩ : ByteArray) [.string (⟨#[113]⟩ : ByteArray)] from rfl) (Reps.one (show Kd.M Kd.string _ _ _ (⟨#[117,118]⟩ : ByteArray) [.string (⟨#[117,118]⟩ : ByteArray)] from rfl) (Reps.one (show Kd.M Kd.string _ _ _ (⟨#[230,151,165]⟩ : ByteArray) [.string (⟨#[230,151,165]⟩ : ByteArray)] from rfl) (Reps.none _ _)))))); intro v622 w49 ho50 hb hg_ hnew_; clear hg_ hnew_; (first | rw [<- Ny621.out] at ho50 | (simp only [Int.reduceToNat] at ho50; rw [<- Ny621.out] at ho50)); have HO623:=Zz.k (Kd.R_lower ho50 (Qag (bw HB))); replace HO_7:=rb HO_7 hb; replace BK609:=bl BK609 hb; replace HB:=bs HB hb; clear hb ho50; obtain ⟨Ao51,co51,eo51⟩:=Kd.R_slice HO623.out; subst eo51; have p624 : 0 <= ((ji28) : Int):=od; have q624 : (ji28) < (y621.length : Int):=od; obtain ⟨ad624,e624,hx624_0⟩:=Kd.at_string (Kd.R_reads' HO623.out).2.2 (ji28) p624 q624; cases e624; replace p624:=eq_true p624; replace q624:=eq_true q624) | ((with_reducible refine Qaa (f:=10) rfl ?_); refine goesL_ (some 100) rfl rfl Tryz.func10 (by kernel_rfl) rfl #[.slice A611_0 (Qbo l0_0 x3_1).length c611_0, .int .i64 (wrap64 (1 + (Int.tmod x9_3 3))), .int .i64 t619, .int .i64 t620, .string (rdOf ByteArray.empty y621 (ji28))] rfl (by (try simp only [List.map_toArray,List.map_cons,List.map_nil]); first | done | (simp only [hji28]; rfl) | rfl | (simp only [List.length_drop,List.length_take]; rfl)) ?_; (with_reducible refine (edit_Replace.calls _ _ (Qbo l0_0 x3_1) (wrap64 (1 + (Int.tmod x9_3 3))) t619 t620 (rdOf ByteArray.empty y621 (ji28)) t625 t626 t627 t628 t629 t630 t631 t632 t635 t636 t637 t638 _ ?side1 ?side2 A31.out).mono ?_); (case side1 => exact cb HR611_0 HB); (case side2 => exact HC611_0.out); rintro e w52 ⟨v633,rfl,ho0,hb⟩; refine ⟨_,rfl, ?_⟩; have HO634:=Zz.k (Kd.R_lower ho0 (Qag (bw HB))); replace HO_7:=rb HO_7 hb; replace HO623:=rb HO623 hb; replace BK609:=bl BK609 hb; replace HB:=bs HB hb; clear hb; clear ho0) | ((with_reducible refine Qad (N:=14) rfl ?_); refine bx 14 #[.int .i64 0, .int .i64 0, .int .i64 0, .int .i64 0, .int .i64 0, .int .i64 0, .string (⟨#[]⟩ : ByteArray), .slice none 0 0, .int .i64 0, .int .i64 0, .int .i64 0] 34 (h := ?_); intro gb639 hg w53 hbox hb; have BK639:=Zz.k (hbox); have GW639:=bz HB hg; have GE639:=bz HB hg; have NB609_639:=bn BK609 hg; have NB639_609:=bm BK609 hg; replace HO_7:=rb HO_7 hb; replace HO623:=rb HO623 hb; replace HO634:=rb HO634 hb; replace BK609:=bl BK609 hb; replace HB:=bs HB hb; clear hb hbox hg; have hnb54:=NB639_609.out; have hnc54:=NB609_639.out; obtain ⟨_,_,_,_,_,_,_,_,_,_,_,_,_,_,_,_,_,_,_,_,_,_⟩:=kc11 BK639; obtain ⟨Ao56,co56,eo56⟩:=Kd.R_slice HO634.out; subst eo56) | ((with_reducible refine Qaa (f:=11) rfl ?_); refine gl (some 104) Tryz.func11 #[.int .i64 t638] (h := ?_); (with_reducible refine (w7_num.calls t638 t640 _ A32.out).mono ?_); rintro e w' ⟨rfl,⟨nd,rfl⟩⟩; refine ⟨_,rfl, ?_⟩))
       generalize hgz : (((((((((((w53.setCell ⟨gb639,0,none⟩ (.int .i64 t625)).setCell ⟨gb639,1,none⟩ (.int .i64 t626)).setCell ⟨gb639,2,none⟩ (.int .i64 t627)).setCell ⟨gb639,3,none⟩ (.int .i64 t628)).setCell ⟨gb639,4,none⟩ (.int .i64 t629)).setCell ⟨gb639,5,none⟩ (.int .i64 t630)).setCell ⟨gb639,6,none⟩ (.string t631)).setCell ⟨gb639,7,none⟩ (.slice Ao56 t632.length co56)).setCell ⟨gb639,8,none⟩ (.int .i64 t635)).setCell ⟨gb639,9,none⟩ (.int .i64 t636)).setCell ⟨gb639,10,none⟩ (.int .i64 t637)) = w57
       have n0_ : Zz (Kd.R (Kd.int .i32) 21 w57 w.heap.size (fun _ => True) (.slice Ao48 t615.length co48) t615):=by rw [<- hgz]; exact ⟨by (with_reducible repeat (first | apply Kd.R_alloc | apply Kd.R_drewN | apply Kd.R_drew)); exact Kd.R_mono (rf11 (Kd.R_types HO_7.out BK639.out (by decide))) (fun _ hk => trivial)⟩
       have n1_ : Zz (Kd.R Kd.string 9 w57 w.heap.size (fun _ => True) (.slice (some ad624) y621.length co51) y621):=by rw [<- hgz]; exact ⟨by (with_reducible repeat (first | apply Kd.R_alloc | apply Kd.R_drewN | apply Kd.R_drew)); exact Kd.R_mono (rf11 (Kd.R_types HO623.out BK639.out (by decide))) (fun _ hk => trivial)⟩
       have n2_ : Zz (Kd.R Qav 32 w57 w.heap.size (fun _ => True) (.slice Ao56 t632.length co56) t632):=by rw [<- hgz]; exact ⟨by (with_reducible repeat (first | apply Kd.R_alloc | apply Kd.R_drewN | apply Kd.R_drew)); exact Kd.R_mono (rf11 (Kd.R_types HO634.out BK639.out (by decide))) (fun _ hk => trivial)⟩
       have n3_ : Zz (w57.heap[gb609]? = some (.cells #[.slice (some ad611) l0_0.length c0_0, .slice A0_1 l0_1.length c0_1, .slice A0_2 l0_2.length c0_2, .slice A0_3 l0_3.length c0_3] 27 (0,0))):=by rw [<- hgz]; exact ⟨kk BK609⟩
       have n4_ : Zz (w57.heap[gb639]? = some (.cells #[.int .i64 t625, .int .i64 t626, .int .i64 t627, .int .i64 t628, .int .i64 t629, .int .i64 t630, .string t631, .slice Ao56 t632.length co56, .int .i64 t635, .int .i64 t636, .int .i64 t637] 34 (0,0))):=by rw [<- hgz]; exact ⟨bp11 (kk BK639)⟩
       have n5_ : Zz (Below w.heap.size w w57):=by rw [<- hgz]; exact ⟨bw HB⟩
       (try clear HO_7)
       (try clear HO623)
       (try clear HO634)
       (try clear BK609)
       (try clear BK639)
       (try clear HB)
       clear hgz
       have HO_7:=n0_
       have HO623:=n1_
       have HO634:=n2_
       have BK609:=n3_
       have BK639:=n4_
       have HB:=n5_
       clear n0_ n1_ n2_ n3_ n4_ n5_
       (try (rw [Qbm w57]; generalize hq_ : World.drewN w57 _ = w57; have n0_ : Zz (Kd.R Kd.string 9 w57 w.heap.size (fun _ => True) (.slice (some ad624) y621.length co51) y621):=⟨by rw [<- hq_]; exact (rk HO623)⟩; have n1_ : Zz (Kd.R Qav 32 w57 w.heap.size (fun _ => True) (.slice Ao56 t632.length co56) t632):=⟨by rw [<- hq_]; exact (rk HO634)⟩; have n2_ : Zz (Kd.R (Kd.int .i32) 21 w57 w.heap.size (fun _ => True) (.slice Ao48 t615.length co48) t615):=⟨by rw [<- hq_]; exact (rk HO_7)⟩; have n3_ : Zz (w57.heap[gb609]? = some (.cells #[.slice (some ad611) l0_0.length c0_0, .slice A0_1 l0_1.length c0_1, .slice A0_2 l0_2.length c0_2, .slice A0_3 l0_3.length c0_3] 27 (0,0))):=⟨by rw [<- hq_]; exact (kk BK609)⟩; have n4_ : Zz (w57.heap[gb639]? = some (.cells #[.int .i64 t625, .int .i64 t626, .int .i64 t627, .int .i64 t628, .int .i64 t629, .int .i64 t630, .string t631, .slice Ao56 t632.length co56, .int .i64 t635, .int .i64 t636, .int .i64 t637] 34 (0,0))):=⟨by rw [<- hq_]; exact (kk BK639)⟩; have n5_ : Zz (Below w.heap.size w w57):=⟨by rw [<- hq_]; exact (bw HB)⟩; clear HO623 HO634 HO_7 BK609 BK639 HB hq_; have HO623:=n0_; have HO634:=n1_; have HO_7:=n2_; have BK609:=n3_; have BK639:=n4_; have HB:=n5_; clear n0_ n1_ n2_ n3_ n4_ n5_))
       have n0_:=Zz.k (Kd.R_drew HO_7.out)
       have n1_:=Zz.k (Kd.R_drew HO623.out)
       have n2_:=Zz.k (Kd.R_drew HO634.out)
       have n3_:=Zz.k (Qam BK609.out)
       have n4_:=Zz.k (Qam BK639.out)
       have n5_:=Zz.k (Qae HB.out)
       clear HO_7
       clear HO623
       clear HO634
       clear BK609
       clear BK639
       clear HB
       have HO_7:=n0_
       have HO623:=n1_
       have HO634:=n2_
       have BK609:=n3_
       have BK639:=n4_
       have HB:=n5_
       clear n0_ n1_ n2_ n3_ n4_ n5_
       refine stP (fun w' => E11 w' gb639 (.int .i64 t625) (.int .i64 t626) (.int .i64 t627) (.int .i64 t628) (.int .i64 t629) (.int .i64 t630) (.string t631) (.slice Ao56 t632.length co56) (.int .i64 t635) (.int .i64 t636) (.int .i64 t637)) 6 (e11 BK639) (h:=fun hHeld => ?_)
       generalize w57.drew = w58 at HO_7 HO623 HO634 BK609 BK639 HB hHeld ⊢
       refine pu0 0 106 1 (h := ?_)
       refine tk0 hHeld 2 108 5 (h := ?_)
       refine join_ (σ:=Value × Value) 2 (bA 6 15) (fun s_ => [(107,s_.1),(109,s_.2)]) (fun s_ w' => (w'.cell? ⟨gb639,0,none⟩ = some (.int .i64 t625) /\ w'.cell? ⟨gb639,1,none⟩ = some (.int .i64 t626) /\ w'.cell? ⟨gb639,2,none⟩ = some (.int .i64 t627) /\ w'.cell? ⟨gb639,3,none⟩ = some (.int .i64 t628) /\ w'.cell? ⟨gb639,4,none⟩ = some (.int .i64 t629) /\ w'.cell? ⟨gb639,5,none⟩ = some (.int .i64 t630) /\ w'.cell? ⟨gb639,6,none⟩ = some (.string t631) /\ w'.cell? ⟨gb639,7,none⟩ = some (.slice Ao56 t632.length co56) /\ w'.cell? ⟨gb639,8,none⟩ = some (.int .i64 t635) /\ w'.cell? ⟨gb639,9,none⟩ = some (.int .i64 t636) /\ w'.cell? ⟨gb639,10,none⟩ = some (.int .i64 t637)) /\ (Kd.R Kd.string 9 w' w.heap.size (fun _ => True) (.slice (some ad624) y621.length co51) y621) /\ (Kd.N kOp 34 w' w.heap.size (fun k_ => some k_ ≠ (.slice (some ad624) y621.length co51 : Value).ownBlock /\ some k_ ≠ (s_.2 : Value).ownBlock /\ some k_ ≠ (.slice Ao48 t615.length co48 : Value).ownBlock /\ k_ ≠ gb609 /\ k_ ≠ gb639) s_.1 t641) /\ (Kd.N kOp 34 w' w.heap.size (fun k_ => some k_ ≠ (.slice (some ad624) y621.length co51 : Value).ownBlock /\ some k_ ≠ (s_.1 : Value).ownBlock /\ some k_ ≠ (.slice Ao48 t615.length co48 : Value).ownBlock /\ k_ ≠ gb609 /\ k_ ≠ gb639) s_.2 y644) /\ (Kd.R (Kd.int .i32) 21 w' w.heap.size (fun _ => True) (.slice Ao48 t615.length co48) t615) /\ (w'.heap[gb609]? = some (.cells #[.slice (some ad611) l0_0.length c0_0, .slice A0_1 l0_1.length c0_1, .slice A0_2 l0_2.length c0_2, .slice A0_3 l0_3.length c0_3] 27 (0,0))) /\ (w'.heap[gb639]? = some (.cells #[.int .i64 t625, .int .i64 t626, .int .i64 t627, .int .i64 t628, .int .i64 t629, .int .i64 t630, .string t631, .slice Ao56 t632.length co56, .int .i64 t635, .int .i64 t636, .int .i64 t637] 34 (0,0))) /\ (Below w.heap.size w w')) ?_ ?_
       rotate_left
       ·show (let G_ : Prop:=_; G_)
        intro G_
        exact (let_tmp i_ : Nonempty G_:=(((⟨by
        subst G_
        intro hCont
        refine two_ (i:=1) (j:=3) (Ni:=some 107) (Nj:=some 109) (bA 6 7) (bA 6 13) rfl rfl rfl rfl (by kernel_rfl) (by decide) (by decide) (fun K hK => ?_) (fun K hK => ?_)
        ·show (let G_ : Prop:=_; G_)
         intro G_
         exact (let_tmp i_ : Nonempty G_:=(((⟨by
         subst G_
         skip
         refine gS Tryz.func20 #[.slice A611_0 (Qbo l0_0 x3_1).length c611_0] (h := ?_)
         with_reducible refine (r0_CopyOps.calls k3 _ _ (Qbo l0_0 x3_1) t641 _ ?side1 ?side2 A34.out).mono ?_
         (case side1 => exact cb HR611_0 HB)
         (case side2 => exact HC611_0.out)
         rintro e w59 ⟨v642,rfl,ho0,hb⟩
         refine ⟨_,rfl, ?_⟩
         have n0_:=rb HO_7 hb
         have n1_:=rb HO623 hb
         have n2_:=rb HO634 hb
         have n3_:=Zz.k (Kd.N_lower (Kd.N_mono (ok':=fun k_ => some k_ ≠ (.slice Ao48 t615.length co48 : Value).ownBlock /\ some k_ ≠ (.slice (some ad624) y621.length co51 : Value).ownBlock /\ some k_ ≠ (.slice Ao56 t632.length co56 : Value).ownBlock /\ k_ ≠ gb609 /\ k_ ≠ gb639) (Kd.S_N (Kd.S_bound ho0)) (fun k_ hk_ => ⟨(Kd.fresh' (Kd.R_lt (rk HO_7)) k_ hk_.2.1),(Kd.fresh' (Kd.R_lt (rk HO623)) k_ hk_.2.1),(Kd.fresh' (Kd.R_lt (rk HO634)) k_ hk_.2.1),(Kd.freshB (kk BK609) k_ hk_.2.1),(Kd.freshB (kk BK639) k_ hk_.2.1)⟩)) (Qag (bw HB)))
         have n4_:=bl BK609 hb
         have n5_:=bl BK639 hb
         have n6_:=bs HB hb
         clear HO_7
         clear HO623
         clear HO634
         clear BK609
         clear BK639
         clear HB
         have HO_7:=n0_
         have HO623:=n1_
         have HO634:=n2_
         have HO643:=n3_
         have BK609:=n4_
         have BK639:=n5_
         have HB:=n6_
         clear n0_ n1_ n2_ n3_ n4_ n5_ n6_
         (try clear hb)
         (try clear hb2)
         (try clear hk)
         (try clear hi)
         (try clear ho0)
         refine hK.out _ _ (e11 BK639) (fun hHeld => ?_)
         clear hK K
         refine nn 107 (h := ?_)
         refine on0 3 (some 109) 15 (h:=fun K hK => ?_)
         refine Kd.N_lit_step kOp _ 34 ?hg (N':=109) ?hd (xs:=([(⟨t625,t626,t627,(⟨t628,t629,t630⟩ : SElem),t631,t632,t635,t636,t637⟩ : SOp)] : List (SOp))) (inner:=[.int .i64 t625, .int .i64 t626, .int .i64 t627, .int .i64 t628, .int .i64 t629, .int .i64 t630, .string t631, .slice Ao56 t632.length co56, .int .i64 t635, .int .i64 t636, .int .i64 t637]) (ok:=(fun k_ => some k_ ≠ (.slice Ao48 t615.length co48 : Value).ownBlock /\ some k_ ≠ (.slice (some ad624) y621.length co51 : Value).ownBlock /\ some k_ ≠ (v642 : Value).ownBlock /\ k_ ≠ gb609 /\ k_ ≠ gb639)) (okp:=(fun k_ => some k_ ≠ (.slice Ao48 t615.length co48 : Value).ownBlock /\ some k_ ≠ (.slice (some ad624) y621.length co51 : Value).ownBlock /\ some k_ ≠ (v642 : Value).ownBlock /\ k_ ≠ gb609 /\ k_ ≠ gb639)) ?hr ?hp (fun _ hk => hk) ((show ∀ k_,w59.heap.size <= k_ -> (fun k_ => some k_ ≠ (.slice Ao48 t615.length co48 : Value).ownBlock /\ some k_ ≠ (.slice (some ad624) y621.length co51 : Value).ownBlock /\ some k_ ≠ (v642 : Value).ownBlock /\ k_ ≠ gb609 /\ k_ ≠ gb639) k_ from fun k_ hk => ⟨Kd.fresh' (Kd.R_lt (rk HO_7)) k_ hk,Kd.fresh' (Kd.R_lt (rk HO623)) k_ hk,Kd.fresh' (Kd.N_lt (nk HO643)) k_ hk,Kd.freshB (kk BK609) k_ hk,Kd.freshB (kk BK639) k_ hk⟩) _ (Nat.le_refl _)) (Below.refl _ _) (Nat.le_refl _) (by simp) ?_; (case hd => rfl); (case hg => rfl); (case hr => first | (go_simp; done) | (go_simp; rfl)); (case hp => exact (Reps.front (show Kd.FK kOp _ _ (⟨t625,t626,t627,(⟨t628,t629,t630⟩ : SElem),t631,t632,t635,t636,t637⟩ : SOp) [.int .i64 t625, .int .i64 t626, .int .i64 t627, .int .i64 t628, .int .i64 t629, .int .i64 t630, .string t631, .slice Ao56 t632.length co56, .int .i64 t635, .int .i64 t636, .int .i64 t637] from (kOp_mkF _ _ (⟨t625,t626,t627,(⟨t628,t629,t630⟩ : SElem),t631,t632,t635,t636,t637⟩ : SOp) (Kd.R_reads' (Kd.R_mono (ok':=(fun k_ => some k_ ≠ (.slice Ao48 t615.length co48 : Value).ownBlock /\ some k_ ≠ (.slice (some ad624) y621.length co51 : Value).ownBlock /\ some k_ ≠ (v642 : Value).ownBlock /\ k_ ≠ gb609 /\ k_ ≠ gb639)) (Kd.R_types (Kd.R_types (Kd.R_apart' (Kd.R_apart' (Kd.R_apart' (HO634.out) (Kd.R_typed HO_7.out) (by decide)) (Kd.R_typed HO623.out) (by decide)) (Kd.N_typed HO643.out) (by decide)) BK609.out (by decide)) BK639.out (by decide)) (fun k_ hk => ⟨hk.1.1.1.1.2,⟨hk.1.1.1.2,⟨hk.1.1.2,⟨hk.1.2,hk.2⟩⟩⟩⟩))).2.1 (Kd.R_F (Kd.R_mono (ok':=(fun k_ => some k_ ≠ (.slice Ao48 t615.length co48 : Value).ownBlock /\ some k_ ≠ (.slice (some ad624) y621.length co51 : Value).ownBlock /\ some k_ ≠ (v642 : Value).ownBlock /\ k_ ≠ gb609 /\ k_ ≠ gb639)) (Kd.R_types (Kd.R_types (Kd.R_apart' (Kd.R_apart' (Kd.R_apart' (HO634.out) (Kd.R_typed HO_7.out) (by decide)) (Kd.R_typed HO623.out) (by decide)) (Kd.N_typed HO643.out) (by decide)) BK609.out (by decide)) BK639.out (by decide)) (fun k_ hk => ⟨hk.1.1.1.1.2,⟨hk.1.1.1.2,⟨hk.1.1.2,⟨hk.1.2,hk.2⟩⟩⟩⟩))))) rfl (Reps.none _ _) rfl))
         intro v645 w60 ho61 hb hg_ hnew_
         clear hg_ hnew_
         (first | rw [<- Ny644.out] at ho61 | (simp only [Int.reduceToNat] at ho61; rw [<- Ny644.out] at ho61))
         have n0_:=rb HO_7 hb
         have n1_:=rb HO623 hb
         have n2_:=Zz.k (Kd.N_elder' (nk HO643) (Kd.N_base ho61) hb)
         have n3_:=Zz.k (Kd.N_lower ho61 (Qag (bw HB)))
         have n4_:=bl BK609 hb
         have n5_:=bl BK639 hb
         have n6_:=bs HB hb
         clear HO_7
         clear HO623
         clear HO643
         clear BK609
         clear BK639
         clear HB
         clear HO634
         have HO_7:=n0_
         have HO623:=n1_
         have HO643:=n2_
         have HO646:=n3_
         have BK609:=n4_
         have BK639:=n5_
         have HB:=n6_
         clear n0_ n1_ n2_ n3_ n4_ n5_ n6_
         clear hb ho61
         refine hK.out _ _ (e11 BK639) (fun hHeld => ?_)
         clear hK K
         refine nn 109 (h := ?_)
         exact norm_ (by simp only [putAll,Act.put,List.setIfInBounds_toArray,List.set_cons_zero,List.set_cons_succ]) (hCont (v642,v645) _ ⟨hHeld,(rk HO623),(by (with_reducible repeat (first | apply Kd.N_alloc | apply Kd.N_drewN | apply Kd.N_drew)); exact Kd.N_mono HO643.out (fun _ hk => ⟨hk.1.2.1,⟨hk.2,⟨hk.1.1,⟨hk.1.2.2.2.1,hk.1.2.2.2.2⟩⟩⟩⟩)),(by (with_reducible repeat (first | apply Kd.N_alloc | apply Kd.N_drewN | apply Kd.N_drew)); exact Kd.N_mono HO646.out (fun _ hk => ⟨hk.2.1,⟨hk.2.2.1,⟨hk.1,⟨hk.2.2.2.1,hk.2.2.2.2⟩⟩⟩⟩)),(rk HO_7),(kk BK609),(kk BK639),(bw HB)⟩)⟩ : Nonempty G_)) :); w7_EditLands.bxo (G:=G_) (inferInstanceAs (Nonempty G_)))
        skip
        refine Kd.N_lit_step kOp _ 34 ?hg (N':=109) ?hd (xs:=([(⟨t625,t626,t627,(⟨t628,t629,t630⟩ : SElem),t631,t632,t635,t636,t637⟩ : SOp)] : List (SOp))) (inner:=[.int .i64 t625, .int .i64 t626, .int .i64 t627, .int .i64 t628, .int .i64 t629, .int .i64 t630, .string t631, .slice Ao56 t632.length co56, .int .i64 t635, .int .i64 t636, .int .i64 t637]) (ok:=(fun k_ => some k_ ≠ (.slice Ao48 t615.length co48 : Value).ownBlock /\ some k_ ≠ (.slice (some ad624) y621.length co51 : Value).ownBlock /\ k_ ≠ gb609 /\ k_ ≠ gb639)) (okp:=(fun k_ => some k_ ≠ (.slice Ao48 t615.length co48 : Value).ownBlock /\ some k_ ≠ (.slice (some ad624) y621.length co51 : Value).ownBlock /\ k_ ≠ gb609 /\ k_ ≠ gb639)) ?hr ?hp (fun _ hk => hk) ((show ∀ k_,w58.heap.size <= k_ -> (fun k_ => some k_ ≠ (.slice Ao48 t615.length co48 : Value).ownBlock /\ some k_ ≠ (.slice (some ad624) y621.length co51 : Value).ownBlock /\ k_ ≠ gb609 /\ k_ ≠ gb639) k_ from fun k_ hk => ⟨Kd.fresh' (Kd.R_lt (rk HO_7)) k_ hk,Kd.fresh' (Kd.R_lt (rk HO623)) k_ hk,Kd.freshB (kk BK609) k_ hk,Kd.freshB (kk BK639) k_ hk⟩) _ (Nat.le_refl _)) (Below.refl _ _) (Nat.le_refl _) (by simp) ?_; (case hd => rfl); (case hg => rfl); (case hr => first | (go_simp; done) | (go_simp; rfl)); (case hp => exact (Reps.front (show Kd.FK kOp _ _ (⟨t625,t626,t627,(⟨t628,t629,t630⟩ : SElem),t631,t632,t635,t636,t637⟩ : SOp) [.int .i64 t625, .int .i64 t626, .int .i64 t627, .int .i64 t628, .int .i64 t629, .int .i64 t630, .string t631, .slice Ao56 t632.length co56, .int .i64 t635, .int .i64 t636, .int .i64 t637] from (kOp_mkF _ _ (⟨t625,t626,t627,(⟨t628,t629,t630⟩ : SElem),t631,t632,t635,t636,t637⟩ : SOp) (Kd.R_reads' (Kd.R_mono (ok':=(fun k_ => some k_ ≠ (.slice Ao48 t615.length co48 : Value).ownBlock /\ some k_ ≠ (.slice (some ad624) y621.length co51 : Value).ownBlock /\ k_ ≠ gb609 /\ k_ ≠ gb639)) (Kd.R_types (Kd.R_types (Kd.R_apart' (Kd.R_apart' (HO634.out) (Kd.R_typed HO_7.out) (by decide)) (Kd.R_typed HO623.out) (by decide)) BK609.out (by decide)) BK639.out (by decide)) (fun k_ hk => ⟨hk.1.1.1.2,⟨hk.1.1.2,⟨hk.1.2,hk.2⟩⟩⟩))).2.1 (Kd.R_F (Kd.R_mono (ok':=(fun k_ => some k_ ≠ (.slice Ao48 t615.length co48 : Value).ownBlock /\ some k_ ≠ (.slice (some ad624) y621.length co51 : Value).ownBlock /\ k_ ≠ gb609 /\ k_ ≠ gb639)) (Kd.R_types (Kd.R_types (Kd.R_apart' (Kd.R_apart' (HO634.out) (Kd.R_typed HO_7.out) (by decide)) (Kd.R_typed HO623.out) (by decide)) BK609.out (by decide)) BK639.out (by decide)) (fun k_ hk => ⟨hk.1.1.1.2,⟨hk.1.1.2,⟨hk.1.2,hk.2⟩⟩⟩))))) rfl (Reps.none _ _) rfl))
        intro v645 w59 ho60 hb hg_ hnew_
        clear hg_ hnew_
        (first | rw [<- Ny644.out] at ho60 | (simp only [Int.reduceToNat] at ho60; rw [<- Ny644.out] at ho60))
        have n0_:=rb HO_7 hb
        have n1_:=rb HO623 hb
        have n2_:=Zz.k (Kd.N_lower ho60 (Qag (bw HB)))
        have n3_:=bl BK609 hb
        have n4_:=bl BK639 hb
        have n5_:=bs HB hb
        clear HO_7
        clear HO623
        clear BK609
        clear BK639
        clear HB
        clear HO634
        have HO_7:=n0_
        have HO623:=n1_
        have HO646:=n2_
        have BK609:=n3_
        have BK639:=n4_
        have HB:=n5_
        clear n0_ n1_ n2_ n3_ n4_ n5_
        clear hb ho60
        refine hK.out _ _ (e11 BK639) (fun hHeld => ?_)
        clear hK K
        refine nn 109 (h := ?_)
        refine on0 1 (some 107) 15 (h:=fun K hK => ?_)
        refine gS Tryz.func20 #[.slice A611_0 (Qbo l0_0 x3_1).length c611_0] (h := ?_)
        with_reducible refine (r0_CopyOps.calls k3 _ _ (Qbo l0_0 x3_1) t641 _ ?side1 ?side2 A34.out).mono ?_
        (case side1 => exact cb HR611_0 HB)
        (case side2 => exact HC611_0.out)
        rintro e w61 ⟨v642,rfl,ho0,hb⟩
        refine ⟨_,rfl, ?_⟩
        have n0_:=rb HO_7 hb
        have n1_:=rb HO623 hb
        have n2_:=Zz.k (Kd.N_elder' (nk HO646) (Kd.N_base (Kd.S_N ho0)) hb)
        have n3_:=Zz.k (Kd.N_lower (Kd.N_mono (ok':=fun k_ => some k_ ≠ (.slice Ao48 t615.length co48 : Value).ownBlock /\ some k_ ≠ (.slice (some ad624) y621.length co51 : Value).ownBlock /\ some k_ ≠ (v645 : Value).ownBlock /\ k_ ≠ gb609 /\ k_ ≠ gb639) (Kd.S_N (Kd.S_bound ho0)) (fun k_ hk_ => ⟨(Kd.fresh' (Kd.R_lt (rk HO_7)) k_ hk_.2.1),(Kd.fresh' (Kd.R_lt (rk HO623)) k_ hk_.2.1),(Kd.fresh' (Kd.N_lt (nk HO646)) k_ hk_.2.1),(Kd.freshB (kk BK609) k_ hk_.2.1),(Kd.freshB (kk BK639) k_ hk_.2.1)⟩)) (Qag (bw HB)))
        have n4_:=bl BK609 hb
        have n5_:=bl BK639 hb
        have n6_:=bs HB hb
        clear HO_7
        clear HO623
        clear HO646
        clear BK609
        clear BK639
        clear HB
        have HO_7:=n0_
        have HO623:=n1_
        have HO646:=n2_
        have HO643:=n3_
        have BK609:=n4_
        have BK639:=n5_
        have HB:=n6_
        clear n0_ n1_ n2_ n3_ n4_ n5_ n6_
        (try clear hb)
        (try clear hb2)
        (try clear hk)
        (try clear hi)
        (try clear ho0)
        refine hK.out _ _ (e11 BK639) (fun hHeld => ?_)
        clear hK K
        refine nn 107 (h := ?_)
        exact norm_ (by simp only [putAll,Act.put,List.setIfInBounds_toArray,List.set_cons_zero,List.set_cons_succ]) (hCont (v642,v645) _ ⟨hHeld,(rk HO623),(by (with_reducible repeat (first | apply Kd.N_alloc | apply Kd.N_drewN | apply Kd.N_drew)); exact Kd.N_mono HO643.out (fun _ hk => ⟨hk.2.1,⟨hk.2.2.1,⟨hk.1,⟨hk.2.2.2.1,hk.2.2.2.2⟩⟩⟩⟩)),(by (with_reducible repeat (first | apply Kd.N_alloc | apply Kd.N_drewN | apply Kd.N_drew)); exact Kd.N_mono HO646.out (fun _ hk => ⟨hk.1.2.1,⟨hk.2,⟨hk.1.1,⟨hk.1.2.2.1,hk.1.2.2.2⟩⟩⟩⟩)),(rk HO_7),(kk BK609),(kk BK639),(bw HB)⟩)⟩ : Nonempty G_)) :); w7_EditLands.bxo (G:=G_) (inferInstanceAs (Nonempty G_)))
       rintro ⟨v642,v645⟩ w62 ⟨hS_,h0_,h1_,h2_,h3_,h4_,h5_,h6_⟩
       have n0_ : Zz (Kd.R Kd.string 9 w62 w.heap.size (fun _ => True) (.slice (some ad624) y621.length co51) y621):=⟨h0_⟩
       have n1_ : Zz (Kd.N kOp 34 w62 w.heap.size (fun k_ => some k_ ≠ (.slice (some ad624) y621.length co51 : Value).ownBlock /\ some k_ ≠ (v645 : Value).ownBlock /\ some k_ ≠ (.slice Ao48 t615.length co48 : Value).ownBlock /\ k_ ≠ gb609 /\ k_ ≠ gb639) v642 t641):=⟨h1_⟩
       have n2_ : Zz (Kd.N kOp 34 w62 w.heap.size (fun k_ => some k_ ≠ (.slice (some ad624) y621.length co51 : Value).ownBlock /\ some k_ ≠ (v642 : Value).ownBlock /\ some k_ ≠ (.slice Ao48 t615.length co48 : Value).ownBlock /\ k_ ≠ gb609 /\ k_ ≠ gb639) v645 y644):=⟨h2_⟩
       have n3_ : Zz (Kd.R (Kd.int .i32) 21 w62 w.heap.size (fun _ => True) (.slice Ao48 t615.length co48) t615):=⟨h3_⟩
       have n4_ : Zz (w62.heap[gb609]? = some (.cells #[.slice (some ad611) l0_0.length c0_0, .slice A0_1 l0_1.length c0_1, .slice A0_2 l0_2.length c0_2, .slice A0_3 l0_3.length c0_3] 27 (0,0))):=⟨h4_⟩
       have n5_ : Zz (w62.heap[gb639]? = some (.cells #[.int .i64 t625, .int .i64 t626, .int .i64 t627, .int .i64 t628, .int .i64 t629, .int .i64 t630, .string t631, .slice Ao56 t632.length co56, .int .i64 t635, .int .i64 t636, .int .i64 t637] 34 (0,0))):=⟨h5_⟩
       have n6_ : Zz (Below w.heap.size w w62):=⟨h6_⟩
       clear HO_7
       clear HO623
       clear HO634
       clear BK609
       clear BK639
       clear HB
       clear h0_ h1_ h2_ h3_ h4_ h5_ h6_
       have HO623:=n0_
       have HO643:=n1_
       have HO646:=n2_
       have HO_7:=n3_
       have BK609:=n4_
       have BK639:=n5_
       have HB:=n6_
       clear n0_ n1_ n2_ n3_ n4_ n5_ n6_
       have hHeld : w62.cell? ⟨gb639,0,none⟩ = some (.int .i64 t625) /\ w62.cell? ⟨gb639,1,none⟩ = some (.int .i64 t626) /\ w62.cell? ⟨gb639,2,none⟩ = some (.int .i64 t627) /\ w62.cell? ⟨gb639,3,none⟩ = some (.int .i64 t628) /\ w62.cell? ⟨gb639,4,none⟩ = some (.int .i64 t629) /\ w62.cell? ⟨gb639,5,none⟩ = some (.int .i64 t630) /\ w62.cell? ⟨gb639,6,none⟩ = some (.string t631) /\ w62.cell? ⟨gb639,7,none⟩ = some (.slice Ao56 t632.length co56) /\ w62.cell? ⟨gb639,8,none⟩ = some (.int .i64 t635) /\ w62.cell? ⟨gb639,9,none⟩ = some (.int .i64 t636) /\ w62.cell? ⟨gb639,10,none⟩ = some (.int .i64 t637):=hS_
       obtain ⟨Ao64,co64,eo64⟩:=Kd.N_slice HO646.out
       (first | subst eo64 | (injection eo64 with f1_ f2_ f3_; have f4_:=f1_.symm; have f5_:=f3_.symm; clear f1_ f2_ f3_; subst f4_; subst f5_))
       refine norm_ (a' := ?_) ?_ ?_
       rotate_left
       ·simp only [putAll,Act.put,List.setIfInBounds_toArray,List.set_cons_zero,List.set_cons_succ]
        rfl
       refine on0 4 (some 110) 31 (h:=fun K hK => ?_)
       refine Kd.N_append_rows_step kOp (w0:=w) w.heap.size (by rfl) (.tmp 107) (.tmp 109) 24 34 (.agg #[(.int .i64 0),(.int .i64 0),(.int .i64 0),(.int .i64 0),(.int .i64 0),(.int .i64 0),(.string ⟨#[]⟩),(.slice none 0 0),(.int .i64 0),(.int .i64 0),(.int .i64 0)]) 112 rfl Tryz.underlying24 info34 rfl (by decide) (by omega) v642 t641 y644 _ _ _ (fun k_ => some k_ ≠ (.slice Ao48 t615.length co48 : Value).ownBlock /\ some k_ ≠ (.slice (some ad624) y621.length co51 : Value).ownBlock /\ k_ ≠ gb609 /\ k_ ≠ gb639) (fun k_ => ((fun k_ => some k_ ≠ (.slice Ao48 t615.length co48 : Value).ownBlock /\ some k_ ≠ (.slice (some ad624) y621.length co51 : Value).ownBlock /\ k_ ≠ gb609 /\ k_ ≠ gb639)) k_ /\ some k_ ≠ (v642 : Value).ownBlock) rfl rfl ?aO ?aR (fun _ hk => hk) ?aF ?aB ?aS ?aL ?_
       (case aR => exact (by skip; exact Kd.N_F (Kd.N_mono (ok':=(fun k_ => ((fun k_ => some k_ ≠ (.slice Ao48 t615.length co48 : Value).ownBlock /\ some k_ ≠ (.slice (some ad624) y621.length co51 : Value).ownBlock /\ k_ ≠ gb609 /\ k_ ≠ gb639)) k_ /\ some k_ ≠ (v642 : Value).ownBlock)) (HO646.out) (fun k_ hk => ⟨⟨hk.2.2.1,⟨hk.1,⟨hk.2.2.2.1,hk.2.2.2.2⟩⟩⟩,hk.2.1⟩))))
       (case aB => exact (bw HB))
       (case aF => exact (fun k_ hk => ⟨Kd.fresh' (Kd.R_lt (rk HO_7)) k_ hk,Kd.fresh' (Kd.R_lt (rk HO623)) k_ hk,Kd.freshB (kk BK609) k_ hk,Kd.freshB (kk BK639) k_ hk⟩))
       (case aO => exact (by (with_reducible repeat (first | apply Kd.N_alloc | apply Kd.N_drewN | apply Kd.N_drew)); exact Kd.N_mono HO643.out (fun _ hk => ⟨hk.2.2.1,⟨hk.1,⟨hk.2.2.2.1,hk.2.2.2.2⟩⟩⟩)))
       (case aS => exact (Qag (bw HB)))
       (case aL => have:=LMc35.out; omega)
       intro v648 w63 ho hb hg hat
       rw [<- Ny647.out] at ho
       have n0_:=Zz.k (Kd.R_over' (rk HO_7) (Kd.N_typed (nk HO643)) (by decide) hg)
       have n1_:=Zz.k (Qbc (kk BK609) hg (Kd.N_ne HO643.out BK609.out (by decide)))
       have n2_:=Zz.k (Kd.R_over' (rk HO623) (Kd.N_typed (nk HO643)) (by decide) hg)
       have n3_:=Zz.k (Qbc (kk BK639) hg (Kd.N_away HO643.out (fun _ hk => hk.2.2.2.2)))
       have n4_:=Zz.k (Kd.N_afterv (ok:=(fun k_ => some k_ ≠ (.slice Ao48 t615.length co48 : Value).ownBlock /\ some k_ ≠ (.slice (some ad624) y621.length co51 : Value).ownBlock /\ k_ ≠ gb609 /\ k_ ≠ gb639)) (by (with_reducible repeat (first | apply Kd.N_alloc | apply Kd.N_drewN | apply Kd.N_drew)); exact Kd.N_mono HO646.out (fun _ hk => ⟨⟨hk.2.2.1,⟨hk.1,⟨hk.2.2.2.1,hk.2.2.2.2⟩⟩⟩,hk.2.1⟩)) hg hat)
       have n5_:=Zz.k (hb)
       have n6_:=Zz.k (ho)
       clear HO_7
       clear BK609
       clear HO623
       clear BK639
       clear HO646
       clear HB
       clear HO643
       have HO_7:=n0_
       have BK609:=n1_
       have HO623:=n2_
       have BK639:=n3_
       have HO646:=n4_
       have HB:=n5_
       have HO649:=n6_
       clear n0_ n1_ n2_ n3_ n4_ n5_ n6_
       clear ho hb hg hat
       refine hK.out _ _ (e11 BK639) (fun hHeld => ?_)
       clear hK K
       refine nn 110 (h := ?_)
       refine pu0 5 16 63 (h := ?_)
       refine dn0 (h := ?_)
       obtain ⟨Ao65,co65,eo65⟩:=Kd.N_slice HO649.out
       subst eo65
       try go_wp2_with (first | ((with_reducible refine Qaa (f:=17) rfl ?_); refine gl (some 113) Tryz.func17 #[.slice Ao65 y647.length co65] (h := ?_); (with_reducible refine (doc_Text.calls _ _ y647 t650 t651 _ ?side1 ?side2 A36.out).mono ?_); (case side1 => exact cn HO649); (case side2 => exact (Kd.N_reads' HO649.out).2.1); rintro e w66 ⟨rfl,hb⟩; refine ⟨_,rfl, ?_⟩; replace HO_7:=rb HO_7 hb; replace HO623:=rb HO623 hb; replace HO646:=nb HO646 hb; replace HO649:=nb HO649 hb; replace BK609:=bl BK609 hb; replace BK639:=bl BK639 hb; replace HB:=bs HB hb; clear hb))
       have n0_:=Zz.k (Kd.R_drew HO_7.out)
       have n1_:=Zz.k (Kd.R_drew HO623.out)
       have n2_:=Zz.k (Kd.N_drew HO646.out)
       have n3_:=Zz.k (Kd.N_drew HO649.out)
       have n4_:=Zz.k (Qam BK609.out)
       have n5_:=Zz.k (Qam BK639.out)
       have n6_:=Zz.k (Qae HB.out)
       clear HO_7
       clear HO623
       clear HO646
       clear HO649
       clear BK609
       clear BK639
       clear HB
       have HO_7:=n0_
       have HO623:=n1_
       have HO646:=n2_
       have HO649:=n3_
       have BK609:=n4_
       have BK639:=n5_
       have HB:=n6_
       clear n0_ n1_ n2_ n3_ n4_ n5_ n6_
       have q68 : (t619 : Int) <= ((t615.length : Int) : Int):=od
       obtain ⟨i068,hi068,_,hsz68,_⟩:=info_parts info21
       have hroom68 : t615.length <= co48:=(Kd.R_reads' HO_7.out).2.1
       have hC68 : Kd.F (Kd.int .i32) _ _ Ao48 t615.length t615:=(Kd.V_at (base:=w.heap.size) (Kd.R_V (Kd.R_types (Kd.R_types (Kd.R_apart' (Kd.R_apart' (Kd.R_apart' (HO_7.out) (Kd.R_typed HO623.out) (by decide)) (Kd.N_typed HO646.out) (by decide)) (Kd.N_typed HO649.out) (by decide)) BK609.out (by decide)) BK639.out (by decide)))).2.2
       have hcut68:=cut_to (P:=Tryz.prog) 48 21 .i64 Tryz.underlying48 hi068 Ao48 t615.length co48 t619 (od) q68 hroom68
       have hr68:=Kd.F_take (m:=(t619 : Int).toNat) hC68 (by omega)
       have hy68 : y652.length = (t619 : Int).toNat:=(by rw [Ny652.out,List.length_take]; omega)
       rw [<- Ny652.out] at hr68
       rw [<- hy68] at hcut68
       have HO656:=Zz.k (show Kd.V (Kd.int .i32) 21 _ w.heap.size _ (.slice Ao48 y652.length co48) y652 from Kd.V_mk (by omega) hr68)
       have HC656:=Zz.k (show y652.length <= co48 from by omega)
       clear hr68 hC68 hroom68 hi068 hsz68
       have KY68:=Zz.k hy68
       clear hy68
       replace q68:=eq_true q68
       have q69 : ((ji41) : Int) <= ((t615.length : Int) : Int):=od
       obtain ⟨i069,hi069,_,hsz69,_⟩:=info_parts info21
       have hroom69 : t615.length <= co48:=(Kd.R_reads' HO_7.out).2.1
       have hC69 : Kd.F (Kd.int .i32) _ _ Ao48 t615.length t615:=(Kd.V_at (base:=w.heap.size) (Kd.R_V (Kd.R_types (Kd.R_types (Kd.R_apart' (Kd.R_apart' (Kd.R_apart' (HO_7.out) (Kd.R_typed HO623.out) (by decide)) (Kd.N_typed HO646.out) (by decide)) (Kd.N_typed HO649.out) (by decide)) BK609.out (by decide)) BK639.out (by decide)))).2.2
       have q069 : (0 : Int) <= ((ji41) : Int):=od
       have hcut69:=cut_from (P:=Tryz.prog) 48 21 .i64 Tryz.underlying48 hi069 1 hsz69 Ao48 t615.length co48 (ji41) q069 q69
       have hr69:=Kd.F_cut (m:=((ji41) : Int).toNat) (c:=co48) hC69 (by omega) hroom69
       obtain ⟨A69,hA69⟩ : ∃ A1,A1 = (if co48 = ((ji41) : Int).toNat then Ao48 else (Ao48 : Option Addr).map (·.add (((ji41) : Int).toNat * 1))):=⟨_,rfl⟩
       obtain ⟨c69,hc69⟩ : ∃ c1,c1 = co48 - ((ji41) : Int).toNat:=⟨_,rfl⟩
       have hy69 : y658.length = t615.length - ((ji41) : Int).toNat:=(by rw [Ny658.out,List.length_drop] <;> omega)
       rw [show (t615).drop ((ji41) : Int).toNat = y658 from Ny658.out.symm] at hr69
       replace hr69 : Kd.F (Kd.int .i32) _ _ A69 y658.length y658:=(by rw [hA69]; exact hr69)
       rw [<- hy69,<- hA69,<- hc69] at hcut69
       have HO662:=Zz.k (show Kd.V (Kd.int .i32) 21 _ w.heap.size _ (.slice A69 y658.length c69) y658 from Kd.V_mk (by rw [hy69,hc69]; exact Nat.sub_le_sub_right hroom69 _) hr69)
       have HC662:=Zz.k (show y658.length <= c69 from by rw [hy69,hc69]; exact Nat.sub_le_sub_right hroom69 _)
       clear hr69 hC69 hroom69 hi069 hsz69 hc69
       have KY69:=Zz.k hy69
       have KA69:=Zz.k hA69
       clear hy69 hA69
       replace q69:=eq_true q69
       refine stP (fun w' => True) 14 trivial (h:=fun hHeld => ?_); refine Qax w7_EditLands.tab23 w7_EditLands.bits23 (fun HT_ HW_ => ?_)
       generalize w66.drew = w67 at HO_7 HO623 HO646 HO649 BK609 BK639 HB HO656 HO662 hHeld ⊢
       refine pu HT_ 0 116 1 (h := ?_)
       refine pu HT_ 1 117 3 (h := ?_)
       refine pu HT_ 2 118 7 (h := ?_)
       refine pu HT_ 4 120 23 (h := ?_)
       refine pu HT_ 6 122 87 (h := ?_)
       refine pu HT_ 7 123 215 (h := ?_)
       refine pu HT_ 8 124 471 (h := ?_)
       refine pu HT_ 9 125 983 (h := ?_)
       refine pu HT_ 10 126 2007 (h := ?_)
       refine on HT_ 3 (some 119) 2015 (h:=fun K hK => ?_)
       refine gS Tryz.func21 #[.slice Ao48 y652.length co48] (h := ?_)
       with_reducible refine (r1_Make.calls k3 _ _ y652 t657 _ ?side1 ?side2 A39.out).mono ?_
       (case side1 => repeat (first | exact (Kd.V_reads' HO656.out).2.2 | (with_reducible refine Kd.C_alloc ?_ _) | (with_reducible refine Kd.C_drewN ?_ _) | (with_reducible refine Kd.C_drew ?_)))
       (case side2 => exact (Kd.V_reads' HO656.out).2.1)
       rintro e w' ⟨rfl,⟨nd,rfl⟩⟩
       refine ⟨_,rfl, ?_⟩
       refine hK.out _ _ trivial (fun hHeld => ?_)
       clear hK K
       refine nn 119 (h := ?_)
       refine pu HT_ 5 121 2047 (h := ?_)
       refine on HT_ 11 (some 127) 4095 (h:=fun K hK => ?_)
       refine gS Tryz.func21 #[.slice A69 y658.length c69] (h := ?_)
       with_reducible refine (r1_Make.calls k3 _ _ y658 t663 _ ?side1 ?side2 A44.out).mono ?_
       (case side1 => repeat (first | exact (Kd.V_reads' HO662.out).2.2 | (with_reducible refine Kd.C_alloc ?_ _) | (with_reducible refine Kd.C_drewN ?_ _) | (with_reducible refine Kd.C_drew ?_)))
       (case side2 => exact (Kd.V_reads' HO662.out).2.1)
       rintro e w' ⟨rfl,⟨nd,rfl⟩⟩
       refine ⟨_,rfl, ?_⟩
       refine hK.out _ _ trivial (fun hHeld => ?_)
       clear hK K
       refine nn 127 (h := ?_)
       refine pu HT_ 12 128 8191 (h := ?_)
       refine pu HT_ 13 19 16383 (h := ?_)
       refine dn HT_ (h := ?_)
       go_upto_region 24 with (fail)
       go_cut [136] (fun v136 wc => ∃ (kq : Nat) (x136_45 : Bool),v136 = .bool x136_45 /\ Zz (w7_EditLands.j3 kq x3_1 (Qbo l0_0 x3_1) t612 t615 x9_3 (wrap64 (1 + (Int.tmod x9_3 3))) y647 ((t657 ++ (rdOf ByteArray.empty y621 (ji28))) ++ t663) x136_45 l0_0 l0_1 l0_2 l0_3 t625 t626 t627 t628 t629 t630 t631 t632 t635 t636 t637 = some r) /\ Zz (kq <= k3) /\ Zz (Kd.R (Kd.int .i32) 21 wc w.heap.size (fun _ => True) (.slice Ao48 t615.length co48) t615) /\ Zz (Kd.N kOp 34 wc w.heap.size (fun k_ => some k_ ≠ ((.slice Ao48 t615.length co48) : Value).ownBlock /\ k_ ≠ gb609 /\ k_ ≠ gb639) (.slice Ao65 y647.length co65) y647) /\ Zz (wc.heap[gb609]? = some (.cells #[(.slice (some ad611) l0_0.length c0_0),(.slice A0_1 l0_1.length c0_1),(.slice A0_2 l0_2.length c0_2),(.slice A0_3 l0_3.length c0_3)] 27 (0,0))) /\ Zz (wc.heap[gb639]? = some (.cells #[.int .i64 t625, .int .i64 t626, .int .i64 t627, .int .i64 t628, .int .i64 t629, .int .i64 t630, .string t631,(.slice Ao56 t632.length co56), .int .i64 t635, .int .i64 t636, .int .i64 t637] 34 (0,0))) /\ Zz (Below w.heap.size w wc))
       case first =>
        have H:=HC46.out
        clear HC46
        obtain ⟨t664,A70,H⟩:=bE H
        by_cases c71 : t664 = 0; rotate_left
        ·rw [if_neg c71] at H
         obtain ⟨c71b0,c71b1⟩:=bF c71
         (first | rw [c71b0] | (simp only [i64_w,i32_w]; rw [c71b0]) | skip)
         have H':=Zz.k H
         clear H
         go_wp2_with (first | ((with_reducible refine Qaa (f:=11) rfl ?_); refine gl (some 130) Tryz.func11 #[.int .i64 t651] (h := ?_); (with_reducible refine (w7_num.calls t651 t664 _ A70.out).mono ?_); rintro e w' ⟨rfl,⟨nd,rfl⟩⟩; refine ⟨_,rfl, ?_⟩))
         go_meet
         case rel => exact ⟨_,(true),rf,H',⟨by have:=HK1.out; have:=HJ9.out; have:=HK3.out; first | omega | exact Nat.le_refl _⟩,⟨rk HO_7⟩,⟨by (with_reducible repeat (first | apply Kd.N_alloc | apply Kd.N_drewN | apply Kd.N_drew)); exact Kd.N_mono HO649.out (fun _ hk => ⟨hk.1,⟨hk.2.2.1,hk.2.2.2⟩⟩)⟩,⟨kk BK609⟩,⟨kk BK639⟩,⟨bw HB⟩⟩
        show (let G_ : Prop:=_; G_)
        intro G_
        exact (let_tmp i_ : Nonempty G_:=(((⟨by
        subst G_
        rw [if_pos c71] at H
        obtain ⟨c71b0,c71b1⟩:=bT c71
        clear c71
        (first | rw [c71b0] | (simp only [i64_w,i32_w]; rw [c71b0]) | skip)
        have H':=Zz.k H
        clear H
        go_wp2_with (first | ((with_reducible refine Qaa (f:=11) rfl ?_); refine gl (some 130) Tryz.func11 #[.int .i64 t651] (h := ?_); (with_reducible refine (w7_num.calls t651 t664 _ A70.out).mono ?_); rintro e w' ⟨rfl,⟨nd,rfl⟩⟩; refine ⟨_,rfl, ?_⟩))
        go_meet
        case rel => exact ⟨_,((t650.toList != ((t657 ++ (rdOf ByteArray.empty y621 (ji28))) ++ t663).toList)),(by first | rfl | (simp; done) | (simp only [<- hji28] <;> (first | rfl | simp)) | (simp [*]; done)),H',⟨by have:=HK1.out; have:=HJ9.out; have:=HK3.out; first | omega | exact Nat.le_refl _⟩,⟨rk HO_7⟩,⟨by (with_reducible repeat (first | apply Kd.N_alloc | apply Kd.N_drewN | apply Kd.N_drew)); exact Kd.N_mono HO649.out (fun _ hk => ⟨hk.1,⟨hk.2.2.1,hk.2.2.2⟩⟩)⟩,⟨kk BK609⟩,⟨kk BK639⟩,⟨bw HB⟩⟩⟩ : Nonempty G_)) :); w7_EditLands.bxo (G:=G_) (inferInstanceAs (Nonempty G_)))
       case rest =>
        show (let G_ : Prop:=_; G_)
        intro G_
        exact (let_tmp i_ : Nonempty G_:=(((⟨by
        subst G_
        clear HC46
        try clear c1; try clear c37b0; try clear c37b1; try clear c38b0; try clear c38b1; try clear c40; try clear c40b0; try clear c40b1; try clear c40b2; try clear c42b0; try clear c42b1; try clear c43b0; try clear c43b1; try clear c45; try clear c45b0; try clear c45b1; try clear c45b2; try clear q68; try clear c69; try clear q69; try clear hx624_0; try clear p624; try clear q069; try clear q624; try clear q68; try clear q69
        obtain ⟨kq,x136_45,rfl,HA,HJ45,HO_7,HO_16,BK609,BK639,HB⟩:=hcut
        cases kq with
        | zero => exact absurd HA.out (by simp [w7_EditLands.j3])
        | succ kj45 =>
         have H:=HA.out
         clear HA
         simp only [w7_EditLands.j3] at H
         by_cases c72 : x136_45 = true
         ·show (let G_ : Prop:=_; G_)
          intro G_
          exact (let_tmp i_ : Nonempty G_:=(((⟨by
          subst G_
          subst c72
          rw [if_pos rfl] at H
          obtain rfl:=Zo H
          go_wp2
          go_ret
          exact ⟨by first | rfl | (simp [Qbg,Qbf] <;> rfl) | (simp only [<- hji28,<- hji41]; first | rfl | (simp [Qbg,Qbf] <;> rfl)) | (simp [*,Qbg,Qbf] <;> rfl),bw HB⟩⟩ : Nonempty G_)) :); w7_EditLands.bxo (G:=G_) (inferInstanceAs (Nonempty G_)))
         replace c72:=Zf c72
         subst c72
         rw [if_neg nft] at H
         obtain ⟨⟨t665,t666,t667,t668,t669,t670,t671,t672,t675,t676,t677,t678⟩,A73,H⟩:=bE H
         try dsimp only at H
         obtain ⟨t680,A74,H⟩:=bE H
         by_cases c75 : t680 = 0; rotate_left
         ·rw [if_neg c75] at H
          obtain ⟨c75b0,c75b1⟩:=bF c75
          have H':=Zz.k H
          clear H
          have hnb180:=NB639_609.out
          have hnc180:=NB609_639.out
          obtain ⟨_,_,_,_,_,_,_,_,_,_,_,_,_,_,_,_,_,_,_,_,_,_⟩:=kc11 BK639
          go_wp2_with (first | ((with_reducible refine Qaa (f:=22) rfl ?_); refine gl (some 144) Tryz.func22 #[.slice Ao65 y647.length co65, .int .i64 (wrap64 (1 + (Int.tmod x9_3 3))), .int .i64 t625, .int .i64 t626] (h := ?_); (with_reducible refine (edit_Toggle.calls _ _ y647 (wrap64 (1 + (Int.tmod x9_3 3))) t625 t626 t665 t666 t667 t668 t669 t670 t671 t672 t675 t676 t677 t678 _ ?side1 ?side2 A73.out).mono ?_); (case side1 => exact cn HO_16); (case side2 => exact (Kd.N_reads' HO_16.out).2.1); rintro e w182 ⟨v673,rfl,ho0,hb⟩; refine ⟨_,rfl, ?_⟩; have HO674:=Zz.k (Kd.R_lower ho0 (Qag (bw HB))); replace HO_7:=rb HO_7 hb; replace HO_16:=Zz.k (Kd.N_elder' (nk HO_16) (Kd.R_base ho0) hb); replace BK609:=bl BK609 hb; replace BK639:=bl BK639 hb; replace HB:=bs HB hb; clear hb; clear ho0) | ((with_reducible refine Qad (N:=20) rfl ?_); refine bx 20 #[.int .i64 0, .int .i64 0, .int .i64 0, .int .i64 0, .int .i64 0, .int .i64 0, .string (⟨#[]⟩ : ByteArray), .slice none 0 0, .int .i64 0, .int .i64 0, .int .i64 0] 34 (h := ?_); intro gb679 hg w183 hbox hb; have BK679:=Zz.k (hbox); have GW679:=bz HB hg; have GE679:=bz HB hg; have NB609_679:=bn BK609 hg; have NB679_609:=bm BK609 hg; have NB639_679:=bn BK639 hg; have NB679_639:=bm BK639 hg; replace HO_7:=rb HO_7 hb; replace HO_16:=Zz.k (Kd.N_below (Kd.N_elderB (nk HO_16) gb679 (Nat.le_of_eq hg.symm)) hb); replace HO674:=rb HO674 hb; replace BK609:=bl BK609 hb; replace BK639:=bl BK639 hb; replace HB:=bs HB hb; clear hb hbox hg; have hnb184:=NB679_609.out; have hnc184:=NB609_679.out; have hnb185:=NB679_639.out; have hnc185:=NB639_679.out; obtain ⟨_,_,_,_,_,_,_,_,_,_,_,_,_,_,_,_,_,_,_,_,_,_⟩:=kc11 BK679; obtain ⟨Ao187,co187,eo187⟩:=Kd.R_slice HO674.out; subst eo187) | ((with_reducible refine Qaa (f:=11) rfl ?_); refine gl (some 148) Tryz.func11 #[.int .i64 t678] (h := ?_); (with_reducible refine (w7_num.calls t678 t680 _ A74.out).mono ?_); rintro e w' ⟨rfl,⟨nd,rfl⟩⟩; refine ⟨_,rfl, ?_⟩))
          go_roundg kj45
          case measure => have:=HK1.out; have:=HJ9.out; have:=HK3.out; have:=HJ45.out; omega
          case rel => exact ⟨(wrap64 (x9_3 + 1)),rf,H',⟨by have:=HK1.out; have:=HJ9.out; have:=HK3.out; have:=HJ45.out; omega⟩,⟨by (with_reducible repeat (first | apply Kd.R_alloc | apply Kd.R_drewN | apply Kd.R_drew)); exact Kd.R_mono (rf11 (Kd.R_types HO_7.out BK679.out (by decide))) (fun _ hk => trivial)⟩,⟨kk BK609⟩,⟨bw HB⟩⟩
         show (let G_ : Prop:=_; G_)
         intro G_
         exact (let_tmp i_ : Nonempty G_:=(((⟨by
         subst G_
         rw [if_pos c75] at H
         obtain ⟨c75b0,c75b1⟩:=bT c75
         clear c75
         obtain ⟨t681,A76,H⟩:=bE H
         obtain ⟨y684,hy684⟩ : ∃ y_ : List (SOp),y_ = (([(⟨t665,t666,t667,(⟨t668,t669,t670⟩ : SElem),t671,t672,t675,t676,t677⟩ : SOp)] : List (SOp))):=⟨_,rfl⟩
         first | rw [Option.bind_some,<- hy684] at H | rw [<- hy684] at H
         have Ny684:=Zz.k hy684
         clear hy684
         by_cases c77 : t681.length + y684.length < 1256584717458; rotate_left
         ·rw [if_neg c77] at H
          exact absurd H (by simp)
         show (let G_ : Prop:=_; G_)
         intro G_
         exact (let_tmp i_ : Nonempty G_:=(((⟨by
         subst G_
         rw [if_pos c77] at H
         have LMc77:=Zz.k c77
         clear c77
         obtain ⟨y687,hy687⟩ : ∃ y_ : List (SOp),y_ = (t681 ++ y684):=⟨_,rfl⟩
         first | rw [Option.bind_some,<- hy687] at H | rw [<- hy687] at H
         have Ny687:=Zz.k hy687
         clear hy687
         obtain ⟨⟨t690,t691⟩,A78,H⟩:=bE H
         try dsimp only at H
         have HC79:=Zz.k H
         clear H
         have hnb80:=NB639_609.out
         have hnc80:=NB609_639.out
         obtain ⟨_,_,_,_,_,_,_,_,_,_,_,_,_,_,_,_,_,_,_,_,_,_⟩:=kc11 BK639
         try go_wp2_with (first | ((with_reducible refine Qaa (f:=22) rfl ?_); refine gl (some 144) Tryz.func22 #[.slice Ao65 y647.length co65, .int .i64 (wrap64 (1 + (Int.tmod x9_3 3))), .int .i64 t625, .int .i64 t626] (h := ?_); (with_reducible refine (edit_Toggle.calls _ _ y647 (wrap64 (1 + (Int.tmod x9_3 3))) t625 t626 t665 t666 t667 t668 t669 t670 t671 t672 t675 t676 t677 t678 _ ?side1 ?side2 A73.out).mono ?_); (case side1 => exact cn HO_16); (case side2 => exact (Kd.N_reads' HO_16.out).2.1); rintro e w82 ⟨v673,rfl,ho0,hb⟩; refine ⟨_,rfl, ?_⟩; have HO674:=Zz.k (Kd.R_lower ho0 (Qag (bw HB))); replace HO_7:=rb HO_7 hb; replace HO_16:=Zz.k (Kd.N_elder' (nk HO_16) (Kd.R_base ho0) hb); replace BK609:=bl BK609 hb; replace BK639:=bl BK639 hb; replace HB:=bs HB hb; clear hb; clear ho0) | ((with_reducible refine Qad (N:=20) rfl ?_); refine bx 20 #[.int .i64 0, .int .i64 0, .int .i64 0, .int .i64 0, .int .i64 0, .int .i64 0, .string (⟨#[]⟩ : ByteArray), .slice none 0 0, .int .i64 0, .int .i64 0, .int .i64 0] 34 (h := ?_); intro gb679 hg w83 hbox hb; have BK679:=Zz.k (hbox); have GW679:=bz HB hg; have GE679:=bz HB hg; have NB609_679:=bn BK609 hg; have NB679_609:=bm BK609 hg; have NB639_679:=bn BK639 hg; have NB679_639:=bm BK639 hg; replace HO_7:=rb HO_7 hb; replace HO_16:=Zz.k (Kd.N_below (Kd.N_elderB (nk HO_16) gb679 (Nat.le_of_eq hg.symm)) hb); replace HO674:=rb HO674 hb; replace BK609:=bl BK609 hb; replace BK639:=bl BK639 hb; replace HB:=bs HB hb; clear hb hbox hg; have hnb84:=NB679_609.out; have hnc84:=NB609_679.out; have hnb85:=NB679_639.out; have hnc85:=NB639_679.out; obtain ⟨_,_,_,_,_,_,_,_,_,_,_,_,_,_,_,_,_,_,_,_,_,_⟩:=kc11 BK679; obtain ⟨Ao87,co87,eo87⟩:=Kd.R_slice HO674.out; subst eo87) | ((with_reducible refine Qaa (f:=11) rfl ?_); refine gl (some 148) Tryz.func11 #[.int .i64 t678] (h := ?_); (with_reducible refine (w7_num.calls t678 t680 _ A74.out).mono ?_); rintro e w' ⟨rfl,⟨nd,rfl⟩⟩; refine ⟨_,rfl, ?_⟩))
         generalize hgz : (((((((((((w83.setCell ⟨gb679,0,none⟩ (.int .i64 t665)).setCell ⟨gb679,1,none⟩ (.int .i64 t666)).setCell ⟨gb679,2,none⟩ (.int .i64 t667)).setCell ⟨gb679,3,none⟩ (.int .i64 t668)).setCell ⟨gb679,4,none⟩ (.int .i64 t669)).setCell ⟨gb679,5,none⟩ (.int .i64 t670)).setCell ⟨gb679,6,none⟩ (.string t671)).setCell ⟨gb679,7,none⟩ (.slice Ao87 t672.length co87)).setCell ⟨gb679,8,none⟩ (.int .i64 t675)).setCell ⟨gb679,9,none⟩ (.int .i64 t676)).setCell ⟨gb679,10,none⟩ (.int .i64 t677)) = w88
         have n0_ : Zz (Kd.R (Kd.int .i32) 21 w88 w.heap.size (fun _ => True) (.slice Ao48 t615.length co48) t615):=by rw [<- hgz]; exact ⟨by (with_reducible repeat (first | apply Kd.R_alloc | apply Kd.R_drewN | apply Kd.R_drew)); exact Kd.R_mono (rf11 (Kd.R_types HO_7.out BK679.out (by decide))) (fun _ hk => trivial)⟩
         have n1_ : Zz (Kd.N kOp 34 w88 w.heap.size (fun k_ => some k_ ≠ (.slice Ao48 t615.length co48 : Value).ownBlock /\ some k_ ≠ (.slice Ao87 t672.length co87 : Value).ownBlock /\ k_ ≠ gb609 /\ k_ ≠ gb639 /\ k_ ≠ gb679) (.slice Ao65 y647.length co65) y647):=by rw [<- hgz]; exact ⟨by (with_reducible repeat (first | apply Kd.N_alloc | apply Kd.N_drewN | apply Kd.N_drew)); exact Kd.N_mono (Kd.N_far (p:=⟨gb679,10,none⟩) (Kd.N_far (p:=⟨gb679,9,none⟩) (Kd.N_far (p:=⟨gb679,8,none⟩) (Kd.N_far (p:=⟨gb679,7,none⟩) (Kd.N_far (p:=⟨gb679,6,none⟩) (Kd.N_far (p:=⟨gb679,5,none⟩) (Kd.N_far (p:=⟨gb679,4,none⟩) (Kd.N_far (p:=⟨gb679,3,none⟩) (Kd.N_far (p:=⟨gb679,2,none⟩) (Kd.N_far (p:=⟨gb679,1,none⟩) (Kd.N_far (p:=⟨gb679,0,none⟩) (Kd.N_mono HO_16.out (fun k_ hk => (⟨hk,hk.2⟩ : _ /\ k_ ≠ gb679))) (fun _ hk => hk.2) (.int .i64 t665)) (fun _ hk => hk.2) (.int .i64 t666)) (fun _ hk => hk.2) (.int .i64 t667)) (fun _ hk => hk.2) (.int .i64 t668)) (fun _ hk => hk.2) (.int .i64 t669)) (fun _ hk => hk.2) (.int .i64 t670)) (fun _ hk => hk.2) (.string t671)) (fun _ hk => hk.2) (.slice Ao87 t672.length co87)) (fun _ hk => hk.2) (.int .i64 t675)) (fun _ hk => hk.2) (.int .i64 t676)) (fun _ hk => hk.2) (.int .i64 t677)) (fun _ hk => ⟨hk.1.1.1.1,⟨hk.1.1.2,⟨hk.1.1.1.2.1,⟨hk.1.1.1.2.2,hk.1.2⟩⟩⟩⟩)⟩
         have n2_ : Zz (Kd.R Qav 32 w88 w.heap.size (fun _ => True) (.slice Ao87 t672.length co87) t672):=by rw [<- hgz]; exact ⟨by (with_reducible repeat (first | apply Kd.R_alloc | apply Kd.R_drewN | apply Kd.R_drew)); exact Kd.R_mono (rf11 (Kd.R_types HO674.out BK679.out (by decide))) (fun _ hk => trivial)⟩
         have n3_ : Zz (w88.heap[gb609]? = some (.cells #[.slice (some ad611) l0_0.length c0_0, .slice A0_1 l0_1.length c0_1, .slice A0_2 l0_2.length c0_2, .slice A0_3 l0_3.length c0_3] 27 (0,0))):=by rw [<- hgz]; exact ⟨kk BK609⟩
         have n4_ : Zz (w88.heap[gb639]? = some (.cells #[.int .i64 t625, .int .i64 t626, .int .i64 t627, .int .i64 t628, .int .i64 t629, .int .i64 t630, .string t631, .slice Ao56 t632.length co56, .int .i64 t635, .int .i64 t636, .int .i64 t637] 34 (0,0))):=by rw [<- hgz]; exact ⟨kk BK639⟩
         have n5_ : Zz (w88.heap[gb679]? = some (.cells #[.int .i64 t665, .int .i64 t666, .int .i64 t667, .int .i64 t668, .int .i64 t669, .int .i64 t670, .string t671, .slice Ao87 t672.length co87, .int .i64 t675, .int .i64 t676, .int .i64 t677] 34 (0,0))):=by rw [<- hgz]; exact ⟨bp11 (kk BK679)⟩
         have n6_ : Zz (Below w.heap.size w w88):=by rw [<- hgz]; exact ⟨bw HB⟩
         (try clear HO_7)
         (try clear HO_16)
         (try clear HO674)
         (try clear BK609)
         (try clear BK639)
         (try clear BK679)
         (try clear HB)
         clear hgz
         have HO_7:=n0_
         have HO_16:=n1_
         have HO674:=n2_
         have BK609:=n3_
         have BK639:=n4_
         have BK679:=n5_
         have HB:=n6_
         clear n0_ n1_ n2_ n3_ n4_ n5_ n6_
         (try (rw [Qbm w88]; generalize hq_ : World.drewN w88 _ = w88; have n0_ : Zz (Kd.R Qav 32 w88 w.heap.size (fun _ => True) (.slice Ao87 t672.length co87) t672):=⟨by rw [<- hq_]; exact (rk HO674)⟩; have n1_ : Zz (Kd.N kOp 34 w88 w.heap.size (fun k_ => some k_ ≠ (.slice Ao87 t672.length co87 : Value).ownBlock /\ some k_ ≠ (.slice Ao48 t615.length co48 : Value).ownBlock /\ k_ ≠ gb609 /\ k_ ≠ gb639 /\ k_ ≠ gb679) (.slice Ao65 y647.length co65) y647):=⟨by rw [<- hq_]; exact (by (with_reducible repeat (first | apply Kd.N_alloc | apply Kd.N_drewN | apply Kd.N_drew)); exact Kd.N_mono HO_16.out (fun _ hk => ⟨hk.2.1,⟨hk.1,⟨hk.2.2.1,⟨hk.2.2.2.1,hk.2.2.2.2⟩⟩⟩⟩))⟩; have n2_ : Zz (Kd.R (Kd.int .i32) 21 w88 w.heap.size (fun _ => True) (.slice Ao48 t615.length co48) t615):=⟨by rw [<- hq_]; exact (rk HO_7)⟩; have n3_ : Zz (w88.heap[gb609]? = some (.cells #[.slice (some ad611) l0_0.length c0_0, .slice A0_1 l0_1.length c0_1, .slice A0_2 l0_2.length c0_2, .slice A0_3 l0_3.length c0_3] 27 (0,0))):=⟨by rw [<- hq_]; exact (kk BK609)⟩; have n4_ : Zz (w88.heap[gb639]? = some (.cells #[.int .i64 t625, .int .i64 t626, .int .i64 t627, .int .i64 t628, .int .i64 t629, .int .i64 t630, .string t631, .slice Ao56 t632.length co56, .int .i64 t635, .int .i64 t636, .int .i64 t637] 34 (0,0))):=⟨by rw [<- hq_]; exact (kk BK639)⟩; have n5_ : Zz (w88.heap[gb679]? = some (.cells #[.int .i64 t665, .int .i64 t666, .int .i64 t667, .int .i64 t668, .int .i64 t669, .int .i64 t670, .string t671, .slice Ao87 t672.length co87, .int .i64 t675, .int .i64 t676, .int .i64 t677] 34 (0,0))):=⟨by rw [<- hq_]; exact (kk BK679)⟩; have n6_ : Zz (Below w.heap.size w w88):=⟨by rw [<- hq_]; exact (bw HB)⟩; clear HO674 HO_16 HO_7 BK609 BK639 BK679 HB hq_; have HO674:=n0_; have HO_16:=n1_; have HO_7:=n2_; have BK609:=n3_; have BK639:=n4_; have BK679:=n5_; have HB:=n6_; clear n0_ n1_ n2_ n3_ n4_ n5_ n6_))
         have n0_:=Zz.k (Kd.R_drew HO_7.out)
         have n1_:=Zz.k (Kd.N_drew HO_16.out)
         have n2_:=Zz.k (Kd.R_drew HO674.out)
         have n3_:=Zz.k (Qam BK609.out)
         have n4_:=Zz.k (Qam BK639.out)
         have n5_:=Zz.k (Qam BK679.out)
         have n6_:=Zz.k (Qae HB.out)
         clear HO_7
         clear HO_16
         clear HO674
         clear BK609
         clear BK639
         clear BK679
         clear HB
         have HO_7:=n0_
         have HO_16:=n1_
         have HO674:=n2_
         have BK609:=n3_
         have BK639:=n4_
         have BK679:=n5_
         have HB:=n6_
         clear n0_ n1_ n2_ n3_ n4_ n5_ n6_
         refine stP (fun w' => E11 w' gb679 (.int .i64 t665) (.int .i64 t666) (.int .i64 t667) (.int .i64 t668) (.int .i64 t669) (.int .i64 t670) (.string t671) (.slice Ao87 t672.length co87) (.int .i64 t675) (.int .i64 t676) (.int .i64 t677)) 6 (e11 BK679) (h:=fun hHeld => ?_)
         generalize w88.drew = w89 at HO_7 HO_16 HO674 BK609 BK639 BK679 HB hHeld ⊢
         refine pu0 0 150 1 (h := ?_)
         refine tk0 hHeld 2 152 5 (h := ?_)
         refine join_ (σ:=Value × Value) 2 (bA 6 15) (fun s_ => [(151,s_.1),(153,s_.2)]) (fun s_ w' => (w'.cell? ⟨gb679,0,none⟩ = some (.int .i64 t665) /\ w'.cell? ⟨gb679,1,none⟩ = some (.int .i64 t666) /\ w'.cell? ⟨gb679,2,none⟩ = some (.int .i64 t667) /\ w'.cell? ⟨gb679,3,none⟩ = some (.int .i64 t668) /\ w'.cell? ⟨gb679,4,none⟩ = some (.int .i64 t669) /\ w'.cell? ⟨gb679,5,none⟩ = some (.int .i64 t670) /\ w'.cell? ⟨gb679,6,none⟩ = some (.string t671) /\ w'.cell? ⟨gb679,7,none⟩ = some (.slice Ao87 t672.length co87) /\ w'.cell? ⟨gb679,8,none⟩ = some (.int .i64 t675) /\ w'.cell? ⟨gb679,9,none⟩ = some (.int .i64 t676) /\ w'.cell? ⟨gb679,10,none⟩ = some (.int .i64 t677)) /\ (Kd.N kOp 34 w' w.heap.size (fun k_ => some k_ ≠ (s_.2 : Value).ownBlock /\ some k_ ≠ (.slice Ao65 y647.length co65 : Value).ownBlock /\ some k_ ≠ (.slice Ao48 t615.length co48 : Value).ownBlock /\ k_ ≠ gb609 /\ k_ ≠ gb639 /\ k_ ≠ gb679) s_.1 t681) /\ (Kd.N kOp 34 w' w.heap.size (fun k_ => some k_ ≠ (s_.1 : Value).ownBlock /\ some k_ ≠ (.slice Ao65 y647.length co65 : Value).ownBlock /\ some k_ ≠ (.slice Ao48 t615.length co48 : Value).ownBlock /\ k_ ≠ gb609 /\ k_ ≠ gb639 /\ k_ ≠ gb679) s_.2 y684) /\ (Kd.N kOp 34 w' w.heap.size (fun k_ => some k_ ≠ (s_.1 : Value).ownBlock /\ some k_ ≠ (s_.2 : Value).ownBlock /\ some k_ ≠ (.slice Ao48 t615.length co48 : Value).ownBlock /\ k_ ≠ gb609 /\ k_ ≠ gb639 /\ k_ ≠ gb679) (.slice Ao65 y647.length co65) y647) /\ (Kd.R (Kd.int .i32) 21 w' w.heap.size (fun _ => True) (.slice Ao48 t615.length co48) t615) /\ (w'.heap[gb609]? = some (.cells #[.slice (some ad611) l0_0.length c0_0, .slice A0_1 l0_1.length c0_1, .slice A0_2 l0_2.length c0_2, .slice A0_3 l0_3.length c0_3] 27 (0,0))) /\ (w'.heap[gb639]? = some (.cells #[.int .i64 t625, .int .i64 t626, .int .i64 t627, .int .i64 t628, .int .i64 t629, .int .i64 t630, .string t631, .slice Ao56 t632.length co56, .int .i64 t635, .int .i64 t636, .int .i64 t637] 34 (0,0))) /\ (w'.heap[gb679]? = some (.cells #[.int .i64 t665, .int .i64 t666, .int .i64 t667, .int .i64 t668, .int .i64 t669, .int .i64 t670, .string t671, .slice Ao87 t672.length co87, .int .i64 t675, .int .i64 t676, .int .i64 t677] 34 (0,0))) /\ (Below w.heap.size w w')) ?_ ?_
         rotate_left
         ·show (let G_ : Prop:=_; G_)
          intro G_
          exact (let_tmp i_ : Nonempty G_:=(((⟨by
          subst G_
          intro hCont
          refine two_ (i:=1) (j:=3) (Ni:=some 151) (Nj:=some 153) (bA 6 7) (bA 6 13) rfl rfl rfl rfl (by kernel_rfl) (by decide) (by decide) (fun K hK => ?_) (fun K hK => ?_)
          ·show (let G_ : Prop:=_; G_)
           intro G_
           exact (let_tmp i_ : Nonempty G_:=(((⟨by
           subst G_
           skip
           refine gS Tryz.func20 #[.slice Ao65 y647.length co65] (h := ?_)
           with_reducible refine (r0_CopyOps.calls kj45 _ _ y647 t681 _ ?side1 ?side2 A76.out).mono ?_
           (case side1 => exact cn HO_16)
           (case side2 => exact (Kd.N_reads' HO_16.out).2.1)
           rintro e w90 ⟨v682,rfl,ho0,hb⟩
           refine ⟨_,rfl, ?_⟩
           have n0_:=rb HO_7 hb
           have n1_:=Zz.k (Kd.N_elder' (nk HO_16) (Kd.N_base (Kd.S_N ho0)) hb)
           have n2_:=rb HO674 hb
           have n3_:=Zz.k (Kd.N_lower (Kd.N_mono (ok':=fun k_ => some k_ ≠ (.slice Ao48 t615.length co48 : Value).ownBlock /\ some k_ ≠ (.slice Ao65 y647.length co65 : Value).ownBlock /\ some k_ ≠ (.slice Ao87 t672.length co87 : Value).ownBlock /\ k_ ≠ gb609 /\ k_ ≠ gb639 /\ k_ ≠ gb679) (Kd.S_N (Kd.S_bound ho0)) (fun k_ hk_ => ⟨(Kd.fresh' (Kd.R_lt (rk HO_7)) k_ hk_.2.1),(Kd.fresh' (Kd.N_lt (nk HO_16)) k_ hk_.2.1),(Kd.fresh' (Kd.R_lt (rk HO674)) k_ hk_.2.1),(Kd.freshB (kk BK609) k_ hk_.2.1),(Kd.freshB (kk BK639) k_ hk_.2.1),(Kd.freshB (kk BK679) k_ hk_.2.1)⟩)) (Qag (bw HB)))
           have n4_:=bl BK609 hb
           have n5_:=bl BK639 hb
           have n6_:=bl BK679 hb
           have n7_:=bs HB hb
           clear HO_7
           clear HO_16
           clear HO674
           clear BK609
           clear BK639
           clear BK679
           clear HB
           have HO_7:=n0_
           have HO_16:=n1_
           have HO674:=n2_
           have HO683:=n3_
           have BK609:=n4_
           have BK639:=n5_
           have BK679:=n6_
           have HB:=n7_
           clear n0_ n1_ n2_ n3_ n4_ n5_ n6_ n7_
           (try clear hb)
           (try clear hb2)
           (try clear hk)
           (try clear hi)
           (try clear ho0)
           refine hK.out _ _ (e11 BK679) (fun hHeld => ?_)
           clear hK K
           refine nn 151 (h := ?_)
           refine on0 3 (some 153) 15 (h:=fun K hK => ?_)
           refine Kd.N_lit_step kOp _ 34 ?hg (N':=153) ?hd (xs:=([(⟨t665,t666,t667,(⟨t668,t669,t670⟩ : SElem),t671,t672,t675,t676,t677⟩ : SOp)] : List (SOp))) (inner:=[.int .i64 t665, .int .i64 t666, .int .i64 t667, .int .i64 t668, .int .i64 t669, .int .i64 t670, .string t671, .slice Ao87 t672.length co87, .int .i64 t675, .int .i64 t676, .int .i64 t677]) (ok:=(fun k_ => some k_ ≠ (.slice Ao48 t615.length co48 : Value).ownBlock /\ some k_ ≠ (.slice Ao65 y647.length co65 : Value).ownBlock /\ some k_ ≠ (v682 : Value).ownBlock /\ k_ ≠ gb609 /\ k_ ≠ gb639 /\ k_ ≠ gb679)) (okp:=(fun k_ => some k_ ≠ (.slice Ao48 t615.length co48 : Value).ownBlock /\ some k_ ≠ (.slice Ao65 y647.length co65 : Value).ownBlock /\ some k_ ≠ (v682 : Value).ownBlock /\ k_ ≠ gb609 /\ k_ ≠ gb639 /\ k_ ≠ gb679)) ?hr ?hp (fun _ hk => hk) ((show ∀ k_,w90.heap.size <= k_ -> (fun k_ => some k_ ≠ (.slice Ao48 t615.length co48 : Value).ownBlock /\ some k_ ≠ (.slice Ao65 y647.length co65 : Value).ownBlock /\ some k_ ≠ (v682 : Value).ownBlock /\ k_ ≠ gb609 /\ k_ ≠ gb639 /\ k_ ≠ gb679) k_ from fun k_ hk => ⟨Kd.fresh' (Kd.R_lt (rk HO_7)) k_ hk,Kd.fresh' (Kd.N_lt (nk HO_16)) k_ hk,Kd.fresh' (Kd.N_lt (nk HO683)) k_ hk,Kd.freshB (kk BK609) k_ hk,Kd.freshB (kk BK639) k_ hk,Kd.freshB (kk BK679) k_ hk⟩) _ (Nat.le_refl _)) (Below.refl _ _) (Nat.le_refl _) (by simp) ?_; (case hd => rfl); (case hg => rfl); (case hr => first | (go_simp; done) | (go_simp; rfl)); (case hp => exact (Reps.front (show Kd.FK kOp _ _ (⟨t665,t666,t667,(⟨t668,t669,t670⟩ : SElem),t671,t672,t675,t676,t677⟩ : SOp) [.int .i64 t665, .int .i64 t666, .int .i64 t667, .int .i64 t668, .int .i64 t669, .int .i64 t670, .string t671, .slice Ao87 t672.length co87, .int .i64 t675, .int .i64 t676, .int .i64 t677] from (kOp_mkF _ _ (⟨t665,t666,t667,(⟨t668,t669,t670⟩ : SElem),t671,t672,t675,t676,t677⟩ : SOp) (Kd.R_reads' (Kd.R_mono (ok':=(fun k_ => some k_ ≠ (.slice Ao48 t615.length co48 : Value).ownBlock /\ some k_ ≠ (.slice Ao65 y647.length co65 : Value).ownBlock /\ some k_ ≠ (v682 : Value).ownBlock /\ k_ ≠ gb609 /\ k_ ≠ gb639 /\ k_ ≠ gb679)) (Kd.R_types (Kd.R_types (Kd.R_types (Kd.R_apart' (Kd.R_apart' (Kd.R_apart' (HO674.out) (Kd.R_typed HO_7.out) (by decide)) (Kd.N_typed HO_16.out) (by decide)) (Kd.N_typed HO683.out) (by decide)) BK609.out (by decide)) BK639.out (by decide)) BK679.out (by decide)) (fun k_ hk => ⟨hk.1.1.1.1.1.2,⟨hk.1.1.1.1.2,⟨hk.1.1.1.2,⟨hk.1.1.2,⟨hk.1.2,hk.2⟩⟩⟩⟩⟩))).2.1 (Kd.R_F (Kd.R_mono (ok':=(fun k_ => some k_ ≠ (.slice Ao48 t615.length co48 : Value).ownBlock /\ some k_ ≠ (.slice Ao65 y647.length co65 : Value).ownBlock /\ some k_ ≠ (v682 : Value).ownBlock /\ k_ ≠ gb609 /\ k_ ≠ gb639 /\ k_ ≠ gb679)) (Kd.R_types (Kd.R_types (Kd.R_types (Kd.R_apart' (Kd.R_apart' (Kd.R_apart' (HO674.out) (Kd.R_typed HO_7.out) (by decide)) (Kd.N_typed HO_16.out) (by decide)) (Kd.N_typed HO683.out) (by decide)) BK609.out (by decide)) BK639.out (by decide)) BK679.out (by decide)) (fun k_ hk => ⟨hk.1.1.1.1.1.2,⟨hk.1.1.1.1.2,⟨hk.1.1.1.2,⟨hk.1.1.2,⟨hk.1.2,hk.2⟩⟩⟩⟩⟩))))) rfl (Reps.none _ _) rfl))
           intro v685 w91 ho92 hb hg_ hnew_
           clear hg_ hnew_
           (first | rw [<- Ny684.out] at ho92 | (simp only [Int.reduceToNat] at ho92; rw [<- Ny684.out] at ho92))
           have n0_:=rb HO_7 hb
           have n1_:=Zz.k (Kd.N_elder' (nk HO_16) (Kd.N_base ho92) hb)
           have n2_:=Zz.k (Kd.N_elder' (nk HO683) (Kd.N_base ho92) hb)
           have n3_:=Zz.k (Kd.N_lower ho92 (Qag (bw HB)))
           have n4_:=bl BK609 hb
           have n5_:=bl BK639 hb
           have n6_:=bl BK679 hb
           have n7_:=bs HB hb
           clear HO_7
           clear HO_16
           clear HO683
           clear BK609
           clear BK639
           clear BK679
           clear HB
           clear HO674
           have HO_7:=n0_
           have HO_16:=n1_
           have HO683:=n2_
           have HO686:=n3_
           have BK609:=n4_
           have BK639:=n5_
           have BK679:=n6_
           have HB:=n7_
           clear n0_ n1_ n2_ n3_ n4_ n5_ n6_ n7_
           clear hb ho92
           refine hK.out _ _ (e11 BK679) (fun hHeld => ?_)
           clear hK K
           refine nn 153 (h := ?_)
           exact norm_ (by simp only [putAll,Act.put,List.setIfInBounds_toArray,List.set_cons_zero,List.set_cons_succ]) (hCont (v682,v685) _ ⟨hHeld,(by (with_reducible repeat (first | apply Kd.N_alloc | apply Kd.N_drewN | apply Kd.N_drew)); exact Kd.N_mono HO683.out (fun _ hk => ⟨hk.2,⟨hk.1.2.1,⟨hk.1.1,⟨hk.1.2.2.2.1,⟨hk.1.2.2.2.2.1,hk.1.2.2.2.2.2⟩⟩⟩⟩⟩)),(by (with_reducible repeat (first | apply Kd.N_alloc | apply Kd.N_drewN | apply Kd.N_drew)); exact Kd.N_mono HO686.out (fun _ hk => ⟨hk.2.2.1,⟨hk.2.1,⟨hk.1,⟨hk.2.2.2.1,⟨hk.2.2.2.2.1,hk.2.2.2.2.2⟩⟩⟩⟩⟩)),(by (with_reducible repeat (first | apply Kd.N_alloc | apply Kd.N_drewN | apply Kd.N_drew)); exact Kd.N_mono HO_16.out (fun _ hk => ⟨hk.1.2,⟨hk.2,⟨hk.1.1.2.1,⟨hk.1.1.2.2.1,⟨hk.1.1.2.2.2.1,hk.1.1.2.2.2.2⟩⟩⟩⟩⟩)),(rk HO_7),(kk BK609),(kk BK639),(kk BK679),(bw HB)⟩)⟩ : Nonempty G_)) :); w7_EditLands.bxo (G:=G_) (inferInstanceAs (Nonempty G_)))
          skip
          refine Kd.N_lit_step kOp _ 34 ?hg (N':=153) ?hd (xs:=([(⟨t665,t666,t667,(⟨t668,t669,t670⟩ : SElem),t671,t672,t675,t676,t677⟩ : SOp)] : List (SOp))) (inner:=[.int .i64 t665, .int .i64 t666, .int .i64 t667, .int .i64 t668, .int .i64 t669, .int .i64 t670, .string t671, .slice Ao87 t672.length co87, .int .i64 t675, .int .i64 t676, .int .i64 t677]) (ok:=(fun k_ => some k_ ≠ (.slice Ao48 t615.length co48 : Value).ownBlock /\ some k_ ≠ (.slice Ao65 y647.length co65 : Value).ownBlock /\ k_ ≠ gb609 /\ k_ ≠ gb639 /\ k_ ≠ gb679)) (okp:=(fun k_ => some k_ ≠ (.slice Ao48 t615.length co48 : Value).ownBlock /\ some k_ ≠ (.slice Ao65 y647.length co65 : Value).ownBlock /\ k_ ≠ gb609 /\ k_ ≠ gb639 /\ k_ ≠ gb679)) ?hr ?hp (fun _ hk => hk) ((show ∀ k_,w89.heap.size <= k_ -> (fun k_ => some k_ ≠ (.slice Ao48 t615.length co48 : Value).ownBlock /\ some k_ ≠ (.slice Ao65 y647.length co65 : Value).ownBlock /\ k_ ≠ gb609 /\ k_ ≠ gb639 /\ k_ ≠ gb679) k_ from fun k_ hk => ⟨Kd.fresh' (Kd.R_lt (rk HO_7)) k_ hk,Kd.fresh' (Kd.N_lt (nk HO_16)) k_ hk,Kd.freshB (kk BK609) k_ hk,Kd.freshB (kk BK639) k_ hk,Kd.freshB (kk BK679) k_ hk⟩) _ (Nat.le_refl _)) (Below.refl _ _) (Nat.le_refl _) (by simp) ?_; (case hd => rfl); (case hg => rfl); (case hr => first | (go_simp; done) | (go_simp; rfl)); (case hp => exact (Reps.front (show Kd.FK kOp _ _ (⟨t665,t666,t667,(⟨t668,t669,t670⟩ : SElem),t671,t672,t675,t676,t677⟩ : SOp) [.int .i64 t665, .int .i64 t666, .int .i64 t667, .int .i64 t668, .int .i64 t669, .int .i64 t670, .string t671, .slice Ao87 t672.length co87, .int .i64 t675, .int .i64 t676, .int .i64 t677] from (kOp_mkF _ _ (⟨t665,t666,t667,(⟨t668,t669,t670⟩ : SElem),t671,t672,t675,t676,t677⟩ : SOp) (Kd.R_reads' (Kd.R_mono (ok':=(fun k_ => some k_ ≠ (.slice Ao48 t615.length co48 : Value).ownBlock /\ some k_ ≠ (.slice Ao65 y647.length co65 : Value).ownBlock /\ k_ ≠ gb609 /\ k_ ≠ gb639 /\ k_ ≠ gb679)) (Kd.R_types (Kd.R_types (Kd.R_types (Kd.R_apart' (Kd.R_apart' (HO674.out) (Kd.R_typed HO_7.out) (by decide)) (Kd.N_typed HO_16.out) (by decide)) BK609.out (by decide)) BK639.out (by decide)) BK679.out (by decide)) (fun k_ hk => ⟨hk.1.1.1.1.2,⟨hk.1.1.1.2,⟨hk.1.1.2,⟨hk.1.2,hk.2⟩⟩⟩⟩))).2.1 (Kd.R_F (Kd.R_mono (ok':=(fun k_ => some k_ ≠ (.slice Ao48 t615.length co48 : Value).ownBlock /\ some k_ ≠ (.slice Ao65 y647.length co65 : Value).ownBlock /\ k_ ≠ gb609 /\ k_ ≠ gb639 /\ k_ ≠ gb679)) (Kd.R_types (Kd.R_types (Kd.R_types (Kd.R_apart' (Kd.R_apart' (HO674.out) (Kd.R_typed HO_7.out) (by decide)) (Kd.N_typed HO_16.out) (by decide)) BK609.out (by decide)) BK639.out (by decide)) BK679.out (by decide)) (fun k_ hk => ⟨hk.1.1.1.1.2,⟨hk.1.1.1.2,⟨hk.1.1.2,⟨hk.1.2,hk.2⟩⟩⟩⟩))))) rfl (Reps.none _ _) rfl))
          intro v685 w90 ho91 hb hg_ hnew_
          clear hg_ hnew_
          (first | rw [<- Ny684.out] at ho91 | (simp only [Int.reduceToNat] at ho91; rw [<- Ny684.out] at ho91))
          have n0_:=rb HO_7 hb
          have n1_:=Zz.k (Kd.N_elder' (nk HO_16) (Kd.N_base ho91) hb)
          have n2_:=Zz.k (Kd.N_lower ho91 (Qag (bw HB)))
          have n3_:=bl BK609 hb
          have n4_:=bl BK639 hb
          have n5_:=bl BK679 hb
          have n6_:=bs HB hb
          clear HO_7
          clear HO_16
          clear BK609
          clear BK639
          clear BK679
          clear HB
          clear HO674
          have HO_7:=n0_
          have HO_16:=n1_
          have HO686:=n2_
          have BK609:=n3_
          have BK639:=n4_
          have BK679:=n5_
          have HB:=n6_
          clear n0_ n1_ n2_ n3_ n4_ n5_ n6_
          clear hb ho91
          refine hK.out _ _ (e11 BK679) (fun hHeld => ?_)
          clear hK K
          refine nn 153 (h := ?_)
          refine on0 1 (some 151) 15 (h:=fun K hK => ?_)
          refine gS Tryz.func20 #[.slice Ao65 y647.length co65] (h := ?_)
          with_reducible refine (r0_CopyOps.calls kj45 _ _ y647 t681 _ ?side1 ?side2 A76.out).mono ?_
          (case side1 => exact cn HO_16)
          (case side2 => exact (Kd.N_reads' HO_16.out).2.1)
          rintro e w92 ⟨v682,rfl,ho0,hb⟩
          refine ⟨_,rfl, ?_⟩
          have n0_:=rb HO_7 hb
          have n1_:=Zz.k (Kd.N_elder' (nk HO_16) (Kd.N_base (Kd.S_N ho0)) hb)
          have n2_:=Zz.k (Kd.N_elder' (nk HO686) (Kd.N_base (Kd.S_N ho0)) hb)
          have n3_:=Zz.k (Kd.N_lower (Kd.N_mono (ok':=fun k_ => some k_ ≠ (.slice Ao48 t615.length co48 : Value).ownBlock /\ some k_ ≠ (.slice Ao65 y647.length co65 : Value).ownBlock /\ some k_ ≠ (v685 : Value).ownBlock /\ k_ ≠ gb609 /\ k_ ≠ gb639 /\ k_ ≠ gb679) (Kd.S_N (Kd.S_bound ho0)) (fun k_ hk_ => ⟨(Kd.fresh' (Kd.R_lt (rk HO_7)) k_ hk_.2.1),(Kd.fresh' (Kd.N_lt (nk HO_16)) k_ hk_.2.1),(Kd.fresh' (Kd.N_lt (nk HO686)) k_ hk_.2.1),(Kd.freshB (kk BK609) k_ hk_.2.1),(Kd.freshB (kk BK639) k_ hk_.2.1),(Kd.freshB (kk BK679) k_ hk_.2.1)⟩)) (Qag (bw HB)))
          have n4_:=bl BK609 hb
          have n5_:=bl BK639 hb
          have n6_:=bl BK679 hb
          have n7_:=bs HB hb
          clear HO_7
          clear HO_16
          clear HO686
          clear BK609
          clear BK639
          clear BK679
          clear HB
          have HO_7:=n0_
          have HO_16:=n1_
          have HO686:=n2_
          have HO683:=n3_
          have BK609:=n4_
          have BK639:=n5_
          have BK679:=n6_
          have HB:=n7_
          clear n0_ n1_ n2_ n3_ n4_ n5_ n6_ n7_
          (try clear hb)
          (try clear hb2)
          (try clear hk)
          (try clear hi)
          (try clear ho0)
          refine hK.out _ _ (e11 BK679) (fun hHeld => ?_)
          clear hK K
          refine nn 151 (h := ?_)
          exact norm_ (by simp only [putAll,Act.put,List.setIfInBounds_toArray,List.set_cons_zero,List.set_cons_succ]) (hCont (v682,v685) _ ⟨hHeld,(by (with_reducible repeat (first | apply Kd.N_alloc | apply Kd.N_drewN | apply Kd.N_drew)); exact Kd.N_mono HO683.out (fun _ hk => ⟨hk.2.2.1,⟨hk.2.1,⟨hk.1,⟨hk.2.2.2.1,⟨hk.2.2.2.2.1,hk.2.2.2.2.2⟩⟩⟩⟩⟩)),(by (with_reducible repeat (first | apply Kd.N_alloc | apply Kd.N_drewN | apply Kd.N_drew)); exact Kd.N_mono HO686.out (fun _ hk => ⟨hk.2,⟨hk.1.2.1,⟨hk.1.1,⟨hk.1.2.2.1,⟨hk.1.2.2.2.1,hk.1.2.2.2.2⟩⟩⟩⟩⟩)),(by (with_reducible repeat (first | apply Kd.N_alloc | apply Kd.N_drewN | apply Kd.N_drew)); exact Kd.N_mono HO_16.out (fun _ hk => ⟨hk.2,⟨hk.1.2,⟨hk.1.1.2.1,⟨hk.1.1.2.2.1,⟨hk.1.1.2.2.2.1,hk.1.1.2.2.2.2⟩⟩⟩⟩⟩)),(rk HO_7),(kk BK609),(kk BK639),(kk BK679),(bw HB)⟩)⟩ : Nonempty G_)) :); w7_EditLands.bxo (G:=G_) (inferInstanceAs (Nonempty G_)))
         rintro ⟨v682,v685⟩ w93 ⟨hS_,h0_,h1_,h2_,h3_,h4_,h5_,h6_,h7_⟩
         have n0_ : Zz (Kd.N kOp 34 w93 w.heap.size (fun k_ => some k_ ≠ (v685 : Value).ownBlock /\ some k_ ≠ (.slice Ao65 y647.length co65 : Value).ownBlock /\ some k_ ≠ (.slice Ao48 t615.length co48 : Value).ownBlock /\ k_ ≠ gb609 /\ k_ ≠ gb639 /\ k_ ≠ gb679) v682 t681):=⟨h0_⟩
         have n1_ : Zz (Kd.N kOp 34 w93 w.heap.size (fun k_ => some k_ ≠ (v682 : Value).ownBlock /\ some k_ ≠ (.slice Ao65 y647.length co65 : Value).ownBlock /\ some k_ ≠ (.slice Ao48 t615.length co48 : Value).ownBlock /\ k_ ≠ gb609 /\ k_ ≠ gb639 /\ k_ ≠ gb679) v685 y684):=⟨h1_⟩
         have n2_ : Zz (Kd.N kOp 34 w93 w.heap.size (fun k_ => some k_ ≠ (v682 : Value).ownBlock /\ some k_ ≠ (v685 : Value).ownBlock /\ some k_ ≠ (.slice Ao48 t615.length co48 : Value).ownBlock /\ k_ ≠ gb609 /\ k_ ≠ gb639 /\ k_ ≠ gb679) (.slice Ao65 y647.length co65) y647):=⟨h2_⟩
         have n3_ : Zz (Kd.R (Kd.int .i32) 21 w93 w.heap.size (fun _ => True) (.slice Ao48 t615.length co48) t615):=⟨h3_⟩
         have n4_ : Zz (w93.heap[gb609]? = some (.cells #[.slice (some ad611) l0_0.length c0_0, .slice A0_1 l0_1.length c0_1, .slice A0_2 l0_2.length c0_2, .slice A0_3 l0_3.length c0_3] 27 (0,0))):=⟨h4_⟩
         have n5_ : Zz (w93.heap[gb639]? = some (.cells #[.int .i64 t625, .int .i64 t626, .int .i64 t627, .int .i64 t628, .int .i64 t629, .int .i64 t630, .string t631, .slice Ao56 t632.length co56, .int .i64 t635, .int .i64 t636, .int .i64 t637] 34 (0,0))):=⟨h5_⟩
         have n6_ : Zz (w93.heap[gb679]? = some (.cells #[.int .i64 t665, .int .i64 t666, .int .i64 t667, .int .i64 t668, .int .i64 t669, .int .i64 t670, .string t671, .slice Ao87 t672.length co87, .int .i64 t675, .int .i64 t676, .int .i64 t677] 34 (0,0))):=⟨h6_⟩
         have n7_ : Zz (Below w.heap.size w w93):=⟨h7_⟩
         clear HO_7
         clear HO_16
         clear HO674
         clear BK609
         clear BK639
         clear BK679
         clear HB
         clear h0_ h1_ h2_ h3_ h4_ h5_ h6_ h7_
         have HO683:=n0_
         have HO686:=n1_
         have HO_16:=n2_
         have HO_7:=n3_
         have BK609:=n4_
         have BK639:=n5_
         have BK679:=n6_
         have HB:=n7_
         clear n0_ n1_ n2_ n3_ n4_ n5_ n6_ n7_
         have hHeld : w93.cell? ⟨gb679,0,none⟩ = some (.int .i64 t665) /\ w93.cell? ⟨gb679,1,none⟩ = some (.int .i64 t666) /\ w93.cell? ⟨gb679,2,none⟩ = some (.int .i64 t667) /\ w93.cell? ⟨gb679,3,none⟩ = some (.int .i64 t668) /\ w93.cell? ⟨gb679,4,none⟩ = some (.int .i64 t669) /\ w93.cell? ⟨gb679,5,none⟩ = some (.int .i64 t670) /\ w93.cell? ⟨gb679,6,none⟩ = some (.string t671) /\ w93.cell? ⟨gb679,7,none⟩ = some (.slice Ao87 t672.length co87) /\ w93.cell? ⟨gb679,8,none⟩ = some (.int .i64 t675) /\ w93.cell? ⟨gb679,9,none⟩ = some (.int .i64 t676) /\ w93.cell? ⟨gb679,10,none⟩ = some (.int .i64 t677):=hS_
         obtain ⟨Ao95,co95,eo95⟩:=Kd.N_slice HO686.out
         (first | subst eo95 | (injection eo95 with f1_ f2_ f3_; have f4_:=f1_.symm; have f5_:=f3_.symm; clear f1_ f2_ f3_; subst f4_; subst f5_))
         refine norm_ (a' := ?_) ?_ ?_
         rotate_left
         ·simp only [putAll,Act.put,List.setIfInBounds_toArray,List.set_cons_zero,List.set_cons_succ]
          rfl
         refine on0 4 (some 154) 31 (h:=fun K hK => ?_)
         refine Kd.N_append_rows_step kOp (w0:=w) w.heap.size (by rfl) (.tmp 151) (.tmp 153) 24 34 (.agg #[(.int .i64 0),(.int .i64 0),(.int .i64 0),(.int .i64 0),(.int .i64 0),(.int .i64 0),(.string ⟨#[]⟩),(.slice none 0 0),(.int .i64 0),(.int .i64 0),(.int .i64 0)]) 112 rfl Tryz.underlying24 info34 rfl (by decide) (by omega) v682 t681 y684 _ _ _ (fun k_ => some k_ ≠ (.slice Ao48 t615.length co48 : Value).ownBlock /\ some k_ ≠ (.slice Ao65 y647.length co65 : Value).ownBlock /\ k_ ≠ gb609 /\ k_ ≠ gb639 /\ k_ ≠ gb679) (fun k_ => ((fun k_ => some k_ ≠ (.slice Ao48 t615.length co48 : Value).ownBlock /\ some k_ ≠ (.slice Ao65 y647.length co65 : Value).ownBlock /\ k_ ≠ gb609 /\ k_ ≠ gb639 /\ k_ ≠ gb679)) k_ /\ some k_ ≠ (v682 : Value).ownBlock) rfl rfl ?aO ?aR (fun _ hk => hk) ?aF ?aB ?aS ?aL ?_
         (case aR => exact (by skip; exact Kd.N_F (Kd.N_mono (ok':=(fun k_ => ((fun k_ => some k_ ≠ (.slice Ao48 t615.length co48 : Value).ownBlock /\ some k_ ≠ (.slice Ao65 y647.length co65 : Value).ownBlock /\ k_ ≠ gb609 /\ k_ ≠ gb639 /\ k_ ≠ gb679)) k_ /\ some k_ ≠ (v682 : Value).ownBlock)) (HO686.out) (fun k_ hk => ⟨⟨hk.2.2.1,⟨hk.2.1,⟨hk.2.2.2.1,⟨hk.2.2.2.2.1,hk.2.2.2.2.2⟩⟩⟩⟩,hk.1⟩))))
         (case aB => exact (bw HB))
         (case aF => exact (fun k_ hk => ⟨Kd.fresh' (Kd.R_lt (rk HO_7)) k_ hk,Kd.fresh' (Kd.N_lt (nk HO_16)) k_ hk,Kd.freshB (kk BK609) k_ hk,Kd.freshB (kk BK639) k_ hk,Kd.freshB (kk BK679) k_ hk⟩))
         (case aO => exact (by (with_reducible repeat (first | apply Kd.N_alloc | apply Kd.N_drewN | apply Kd.N_drew)); exact Kd.N_mono HO683.out (fun _ hk => ⟨hk.2.2.1,⟨hk.2.1,⟨hk.2.2.2.1,⟨hk.2.2.2.2.1,hk.2.2.2.2.2⟩⟩⟩⟩)))
         (case aS => exact (Qag (bw HB)))
         (case aL => have:=LMc77.out; omega)
         intro v688 w94 ho hb hg hat
         rw [<- Ny687.out] at ho
         have n0_:=Zz.k (Kd.R_over' (rk HO_7) (Kd.N_typed (nk HO683)) (by decide) hg)
         have n1_:=Zz.k (Kd.N_afterv (ok:=(fun k_ => some k_ ≠ (.slice Ao48 t615.length co48 : Value).ownBlock /\ some k_ ≠ (.slice Ao95 y684.length co95 : Value).ownBlock /\ k_ ≠ gb609 /\ k_ ≠ gb639 /\ k_ ≠ gb679)) (by (with_reducible repeat (first | apply Kd.N_alloc | apply Kd.N_drewN | apply Kd.N_drew)); exact Kd.N_mono HO_16.out (fun _ hk => ⟨⟨hk.2.2.1,⟨hk.2.1,⟨hk.2.2.2.1,⟨hk.2.2.2.2.1,hk.2.2.2.2.2⟩⟩⟩⟩,hk.1⟩)) hg hat)
         have n2_:=Zz.k (Qbc (kk BK609) hg (Kd.N_ne HO683.out BK609.out (by decide)))
         have n3_:=Zz.k (Qbc (kk BK639) hg (Kd.N_away HO683.out (fun _ hk => hk.2.2.2.2.1)))
         have n4_:=Zz.k (Qbc (kk BK679) hg (Kd.N_away HO683.out (fun _ hk => hk.2.2.2.2.2)))
         have n5_:=Zz.k (Kd.N_afterv (ok:=(fun k_ => some k_ ≠ (.slice Ao48 t615.length co48 : Value).ownBlock /\ some k_ ≠ (.slice Ao65 y647.length co65 : Value).ownBlock /\ k_ ≠ gb609 /\ k_ ≠ gb639 /\ k_ ≠ gb679)) (by (with_reducible repeat (first | apply Kd.N_alloc | apply Kd.N_drewN | apply Kd.N_drew)); exact Kd.N_mono HO686.out (fun _ hk => ⟨⟨hk.2.2.1,⟨hk.2.1,⟨hk.2.2.2.1,⟨hk.2.2.2.2.1,hk.2.2.2.2.2⟩⟩⟩⟩,hk.1⟩)) hg hat)
         have n6_:=Zz.k (hb)
         have n7_:=Zz.k (ho)
         clear HO_7
         clear HO_16
         clear BK609
         clear BK639
         clear BK679
         clear HO686
         clear HB
         clear HO683
         have HO_7:=n0_
         have HO_16:=n1_
         have BK609:=n2_
         have BK639:=n3_
         have BK679:=n4_
         have HO686:=n5_
         have HB:=n6_
         have HO689:=n7_
         clear n0_ n1_ n2_ n3_ n4_ n5_ n6_ n7_
         clear ho hb hg hat
         refine hK.out _ _ (e11 BK679) (fun hHeld => ?_)
         clear hK K
         refine nn 154 (h := ?_)
         refine pu0 5 22 63 (h := ?_)
         refine dn0 (h := ?_)
         obtain ⟨Ao96,co96,eo96⟩:=Kd.N_slice HO689.out
         subst eo96
         go_upto_region 30 with (first | ((with_reducible refine Qaa (f:=17) rfl ?_); refine gl (some 157) Tryz.func17 #[.slice Ao96 y687.length co96] (h := ?_); (with_reducible refine (doc_Text.calls _ _ y687 t690 t691 _ ?side1 ?side2 A78.out).mono ?_); (case side1 => exact cn HO689); (case side2 => exact (Kd.N_reads' HO689.out).2.1); rintro e w97 ⟨rfl,hb⟩; refine ⟨_,rfl, ?_⟩; replace HO_7:=rb HO_7 hb; replace HO_16:=nb HO_16 hb; replace HO686:=nb HO686 hb; replace HO689:=nb HO689 hb; replace BK609:=bl BK609 hb; replace BK639:=bl BK639 hb; replace BK679:=bl BK679 hb; replace HB:=bs HB hb; clear hb))
         (try simp only [Act.put,List.setIfInBounds_toArray,List.set_cons_zero,List.set_cons_succ])
         go_cut [167] (fun v167 wc => ∃ (kq : Nat) (x167_78 : Bool),v167 = .bool x167_78 /\ Zz (w7_EditLands.j4 kq x3_1 (Qbo l0_0 x3_1) t612 t615 x9_3 ((t657 ++ (rdOf ByteArray.empty y621 (ji28))) ++ t663) y687 x167_78 l0_0 l0_1 l0_2 l0_3 t625 t626 t627 t628 t629 t630 t631 t632 t635 t636 t637 = some r) /\ Zz (kq <= kj45) /\ Zz (Kd.R (Kd.int .i32) 21 wc w.heap.size (fun _ => True) (.slice Ao48 t615.length co48) t615) /\ Zz (Kd.N kOp 34 wc w.heap.size (fun k_ => some k_ ≠ ((.slice Ao48 t615.length co48) : Value).ownBlock /\ k_ ≠ gb609 /\ k_ ≠ gb639 /\ k_ ≠ gb679) (.slice Ao96 y687.length co96) y687) /\ Zz (wc.heap[gb609]? = some (.cells #[(.slice (some ad611) l0_0.length c0_0),(.slice A0_1 l0_1.length c0_1),(.slice A0_2 l0_2.length c0_2),(.slice A0_3 l0_3.length c0_3)] 27 (0,0))) /\ Zz (wc.heap[gb639]? = some (.cells #[.int .i64 t625, .int .i64 t626, .int .i64 t627, .int .i64 t628, .int .i64 t629, .int .i64 t630, .string t631,(.slice Ao56 t632.length co56), .int .i64 t635, .int .i64 t636, .int .i64 t637] 34 (0,0))) /\ Zz (wc.heap[gb679]? = some (.cells #[.int .i64 t665, .int .i64 t666, .int .i64 t667, .int .i64 t668, .int .i64 t669, .int .i64 t670, .string t671,(.slice Ao87 t672.length co87), .int .i64 t675, .int .i64 t676, .int .i64 t677] 34 (0,0))) /\ Zz (Below w.heap.size w wc))
         case first =>
          have H:=HC79.out
          clear HC79
          obtain ⟨t692,A98,H⟩:=bE H
          by_cases c99 : t692 = 0; rotate_left
          ·rw [if_neg c99] at H
           obtain ⟨c99b0,c99b1⟩:=bF c99
           (first | rw [c99b0] | (simp only [i64_w,i32_w]; rw [c99b0]) | skip)
           have H':=Zz.k H
           clear H
           go_wp2_with (first | ((with_reducible refine Qaa (f:=11) rfl ?_); refine gl (some 161) Tryz.func11 #[.int .i64 t691] (h := ?_); (with_reducible refine (w7_num.calls t691 t692 _ A98.out).mono ?_); rintro e w' ⟨rfl,⟨nd,rfl⟩⟩; refine ⟨_,rfl, ?_⟩))
           go_meet
           case rel => exact ⟨_,(true),rf,H',⟨by have:=HK1.out; have:=HJ9.out; have:=HK3.out; have:=HJ45.out; first | omega | exact Nat.le_refl _⟩,⟨rk HO_7⟩,⟨by (with_reducible repeat (first | apply Kd.N_alloc | apply Kd.N_drewN | apply Kd.N_drew)); exact Kd.N_mono HO689.out (fun _ hk => ⟨hk.1,⟨hk.2.2.1,⟨hk.2.2.2.1,hk.2.2.2.2⟩⟩⟩)⟩,⟨kk BK609⟩,⟨kk BK639⟩,⟨kk BK679⟩,⟨bw HB⟩⟩
          show (let G_ : Prop:=_; G_)
          intro G_
          exact (let_tmp i_ : Nonempty G_:=(((⟨by
          subst G_
          rw [if_pos c99] at H
          obtain ⟨c99b0,c99b1⟩:=bT c99
          clear c99
          (first | rw [c99b0] | (simp only [i64_w,i32_w]; rw [c99b0]) | skip)
          have H':=Zz.k H
          clear H
          go_wp2_with (first | ((with_reducible refine Qaa (f:=11) rfl ?_); refine gl (some 161) Tryz.func11 #[.int .i64 t691] (h := ?_); (with_reducible refine (w7_num.calls t691 t692 _ A98.out).mono ?_); rintro e w' ⟨rfl,⟨nd,rfl⟩⟩; refine ⟨_,rfl, ?_⟩))
          go_meet
          case rel => exact ⟨_,((t690.toList != t612.toList)),rf,H',⟨by have:=HK1.out; have:=HJ9.out; have:=HK3.out; have:=HJ45.out; first | omega | exact Nat.le_refl _⟩,⟨rk HO_7⟩,⟨by (with_reducible repeat (first | apply Kd.N_alloc | apply Kd.N_drewN | apply Kd.N_drew)); exact Kd.N_mono HO689.out (fun _ hk => ⟨hk.1,⟨hk.2.2.1,⟨hk.2.2.2.1,hk.2.2.2.2⟩⟩⟩)⟩,⟨kk BK609⟩,⟨kk BK639⟩,⟨kk BK679⟩,⟨bw HB⟩⟩⟩ : Nonempty G_)) :); w7_EditLands.bxo (G:=G_) (inferInstanceAs (Nonempty G_)))
         case rest =>
          show (let G_ : Prop:=_; G_)
          intro G_
          exact (let_tmp i_ : Nonempty G_:=(((⟨by
          subst G_
          clear HC79
          try clear c72; try clear c75b0; try clear c75b1
          obtain ⟨kq,x167_78,rfl,HA,HJ78,HO_7,HO_22,BK609,BK639,BK679,HB⟩:=hcut
          cases kq with
          | zero => exact absurd HA.out (by simp [w7_EditLands.j4])
          | succ kj78 =>
           have H:=HA.out
           clear HA
           simp only [w7_EditLands.j4] at H
           by_cases c100 : x167_78 = true
           ·show (let G_ : Prop:=_; G_)
            intro G_
            exact (let_tmp i_ : Nonempty G_:=(((⟨by
            subst G_
            subst c100
            rw [if_pos rfl] at H
            obtain rfl:=Zo H
            go_wp2
            go_ret
            exact ⟨by first | rfl | (simp [Qbg,Qbf] <;> rfl) | (simp only [<- hji28,<- hji41]; first | rfl | (simp [Qbg,Qbf] <;> rfl)) | (simp [*,Qbg,Qbf] <;> rfl),bw HB⟩⟩ : Nonempty G_)) :); w7_EditLands.bxo (G:=G_) (inferInstanceAs (Nonempty G_)))
           replace c100:=Zf c100
           subst c100
           rw [if_neg nft] at H
           obtain ⟨⟨t693,t694,t695,t696,t697,t698,t699,t700,t703,t704,t705,t706⟩,A101,H⟩:=bE H
           try dsimp only at H
           obtain ⟨t708,A102,H⟩:=bE H
           by_cases c103 : t708 = 0; rotate_left
           ·rw [if_neg c103] at H
            obtain ⟨c103b0,c103b1⟩:=bF c103
            have H':=Zz.k H
            clear H
            have hnb170:=NB639_609.out
            have hnc170:=NB609_639.out
            have hnb171:=NB639_679.out
            have hnc171:=NB679_639.out
            obtain ⟨_,_,_,_,_,_,_,_,_,_,_,_,_,_,_,_,_,_,_,_,_,_⟩:=kc11 BK639
            go_wp2_with (first | ((with_reducible refine Qaa (f:=22) rfl ?_); refine gl (some 178) Tryz.func22 #[.slice Ao96 y687.length co96, .int .i64 (wrap64 (1 + (Int.tmod (wrap64 (x9_3 + 1)) 3))), .int .i64 t625, .int .i64 t626] (h := ?_); (with_reducible refine (edit_Toggle.calls _ _ y687 (wrap64 (1 + (Int.tmod (wrap64 (x9_3 + 1)) 3))) t625 t626 t693 t694 t695 t696 t697 t698 t699 t700 t703 t704 t705 t706 _ ?side1 ?side2 A101.out).mono ?_); (case side1 => exact cn HO_22); (case side2 => exact (Kd.N_reads' HO_22.out).2.1); rintro e w173 ⟨v701,rfl,ho0,hb⟩; refine ⟨_,rfl, ?_⟩; have HO702:=Zz.k (Kd.R_lower ho0 (Qag (bw HB))); replace HO_7:=rb HO_7 hb; replace HO_22:=Zz.k (Kd.N_elder' (nk HO_22) (Kd.R_base ho0) hb); replace BK609:=bl BK609 hb; replace BK639:=bl BK639 hb; replace BK679:=bl BK679 hb; replace HB:=bs HB hb; clear hb; clear ho0) | ((with_reducible refine Qad (N:=25) rfl ?_); refine bx 25 #[.int .i64 0, .int .i64 0, .int .i64 0, .int .i64 0, .int .i64 0, .int .i64 0, .string (⟨#[]⟩ : ByteArray), .slice none 0 0, .int .i64 0, .int .i64 0, .int .i64 0] 34 (h := ?_); intro gb707 hg w174 hbox hb; have BK707:=Zz.k (hbox); have GW707:=bz HB hg; have GE707:=bz HB hg; have NB609_707:=bn BK609 hg; have NB707_609:=bm BK609 hg; have NB639_707:=bn BK639 hg; have NB707_639:=bm BK639 hg; have NB679_707:=bn BK679 hg; have NB707_679:=bm BK679 hg; replace HO_7:=rb HO_7 hb; replace HO_22:=Zz.k (Kd.N_below (Kd.N_elderB (nk HO_22) gb707 (Nat.le_of_eq hg.symm)) hb); replace HO702:=rb HO702 hb; replace BK609:=bl BK609 hb; replace BK639:=bl BK639 hb; replace BK679:=bl BK679 hb; replace HB:=bs HB hb; clear hb hbox hg; have hnb175:=NB707_609.out; have hnc175:=NB609_707.out; have hnb176:=NB707_639.out; have hnc176:=NB639_707.out; have hnb177:=NB707_679.out; have hnc177:=NB679_707.out; obtain ⟨_,_,_,_,_,_,_,_,_,_,_,_,_,_,_,_,_,_,_,_,_,_⟩:=kc11 BK707; obtain ⟨Ao179,co179,eo179⟩:=Kd.R_slice HO702.out; subst eo179) | ((with_reducible refine Qaa (f:=11) rfl ?_); refine gl (some 182) Tryz.func11 #[.int .i64 t706] (h := ?_); (with_reducible refine (w7_num.calls t706 t708 _ A102.out).mono ?_); rintro e w' ⟨rfl,⟨nd,rfl⟩⟩; refine ⟨_,rfl, ?_⟩))
            go_roundg kj78
            case measure => have:=HK1.out; have:=HJ9.out; have:=HK3.out; have:=HJ45.out; have:=HJ78.out; omega
            case rel => exact ⟨(wrap64 (x9_3 + 1)),rf,H',⟨by have:=HK1.out; have:=HJ9.out; have:=HK3.out; have:=HJ45.out; have:=HJ78.out; omega⟩,⟨by (with_reducible repeat (first | apply Kd.R_alloc | apply Kd.R_drewN | apply Kd.R_drew)); exact Kd.R_mono (rf11 (Kd.R_types HO_7.out BK707.out (by decide))) (fun _ hk => trivial)⟩,⟨kk BK609⟩,⟨bw HB⟩⟩
           show (let G_ : Prop:=_; G_)
           intro G_
           exact (let_tmp i_ : Nonempty G_:=(((⟨by
           subst G_
           rw [if_pos c103] at H
           obtain ⟨c103b0,c103b1⟩:=bT c103
           clear c103
           obtain ⟨t709,A104,H⟩:=bE H
           obtain ⟨y712,hy712⟩ : ∃ y_ : List (SOp),y_ = (([(⟨t693,t694,t695,(⟨t696,t697,t698⟩ : SElem),t699,t700,t703,t704,t705⟩ : SOp)] : List (SOp))):=⟨_,rfl⟩
           first | rw [Option.bind_some,<- hy712] at H | rw [<- hy712] at H
           have Ny712:=Zz.k hy712
           clear hy712
           by_cases c105 : t709.length + y712.length < 1256584717458; rotate_left
           ·rw [if_neg c105] at H
            exact absurd H (by simp)
           show (let G_ : Prop:=_; G_)
           intro G_
           exact (let_tmp i_ : Nonempty G_:=(((⟨by
           subst G_
           rw [if_pos c105] at H
           have LMc105:=Zz.k c105
           clear c105
           obtain ⟨y715,hy715⟩ : ∃ y_ : List (SOp),y_ = (t709 ++ y712):=⟨_,rfl⟩
           first | rw [Option.bind_some,<- hy715] at H | rw [<- hy715] at H
           have Ny715:=Zz.k hy715
           clear hy715
           obtain ⟨⟨t718,t719⟩,A106,H⟩:=bE H
           try dsimp only at H
           obtain ⟨t720,A107,H⟩:=bE H
           by_cases c108 : t720 = 0; rotate_left
           ·rw [if_neg c108] at H
            obtain ⟨c108b0,c108b1⟩:=bF c108
            obtain rfl:=Zo H
            have hnb150:=NB639_609.out
            have hnc150:=NB609_639.out
            have hnb151:=NB639_679.out
            have hnc151:=NB679_639.out
            obtain ⟨_,_,_,_,_,_,_,_,_,_,_,_,_,_,_,_,_,_,_,_,_,_⟩:=kc11 BK639
            try go_wp2_with (first | ((with_reducible refine Qaa (f:=22) rfl ?_); refine gl (some 178) Tryz.func22 #[.slice Ao96 y687.length co96, .int .i64 (wrap64 (1 + (Int.tmod (wrap64 (x9_3 + 1)) 3))), .int .i64 t625, .int .i64 t626] (h := ?_); (with_reducible refine (edit_Toggle.calls _ _ y687 (wrap64 (1 + (Int.tmod (wrap64 (x9_3 + 1)) 3))) t625 t626 t693 t694 t695 t696 t697 t698 t699 t700 t703 t704 t705 t706 _ ?side1 ?side2 A101.out).mono ?_); (case side1 => exact cn HO_22); (case side2 => exact (Kd.N_reads' HO_22.out).2.1); rintro e w153 ⟨v701,rfl,ho0,hb⟩; refine ⟨_,rfl, ?_⟩; have HO702:=Zz.k (Kd.R_lower ho0 (Qag (bw HB))); replace HO_7:=rb HO_7 hb; replace HO_22:=Zz.k (Kd.N_elder' (nk HO_22) (Kd.R_base ho0) hb); replace BK609:=bl BK609 hb; replace BK639:=bl BK639 hb; replace BK679:=bl BK679 hb; replace HB:=bs HB hb; clear hb; clear ho0) | ((with_reducible refine Qad (N:=25) rfl ?_); refine bx 25 #[.int .i64 0, .int .i64 0, .int .i64 0, .int .i64 0, .int .i64 0, .int .i64 0, .string (⟨#[]⟩ : ByteArray), .slice none 0 0, .int .i64 0, .int .i64 0, .int .i64 0] 34 (h := ?_); intro gb707 hg w154 hbox hb; have BK707:=Zz.k (hbox); have GW707:=bz HB hg; have GE707:=bz HB hg; have NB609_707:=bn BK609 hg; have NB707_609:=bm BK609 hg; have NB639_707:=bn BK639 hg; have NB707_639:=bm BK639 hg; have NB679_707:=bn BK679 hg; have NB707_679:=bm BK679 hg; replace HO_7:=rb HO_7 hb; replace HO_22:=Zz.k (Kd.N_below (Kd.N_elderB (nk HO_22) gb707 (Nat.le_of_eq hg.symm)) hb); replace HO702:=rb HO702 hb; replace BK609:=bl BK609 hb; replace BK639:=bl BK639 hb; replace BK679:=bl BK679 hb; replace HB:=bs HB hb; clear hb hbox hg; have hnb155:=NB707_609.out; have hnc155:=NB609_707.out; have hnb156:=NB707_639.out; have hnc156:=NB639_707.out; have hnb157:=NB707_679.out; have hnc157:=NB679_707.out; obtain ⟨_,_,_,_,_,_,_,_,_,_,_,_,_,_,_,_,_,_,_,_,_,_⟩:=kc11 BK707; obtain ⟨Ao159,co159,eo159⟩:=Kd.R_slice HO702.out; subst eo159) | ((with_reducible refine Qaa (f:=11) rfl ?_); refine gl (some 182) Tryz.func11 #[.int .i64 t706] (h := ?_); (with_reducible refine (w7_num.calls t706 t708 _ A102.out).mono ?_); rintro e w' ⟨rfl,⟨nd,rfl⟩⟩; refine ⟨_,rfl, ?_⟩))
            generalize hgz : (((((((((((w154.setCell ⟨gb707,0,none⟩ (.int .i64 t693)).setCell ⟨gb707,1,none⟩ (.int .i64 t694)).setCell ⟨gb707,2,none⟩ (.int .i64 t695)).setCell ⟨gb707,3,none⟩ (.int .i64 t696)).setCell ⟨gb707,4,none⟩ (.int .i64 t697)).setCell ⟨gb707,5,none⟩ (.int .i64 t698)).setCell ⟨gb707,6,none⟩ (.string t699)).setCell ⟨gb707,7,none⟩ (.slice Ao159 t700.length co159)).setCell ⟨gb707,8,none⟩ (.int .i64 t703)).setCell ⟨gb707,9,none⟩ (.int .i64 t704)).setCell ⟨gb707,10,none⟩ (.int .i64 t705)) = w160
            have n0_ : Zz (Kd.R (Kd.int .i32) 21 w160 w.heap.size (fun _ => True) (.slice Ao48 t615.length co48) t615):=by rw [<- hgz]; exact ⟨by (with_reducible repeat (first | apply Kd.R_alloc | apply Kd.R_drewN | apply Kd.R_drew)); exact Kd.R_mono (rf11 (Kd.R_types HO_7.out BK707.out (by decide))) (fun _ hk => trivial)⟩
            have n1_ : Zz (Kd.N kOp 34 w160 w.heap.size (fun k_ => some k_ ≠ (.slice Ao48 t615.length co48 : Value).ownBlock /\ some k_ ≠ (.slice Ao159 t700.length co159 : Value).ownBlock /\ k_ ≠ gb609 /\ k_ ≠ gb639 /\ k_ ≠ gb679 /\ k_ ≠ gb707) (.slice Ao96 y687.length co96) y687):=by rw [<- hgz]; exact ⟨by (with_reducible repeat (first | apply Kd.N_alloc | apply Kd.N_drewN | apply Kd.N_drew)); exact Kd.N_mono (Kd.N_far (p:=⟨gb707,10,none⟩) (Kd.N_far (p:=⟨gb707,9,none⟩) (Kd.N_far (p:=⟨gb707,8,none⟩) (Kd.N_far (p:=⟨gb707,7,none⟩) (Kd.N_far (p:=⟨gb707,6,none⟩) (Kd.N_far (p:=⟨gb707,5,none⟩) (Kd.N_far (p:=⟨gb707,4,none⟩) (Kd.N_far (p:=⟨gb707,3,none⟩) (Kd.N_far (p:=⟨gb707,2,none⟩) (Kd.N_far (p:=⟨gb707,1,none⟩) (Kd.N_far (p:=⟨gb707,0,none⟩) (Kd.N_mono HO_22.out (fun k_ hk => (⟨hk,hk.2⟩ : _ /\ k_ ≠ gb707))) (fun _ hk => hk.2) (.int .i64 t693)) (fun _ hk => hk.2) (.int .i64 t694)) (fun _ hk => hk.2) (.int .i64 t695)) (fun _ hk => hk.2) (.int .i64 t696)) (fun _ hk => hk.2) (.int .i64 t697)) (fun _ hk => hk.2) (.int .i64 t698)) (fun _ hk => hk.2) (.string t699)) (fun _ hk => hk.2) (.slice Ao159 t700.length co159)) (fun _ hk => hk.2) (.int .i64 t703)) (fun _ hk => hk.2) (.int .i64 t704)) (fun _ hk => hk.2) (.int .i64 t705)) (fun _ hk => ⟨hk.1.1.1.1,⟨hk.1.1.2,⟨hk.1.1.1.2.1,⟨hk.1.1.1.2.2.1,⟨hk.1.1.1.2.2.2,hk.1.2⟩⟩⟩⟩⟩)⟩
            have n2_ : Zz (Kd.R Qav 32 w160 w.heap.size (fun _ => True) (.slice Ao159 t700.length co159) t700):=by rw [<- hgz]; exact ⟨by (with_reducible repeat (first | apply Kd.R_alloc | apply Kd.R_drewN | apply Kd.R_drew)); exact Kd.R_mono (rf11 (Kd.R_types HO702.out BK707.out (by decide))) (fun _ hk => trivial)⟩
            have n3_ : Zz (w160.heap[gb609]? = some (.cells #[.slice (some ad611) l0_0.length c0_0, .slice A0_1 l0_1.length c0_1, .slice A0_2 l0_2.length c0_2, .slice A0_3 l0_3.length c0_3] 27 (0,0))):=by rw [<- hgz]; exact ⟨kk BK609⟩
            have n4_ : Zz (w160.heap[gb639]? = some (.cells #[.int .i64 t625, .int .i64 t626, .int .i64 t627, .int .i64 t628, .int .i64 t629, .int .i64 t630, .string t631, .slice Ao56 t632.length co56, .int .i64 t635, .int .i64 t636, .int .i64 t637] 34 (0,0))):=by rw [<- hgz]; exact ⟨kk BK639⟩
            have n5_ : Zz (w160.heap[gb679]? = some (.cells #[.int .i64 t665, .int .i64 t666, .int .i64 t667, .int .i64 t668, .int .i64 t669, .int .i64 t670, .string t671, .slice Ao87 t672.length co87, .int .i64 t675, .int .i64 t676, .int .i64 t677] 34 (0,0))):=by rw [<- hgz]; exact ⟨kk BK679⟩
            have n6_ : Zz (w160.heap[gb707]? = some (.cells #[.int .i64 t693, .int .i64 t694, .int .i64 t695, .int .i64 t696, .int .i64 t697, .int .i64 t698, .string t699, .slice Ao159 t700.length co159, .int .i64 t703, .int .i64 t704, .int .i64 t705] 34 (0,0))):=by rw [<- hgz]; exact ⟨bp11 (kk BK707)⟩
            have n7_ : Zz (Below w.heap.size w w160):=by rw [<- hgz]; exact ⟨bw HB⟩
            (try clear HO_7)
            (try clear HO_22)
            (try clear HO702)
            (try clear BK609)
            (try clear BK639)
            (try clear BK679)
            (try clear BK707)
            (try clear HB)
            clear hgz
            have HO_7:=n0_
            have HO_22:=n1_
            have HO702:=n2_
            have BK609:=n3_
            have BK639:=n4_
            have BK679:=n5_
            have BK707:=n6_
            have HB:=n7_
            clear n0_ n1_ n2_ n3_ n4_ n5_ n6_ n7_
            (try (rw [Qbm w160]; generalize hq_ : World.drewN w160 _ = w160; have n0_ : Zz (Kd.R Qav 32 w160 w.heap.size (fun _ => True) (.slice Ao159 t700.length co159) t700):=⟨by rw [<- hq_]; exact (rk HO702)⟩; have n1_ : Zz (Kd.N kOp 34 w160 w.heap.size (fun k_ => some k_ ≠ (.slice Ao159 t700.length co159 : Value).ownBlock /\ some k_ ≠ (.slice Ao48 t615.length co48 : Value).ownBlock /\ k_ ≠ gb609 /\ k_ ≠ gb639 /\ k_ ≠ gb679 /\ k_ ≠ gb707) (.slice Ao96 y687.length co96) y687):=⟨by rw [<- hq_]; exact (by (with_reducible repeat (first | apply Kd.N_alloc | apply Kd.N_drewN | apply Kd.N_drew)); exact Kd.N_mono HO_22.out (fun _ hk => ⟨hk.2.1,⟨hk.1,⟨hk.2.2.1,⟨hk.2.2.2.1,⟨hk.2.2.2.2.1,hk.2.2.2.2.2⟩⟩⟩⟩⟩))⟩; have n2_ : Zz (Kd.R (Kd.int .i32) 21 w160 w.heap.size (fun _ => True) (.slice Ao48 t615.length co48) t615):=⟨by rw [<- hq_]; exact (rk HO_7)⟩; have n3_ : Zz (w160.heap[gb609]? = some (.cells #[.slice (some ad611) l0_0.length c0_0, .slice A0_1 l0_1.length c0_1, .slice A0_2 l0_2.length c0_2, .slice A0_3 l0_3.length c0_3] 27 (0,0))):=⟨by rw [<- hq_]; exact (kk BK609)⟩; have n4_ : Zz (w160.heap[gb639]? = some (.cells #[.int .i64 t625, .int .i64 t626, .int .i64 t627, .int .i64 t628, .int .i64 t629, .int .i64 t630, .string t631, .slice Ao56 t632.length co56, .int .i64 t635, .int .i64 t636, .int .i64 t637] 34 (0,0))):=⟨by rw [<- hq_]; exact (kk BK639)⟩; have n5_ : Zz (w160.heap[gb679]? = some (.cells #[.int .i64 t665, .int .i64 t666, .int .i64 t667, .int .i64 t668, .int .i64 t669, .int .i64 t670, .string t671, .slice Ao87 t672.length co87, .int .i64 t675, .int .i64 t676, .int .i64 t677] 34 (0,0))):=⟨by rw [<- hq_]; exact (kk BK679)⟩; have n6_ : Zz (w160.heap[gb707]? = some (.cells #[.int .i64 t693, .int .i64 t694, .int .i64 t695, .int .i64 t696, .int .i64 t697, .int .i64 t698, .string t699, .slice Ao159 t700.length co159, .int .i64 t703, .int .i64 t704, .int .i64 t705] 34 (0,0))):=⟨by rw [<- hq_]; exact (kk BK707)⟩; have n7_ : Zz (Below w.heap.size w w160):=⟨by rw [<- hq_]; exact (bw HB)⟩; clear HO702 HO_22 HO_7 BK609 BK639 BK679 BK707 HB hq_; have HO702:=n0_; have HO_22:=n1_; have HO_7:=n2_; have BK609:=n3_; have BK639:=n4_; have BK679:=n5_; have BK707:=n6_; have HB:=n7_; clear n0_ n1_ n2_ n3_ n4_ n5_ n6_ n7_))
            have n0_:=Zz.k (Kd.R_drew HO_7.out)
            have n1_:=Zz.k (Kd.N_drew HO_22.out)
            have n2_:=Zz.k (Kd.R_drew HO702.out)
            have n3_:=Zz.k (Qam BK609.out)
            have n4_:=Zz.k (Qam BK639.out)
            have n5_:=Zz.k (Qam BK679.out)
            have n6_:=Zz.k (Qam BK707.out)
            have n7_:=Zz.k (Qae HB.out)
            clear HO_7
            clear HO_22
            clear HO702
            clear BK609
            clear BK639
            clear BK679
            clear BK707
            clear HB
            have HO_7:=n0_
            have HO_22:=n1_
            have HO702:=n2_
            have BK609:=n3_
            have BK639:=n4_
            have BK679:=n5_
            have BK707:=n6_
            have HB:=n7_
            clear n0_ n1_ n2_ n3_ n4_ n5_ n6_ n7_
            refine stP (fun w' => E11 w' gb707 (.int .i64 t693) (.int .i64 t694) (.int .i64 t695) (.int .i64 t696) (.int .i64 t697) (.int .i64 t698) (.string t699) (.slice Ao159 t700.length co159) (.int .i64 t703) (.int .i64 t704) (.int .i64 t705)) 11 (e11 BK707) (h:=fun hHeld => ?_); refine Qax w7_EditLands.tab34 w7_EditLands.bits34 (fun HT_ HW_ => ?_)
            generalize w160.drew = w161 at HO_7 HO_22 HO702 BK609 BK639 BK679 BK707 HB hHeld ⊢
            refine pu HT_ 0 185 1 (h := ?_)
            refine tk HT_ HW_ hHeld 2 187 5 (h := ?_)
            refine join_ (σ:=Value × Value) 7 (bA 11 15) (fun s_ => [(186,s_.1),(188,s_.2)]) (fun s_ w' => (w'.cell? ⟨gb707,0,none⟩ = some (.int .i64 t693) /\ w'.cell? ⟨gb707,1,none⟩ = some (.int .i64 t694) /\ w'.cell? ⟨gb707,2,none⟩ = some (.int .i64 t695) /\ w'.cell? ⟨gb707,3,none⟩ = some (.int .i64 t696) /\ w'.cell? ⟨gb707,4,none⟩ = some (.int .i64 t697) /\ w'.cell? ⟨gb707,5,none⟩ = some (.int .i64 t698) /\ w'.cell? ⟨gb707,6,none⟩ = some (.string t699) /\ w'.cell? ⟨gb707,7,none⟩ = some (.slice Ao159 t700.length co159) /\ w'.cell? ⟨gb707,8,none⟩ = some (.int .i64 t703) /\ w'.cell? ⟨gb707,9,none⟩ = some (.int .i64 t704) /\ w'.cell? ⟨gb707,10,none⟩ = some (.int .i64 t705)) /\ (Kd.N kOp 34 w' w.heap.size (fun k_ => some k_ ≠ (s_.2 : Value).ownBlock /\ some k_ ≠ (.slice Ao96 y687.length co96 : Value).ownBlock /\ some k_ ≠ (.slice Ao48 t615.length co48 : Value).ownBlock /\ k_ ≠ gb609 /\ k_ ≠ gb639 /\ k_ ≠ gb679 /\ k_ ≠ gb707) s_.1 t709) /\ (Kd.N kOp 34 w' w.heap.size (fun k_ => some k_ ≠ (s_.1 : Value).ownBlock /\ some k_ ≠ (.slice Ao96 y687.length co96 : Value).ownBlock /\ some k_ ≠ (.slice Ao48 t615.length co48 : Value).ownBlock /\ k_ ≠ gb609 /\ k_ ≠ gb639 /\ k_ ≠ gb679 /\ k_ ≠ gb707) s_.2 y712) /\ (Kd.N kOp 34 w' w.heap.size (fun k_ => some k_ ≠ (s_.1 : Value).ownBlock /\ some k_ ≠ (s_.2 : Value).ownBlock /\ some k_ ≠ (.slice Ao48 t615.length co48 : Value).ownBlock /\ k_ ≠ gb609 /\ k_ ≠ gb639 /\ k_ ≠ gb679 /\ k_ ≠ gb707) (.slice Ao96 y687.length co96) y687) /\ (Kd.R (Kd.int .i32) 21 w' w.heap.size (fun _ => True) (.slice Ao48 t615.length co48) t615) /\ (w'.heap[gb609]? = some (.cells #[.slice (some ad611) l0_0.length c0_0, .slice A0_1 l0_1.length c0_1, .slice A0_2 l0_2.length c0_2, .slice A0_3 l0_3.length c0_3] 27 (0,0))) /\ (w'.heap[gb639]? = some (.cells #[.int .i64 t625, .int .i64 t626, .int .i64 t627, .int .i64 t628, .int .i64 t629, .int .i64 t630, .string t631, .slice Ao56 t632.length co56, .int .i64 t635, .int .i64 t636, .int .i64 t637] 34 (0,0))) /\ (w'.heap[gb679]? = some (.cells #[.int .i64 t665, .int .i64 t666, .int .i64 t667, .int .i64 t668, .int .i64 t669, .int .i64 t670, .string t671, .slice Ao87 t672.length co87, .int .i64 t675, .int .i64 t676, .int .i64 t677] 34 (0,0))) /\ (w'.heap[gb707]? = some (.cells #[.int .i64 t693, .int .i64 t694, .int .i64 t695, .int .i64 t696, .int .i64 t697, .int .i64 t698, .string t699, .slice Ao159 t700.length co159, .int .i64 t703, .int .i64 t704, .int .i64 t705] 34 (0,0))) /\ (Below w.heap.size w w')) ?_ ?_
            rotate_left
            ·show (let G_ : Prop:=_; G_)
             intro G_
             exact (let_tmp i_ : Nonempty G_:=(((⟨by
             subst G_
             intro hCont
             refine two_ (i:=1) (j:=3) (Ni:=some 186) (Nj:=some 188) (bA 11 7) (bA 11 13) rfl rfl rfl rfl (two_of HT_.out (by kernel_rfl)) (by decide) (by decide) (fun K hK => ?_) (fun K hK => ?_)
             ·show (let G_ : Prop:=_; G_)
              intro G_
              exact (let_tmp i_ : Nonempty G_:=(((⟨by
              subst G_
              skip
              refine gS Tryz.func20 #[.slice Ao96 y687.length co96] (h := ?_)
              with_reducible refine (r0_CopyOps.calls kj78 _ _ y687 t709 _ ?side1 ?side2 A104.out).mono ?_
              (case side1 => exact cn HO_22)
              (case side2 => exact (Kd.N_reads' HO_22.out).2.1)
              rintro e w162 ⟨v710,rfl,ho0,hb⟩
              refine ⟨_,rfl, ?_⟩
              have n0_:=rb HO_7 hb
              have n1_:=Zz.k (Kd.N_elder' (nk HO_22) (Kd.N_base (Kd.S_N ho0)) hb)
              have n2_:=rb HO702 hb
              have n3_:=Zz.k (Kd.N_lower (Kd.N_mono (ok':=fun k_ => some k_ ≠ (.slice Ao48 t615.length co48 : Value).ownBlock /\ some k_ ≠ (.slice Ao96 y687.length co96 : Value).ownBlock /\ some k_ ≠ (.slice Ao159 t700.length co159 : Value).ownBlock /\ k_ ≠ gb609 /\ k_ ≠ gb639 /\ k_ ≠ gb679 /\ k_ ≠ gb707) (Kd.S_N (Kd.S_bound ho0)) (fun k_ hk_ => ⟨(Kd.fresh' (Kd.R_lt (rk HO_7)) k_ hk_.2.1),(Kd.fresh' (Kd.N_lt (nk HO_22)) k_ hk_.2.1),(Kd.fresh' (Kd.R_lt (rk HO702)) k_ hk_.2.1),(Kd.freshB (kk BK609) k_ hk_.2.1),(Kd.freshB (kk BK639) k_ hk_.2.1),(Kd.freshB (kk BK679) k_ hk_.2.1),(Kd.freshB (kk BK707) k_ hk_.2.1)⟩)) (Qag (bw HB)))
              have n4_:=bl BK609 hb
              have n5_:=bl BK639 hb
              have n6_:=bl BK679 hb
              have n7_:=bl BK707 hb
              have n8_:=bs HB hb
              clear HO_7
              clear HO_22
              clear HO702
              clear BK609
              clear BK639
              clear BK679
              clear BK707
              clear HB
              have HO_7:=n0_
              have HO_22:=n1_
              have HO702:=n2_
              have HO711:=n3_
              have BK609:=n4_
              have BK639:=n5_
              have BK679:=n6_
              have BK707:=n7_
              have HB:=n8_
              clear n0_ n1_ n2_ n3_ n4_ n5_ n6_ n7_ n8_
              (try clear hb)
              (try clear hb2)
              (try clear hk)
              (try clear hi)
              (try clear ho0)
              refine hK.out _ _ (e11 BK707) (fun hHeld => ?_)
              clear hK K
              refine nn 186 (h := ?_)
              refine on HT_ 3 (some 188) 15 (h:=fun K hK => ?_)
              refine Kd.N_lit_step kOp _ 34 ?hg (N':=188) ?hd (xs:=([(⟨t693,t694,t695,(⟨t696,t697,t698⟩ : SElem),t699,t700,t703,t704,t705⟩ : SOp)] : List (SOp))) (inner:=[.int .i64 t693, .int .i64 t694, .int .i64 t695, .int .i64 t696, .int .i64 t697, .int .i64 t698, .string t699, .slice Ao159 t700.length co159, .int .i64 t703, .int .i64 t704, .int .i64 t705]) (ok:=(fun k_ => some k_ ≠ (.slice Ao48 t615.length co48 : Value).ownBlock /\ some k_ ≠ (.slice Ao96 y687.length co96 : Value).ownBlock /\ some k_ ≠ (v710 : Value).ownBlock /\ k_ ≠ gb609 /\ k_ ≠ gb639 /\ k_ ≠ gb679 /\ k_ ≠ gb707)) (okp:=(fun k_ => some k_ ≠ (.slice Ao48 t615.length co48 : Value).ownBlock /\ some k_ ≠ (.slice Ao96 y687.length co96 : Value).ownBlock /\ some k_ ≠ (v710 : Value).ownBlock /\ k_ ≠ gb609 /\ k_ ≠ gb639 /\ k_ ≠ gb679 /\ k_ ≠ gb707)) ?hr ?hp (fun _ hk => hk) ((show ∀ k_,w162.heap.size <= k_ -> (fun k_ => some k_ ≠ (.slice Ao48 t615.length co48 : Value).ownBlock /\ some k_ ≠ (.slice Ao96 y687.length co96 : Value).ownBlock /\ some k_ ≠ (v710 : Value).ownBlock /\ k_ ≠ gb609 /\ k_ ≠ gb639 /\ k_ ≠ gb679 /\ k_ ≠ gb707) k_ from fun k_ hk => ⟨Kd.fresh' (Kd.R_lt (rk HO_7)) k_ hk,Kd.fresh' (Kd.N_lt (nk HO_22)) k_ hk,Kd.fresh' (Kd.N_lt (nk HO711)) k_ hk,Kd.freshB (kk BK609) k_ hk,Kd.freshB (kk BK639) k_ hk,Kd.freshB (kk BK679) k_ hk,Kd.freshB (kk BK707) k_ hk⟩) _ (Nat.le_refl _)) (Below.refl _ _) (Nat.le_refl _) (by simp) ?_; (case hd => rfl); (case hg => rfl); (case hr => first | (go_simp; done) | (go_simp; rfl)); (case hp => exact (Reps.front (show Kd.FK kOp _ _ (⟨t693,t694,t695,(⟨t696,t697,t698⟩ : SElem),t699,t700,t703,t704,t705⟩ : SOp) [.int .i64 t693, .int .i64 t694, .int .i64 t695, .int .i64 t696, .int .i64 t697, .int .i64 t698, .string t699, .slice Ao159 t700.length co159, .int .i64 t703, .int .i64 t704, .int .i64 t705] from (kOp_mkF _ _ (⟨t693,t694,t695,(⟨t696,t697,t698⟩ : SElem),t699,t700,t703,t704,t705⟩ : SOp) (Kd.R_reads' (Kd.R_mono (ok':=(fun k_ => some k_ ≠ (.slice Ao48 t615.length co48 : Value).ownBlock /\ some k_ ≠ (.slice Ao96 y687.length co96 : Value).ownBlock /\ some k_ ≠ (v710 : Value).ownBlock /\ k_ ≠ gb609 /\ k_ ≠ gb639 /\ k_ ≠ gb679 /\ k_ ≠ gb707)) (Kd.R_types (Kd.R_types (Kd.R_types (Kd.R_types (Kd.R_apart' (Kd.R_apart' (Kd.R_apart' (HO702.out) (Kd.R_typed HO_7.out) (by decide)) (Kd.N_typed HO_22.out) (by decide)) (Kd.N_typed HO711.out) (by decide)) BK609.out (by decide)) BK639.out (by decide)) BK679.out (by decide)) BK707.out (by decide)) (fun k_ hk => ⟨hk.1.1.1.1.1.1.2,⟨hk.1.1.1.1.1.2,⟨hk.1.1.1.1.2,⟨hk.1.1.1.2,⟨hk.1.1.2,⟨hk.1.2,hk.2⟩⟩⟩⟩⟩⟩))).2.1 (Kd.R_F (Kd.R_mono (ok':=(fun k_ => some k_ ≠ (.slice Ao48 t615.length co48 : Value).ownBlock /\ some k_ ≠ (.slice Ao96 y687.length co96 : Value).ownBlock /\ some k_ ≠ (v710 : Value).ownBlock /\ k_ ≠ gb609 /\ k_ ≠ gb639 /\ k_ ≠ gb679 /\ k_ ≠ gb707)) (Kd.R_types (Kd.R_types (Kd.R_types (Kd.R_types (Kd.R_apart' (Kd.R_apart' (Kd.R_apart' (HO702.out) (Kd.R_typed HO_7.out) (by decide)) (Kd.N_typed HO_22.out) (by decide)) (Kd.N_typed HO711.out) (by decide)) BK609.out (by decide)) BK639.out (by decide)) BK679.out (by decide)) BK707.out (by decide)) (fun k_ hk => ⟨hk.1.1.1.1.1.1.2,⟨hk.1.1.1.1.1.2,⟨hk.1.1.1.1.2,⟨hk.1.1.1.2,⟨hk.1.1.2,⟨hk.1.2,hk.2⟩⟩⟩⟩⟩⟩))))) rfl (Reps.none _ _) rfl))
              intro v713 w163 ho164 hb hg_ hnew_
              clear hg_ hnew_
              (first | rw [<- Ny712.out] at ho164 | (simp only [Int.reduceToNat] at ho164; rw [<- Ny712.out] at ho164))
              have n0_:=rb HO_7 hb
              have n1_:=Zz.k (Kd.N_elder' (nk HO_22) (Kd.N_base ho164) hb)
              have n2_:=Zz.k (Kd.N_elder' (nk HO711) (Kd.N_base ho164) hb)
              have n3_:=Zz.k (Kd.N_lower ho164 (Qag (bw HB)))
              have n4_:=bl BK609 hb
              have n5_:=bl BK639 hb
              have n6_:=bl BK679 hb
              have n7_:=bl BK707 hb
              have n8_:=bs HB hb
              clear HO_7
              clear HO_22
              clear HO711
              clear BK609
              clear BK639
              clear BK679
              clear BK707
              clear HB
              clear HO702
              have HO_7:=n0_
              have HO_22:=n1_
              have HO711:=n2_
              have HO714:=n3_
              have BK609:=n4_
              have BK639:=n5_
              have BK679:=n6_
              have BK707:=n7_
              have HB:=n8_
              clear n0_ n1_ n2_ n3_ n4_ n5_ n6_ n7_ n8_
              clear hb ho164
              refine hK.out _ _ (e11 BK707) (fun hHeld => ?_)
              clear hK K
              refine nn 188 (h := ?_)
              exact norm_ (by simp only [putAll,Act.put,List.setIfInBounds_toArray,List.set_cons_zero,List.set_cons_succ]) (hCont (v710,v713) _ ⟨hHeld,(by (with_reducible repeat (first | apply Kd.N_alloc | apply Kd.N_drewN | apply Kd.N_drew)); exact Kd.N_mono HO711.out (fun _ hk => ⟨hk.2,⟨hk.1.2.1,⟨hk.1.1,⟨hk.1.2.2.2.1,⟨hk.1.2.2.2.2.1,⟨hk.1.2.2.2.2.2.1,hk.1.2.2.2.2.2.2⟩⟩⟩⟩⟩⟩)),(by (with_reducible repeat (first | apply Kd.N_alloc | apply Kd.N_drewN | apply Kd.N_drew)); exact Kd.N_mono HO714.out (fun _ hk => ⟨hk.2.2.1,⟨hk.2.1,⟨hk.1,⟨hk.2.2.2.1,⟨hk.2.2.2.2.1,⟨hk.2.2.2.2.2.1,hk.2.2.2.2.2.2⟩⟩⟩⟩⟩⟩)),(by (with_reducible repeat (first | apply Kd.N_alloc | apply Kd.N_drewN | apply Kd.N_drew)); exact Kd.N_mono HO_22.out (fun _ hk => ⟨hk.1.2,⟨hk.2,⟨hk.1.1.2.1,⟨hk.1.1.2.2.1,⟨hk.1.1.2.2.2.1,⟨hk.1.1.2.2.2.2.1,hk.1.1.2.2.2.2.2⟩⟩⟩⟩⟩⟩)),(rk HO_7),(kk BK609),(kk BK639),(kk BK679),(kk BK707),(bw HB)⟩)⟩ : Nonempty G_)) :); w7_EditLands.bxo (G:=G_) (inferInstanceAs (Nonempty G_)))
             skip
             refine Kd.N_lit_step kOp _ 34 ?hg (N':=188) ?hd (xs:=([(⟨t693,t694,t695,(⟨t696,t697,t698⟩ : SElem),t699,t700,t703,t704,t705⟩ : SOp)] : List (SOp))) (inner:=[.int .i64 t693, .int .i64 t694, .int .i64 t695, .int .i64 t696, .int .i64 t697, .int .i64 t698, .string t699, .slice Ao159 t700.length co159, .int .i64 t703, .int .i64 t704, .int .i64 t705]) (ok:=(fun k_ => some k_ ≠ (.slice Ao48 t615.length co48 : Value).ownBlock /\ some k_ ≠ (.slice Ao96 y687.length co96 : Value).ownBlock /\ k_ ≠ gb609 /\ k_ ≠ gb639 /\ k_ ≠ gb679 /\ k_ ≠ gb707)) (okp:=(fun k_ => some k_ ≠ (.slice Ao48 t615.length co48 : Value).ownBlock /\ some k_ ≠ (.slice Ao96 y687.length co96 : Value).ownBlock /\ k_ ≠ gb609 /\ k_ ≠ gb639 /\ k_ ≠ gb679 /\ k_ ≠ gb707)) ?hr ?hp (fun _ hk => hk) ((show ∀ k_,w161.heap.size <= k_ -> (fun k_ => some k_ ≠ (.slice Ao48 t615.length co48 : Value).ownBlock /\ some k_ ≠ (.slice Ao96 y687.length co96 : Value).ownBlock /\ k_ ≠ gb609 /\ k_ ≠ gb639 /\ k_ ≠ gb679 /\ k_ ≠ gb707) k_ from fun k_ hk => ⟨Kd.fresh' (Kd.R_lt (rk HO_7)) k_ hk,Kd.fresh' (Kd.N_lt (nk HO_22)) k_ hk,Kd.freshB (kk BK609) k_ hk,Kd.freshB (kk BK639) k_ hk,Kd.freshB (kk BK679) k_ hk,Kd.freshB (kk BK707) k_ hk⟩) _ (Nat.le_refl _)) (Below.refl _ _) (Nat.le_refl _) (by simp) ?_; (case hd => rfl); (case hg => rfl); (case hr => first | (go_simp; done) | (go_simp; rfl)); (case hp => exact (Reps.front (show Kd.FK kOp _ _ (⟨t693,t694,t695,(⟨t696,t697,t698⟩ : SElem),t699,t700,t703,t704,t705⟩ : SOp) [.int .i64 t693, .int .i64 t694, .int .i64 t695, .int .i64 t696, .int .i64 t697, .int .i64 t698, .string t699, .slice Ao159 t700.length co159, .int .i64 t703, .int .i64 t704, .int .i64 t705] from (kOp_mkF _ _ (⟨t693,t694,t695,(⟨t696,t697,t698⟩ : SElem),t699,t700,t703,t704,t705⟩ : SOp) (Kd.R_reads' (Kd.R_mono (ok':=(fun k_ => some k_ ≠ (.slice Ao48 t615.length co48 : Value).ownBlock /\ some k_ ≠ (.slice Ao96 y687.length co96 : Value).ownBlock /\ k_ ≠ gb609 /\ k_ ≠ gb639 /\ k_ ≠ gb679 /\ k_ ≠ gb707)) (Kd.R_types (Kd.R_types (Kd.R_types (Kd.R_types (Kd.R_apart' (Kd.R_apart' (HO702.out) (Kd.R_typed HO_7.out) (by decide)) (Kd.N_typed HO_22.out) (by decide)) BK609.out (by decide)) BK639.out (by decide)) BK679.out (by decide)) BK707.out (by decide)) (fun k_ hk => ⟨hk.1.1.1.1.1.2,⟨hk.1.1.1.1.2,⟨hk.1.1.1.2,⟨hk.1.1.2,⟨hk.1.2,hk.2⟩⟩⟩⟩⟩))).2.1 (Kd.R_F (Kd.R_mono (ok':=(fun k_ => some k_ ≠ (.slice Ao48 t615.length co48 : Value).ownBlock /\ some k_ ≠ (.slice Ao96 y687.length co96 : Value).ownBlock /\ k_ ≠ gb609 /\ k_ ≠ gb639 /\ k_ ≠ gb679 /\ k_ ≠ gb707)) (Kd.R_types (Kd.R_types (Kd.R_types (Kd.R_types (Kd.R_apart' (Kd.R_apart' (HO702.out) (Kd.R_typed HO_7.out) (by decide)) (Kd.N_typed HO_22.out) (by decide)) BK609.out (by decide)) BK639.out (by decide)) BK679.out (by decide)) BK707.out (by decide)) (fun k_ hk => ⟨hk.1.1.1.1.1.2,⟨hk.1.1.1.1.2,⟨hk.1.1.1.2,⟨hk.1.1.2,⟨hk.1.2,hk.2⟩⟩⟩⟩⟩))))) rfl (Reps.none _ _) rfl))
             intro v713 w162 ho163 hb hg_ hnew_
             clear hg_ hnew_
             (first | rw [<- Ny712.out] at ho163 | (simp only [Int.reduceToNat] at ho163; rw [<- Ny712.out] at ho163))
             have n0_:=rb HO_7 hb
             have n1_:=Zz.k (Kd.N_elder' (nk HO_22) (Kd.N_base ho163) hb)
             have n2_:=Zz.k (Kd.N_lower ho163 (Qag (bw HB)))
             have n3_:=bl BK609 hb
             have n4_:=bl BK639 hb
             have n5_:=bl BK679 hb
             have n6_:=bl BK707 hb
             have n7_:=bs HB hb
             clear HO_7
             clear HO_22
             clear BK609
             clear BK639
             clear BK679
             clear BK707
             clear HB
             clear HO702
             have HO_7:=n0_
             have HO_22:=n1_
             have HO714:=n2_
             have BK609:=n3_
             have BK639:=n4_
             have BK679:=n5_
             have BK707:=n6_
             have HB:=n7_
             clear n0_ n1_ n2_ n3_ n4_ n5_ n6_ n7_
             clear hb ho163
             refine hK.out _ _ (e11 BK707) (fun hHeld => ?_)
             clear hK K
             refine nn 188 (h := ?_)
             refine on HT_ 1 (some 186) 15 (h:=fun K hK => ?_)
             refine gS Tryz.func20 #[.slice Ao96 y687.length co96] (h := ?_)
             with_reducible refine (r0_CopyOps.calls kj78 _ _ y687 t709 _ ?side1 ?side2 A104.out).mono ?_
             (case side1 => exact cn HO_22)
             (case side2 => exact (Kd.N_reads' HO_22.out).2.1)
             rintro e w164 ⟨v710,rfl,ho0,hb⟩
             refine ⟨_,rfl, ?_⟩
             have n0_:=rb HO_7 hb
             have n1_:=Zz.k (Kd.N_elder' (nk HO_22) (Kd.N_base (Kd.S_N ho0)) hb)
             have n2_:=Zz.k (Kd.N_elder' (nk HO714) (Kd.N_base (Kd.S_N ho0)) hb)
             have n3_:=Zz.k (Kd.N_lower (Kd.N_mono (ok':=fun k_ => some k_ ≠ (.slice Ao48 t615.length co48 : Value).ownBlock /\ some k_ ≠ (.slice Ao96 y687.length co96 : Value).ownBlock /\ some k_ ≠ (v713 : Value).ownBlock /\ k_ ≠ gb609 /\ k_ ≠ gb639 /\ k_ ≠ gb679 /\ k_ ≠ gb707) (Kd.S_N (Kd.S_bound ho0)) (fun k_ hk_ => ⟨(Kd.fresh' (Kd.R_lt (rk HO_7)) k_ hk_.2.1),(Kd.fresh' (Kd.N_lt (nk HO_22)) k_ hk_.2.1),(Kd.fresh' (Kd.N_lt (nk HO714)) k_ hk_.2.1),(Kd.freshB (kk BK609) k_ hk_.2.1),(Kd.freshB (kk BK639) k_ hk_.2.1),(Kd.freshB (kk BK679) k_ hk_.2.1),(Kd.freshB (kk BK707) k_ hk_.2.1)⟩)) (Qag (bw HB)))
             have n4_:=bl BK609 hb
             have n5_:=bl BK639 hb
             have n6_:=bl BK679 hb
             have n7_:=bl BK707 hb
             have n8_:=bs HB hb
             clear HO_7
             clear HO_22
             clear HO714
             clear BK609
             clear BK639
             clear BK679
             clear BK707
             clear HB
             have HO_7:=n0_
             have HO_22:=n1_
             have HO714:=n2_
             have HO711:=n3_
             have BK609:=n4_
             have BK639:=n5_
             have BK679:=n6_
             have BK707:=n7_
             have HB:=n8_
             clear n0_ n1_ n2_ n3_ n4_ n5_ n6_ n7_ n8_
             (try clear hb)
             (try clear hb2)
             (try clear hk)
             (try clear hi)
             (try clear ho0)
             refine hK.out _ _ (e11 BK707) (fun hHeld => ?_)
             clear hK K
             refine nn 186 (h := ?_)
             exact norm_ (by simp only [putAll,Act.put,List.setIfInBounds_toArray,List.set_cons_zero,List.set_cons_succ]) (hCont (v710,v713) _ ⟨hHeld,(by (with_reducible repeat (first | apply Kd.N_alloc | apply Kd.N_drewN | apply Kd.N_drew)); exact Kd.N_mono HO711.out (fun _ hk => ⟨hk.2.2.1,⟨hk.2.1,⟨hk.1,⟨hk.2.2.2.1,⟨hk.2.2.2.2.1,⟨hk.2.2.2.2.2.1,hk.2.2.2.2.2.2⟩⟩⟩⟩⟩⟩)),(by (with_reducible repeat (first | apply Kd.N_alloc | apply Kd.N_drewN | apply Kd.N_drew)); exact Kd.N_mono HO714.out (fun _ hk => ⟨hk.2,⟨hk.1.2.1,⟨hk.1.1,⟨hk.1.2.2.1,⟨hk.1.2.2.2.1,⟨hk.1.2.2.2.2.1,hk.1.2.2.2.2.2⟩⟩⟩⟩⟩⟩)),(by (with_reducible repeat (first | apply Kd.N_alloc | apply Kd.N_drewN | apply Kd.N_drew)); exact Kd.N_mono HO_22.out (fun _ hk => ⟨hk.2,⟨hk.1.2,⟨hk.1.1.2.1,⟨hk.1.1.2.2.1,⟨hk.1.1.2.2.2.1,⟨hk.1.1.2.2.2.2.1,hk.1.1.2.2.2.2.2⟩⟩⟩⟩⟩⟩)),(rk HO_7),(kk BK609),(kk BK639),(kk BK679),(kk BK707),(bw HB)⟩)⟩ : Nonempty G_)) :); w7_EditLands.bxo (G:=G_) (inferInstanceAs (Nonempty G_)))
            rintro ⟨v710,v713⟩ w165 ⟨hS_,h0_,h1_,h2_,h3_,h4_,h5_,h6_,h7_,h8_⟩
            have n0_ : Zz (Kd.N kOp 34 w165 w.heap.size (fun k_ => some k_ ≠ (v713 : Value).ownBlock /\ some k_ ≠ (.slice Ao96 y687.length co96 : Value).ownBlock /\ some k_ ≠ (.slice Ao48 t615.length co48 : Value).ownBlock /\ k_ ≠ gb609 /\ k_ ≠ gb639 /\ k_ ≠ gb679 /\ k_ ≠ gb707) v710 t709):=⟨h0_⟩
            have n1_ : Zz (Kd.N kOp 34 w165 w.heap.size (fun k_ => some k_ ≠ (v710 : Value).ownBlock /\ some k_ ≠ (.slice Ao96 y687.length co96 : Value).ownBlock /\ some k_ ≠ (.slice Ao48 t615.length co48 : Value).ownBlock /\ k_ ≠ gb609 /\ k_ ≠ gb639 /\ k_ ≠ gb679 /\ k_ ≠ gb707) v713 y712):=⟨h1_⟩
            have n2_ : Zz (Kd.N kOp 34 w165 w.heap.size (fun k_ => some k_ ≠ (v710 : Value).ownBlock /\ some k_ ≠ (v713 : Value).ownBlock /\ some k_ ≠ (.slice Ao48 t615.length co48 : Value).ownBlock /\ k_ ≠ gb609 /\ k_ ≠ gb639 /\ k_ ≠ gb679 /\ k_ ≠ gb707) (.slice Ao96 y687.length co96) y687):=⟨h2_⟩
            have n3_ : Zz (Kd.R (Kd.int .i32) 21 w165 w.heap.size (fun _ => True) (.slice Ao48 t615.length co48) t615):=⟨h3_⟩
            have n4_ : Zz (w165.heap[gb609]? = some (.cells #[.slice (some ad611) l0_0.length c0_0, .slice A0_1 l0_1.length c0_1, .slice A0_2 l0_2.length c0_2, .slice A0_3 l0_3.length c0_3] 27 (0,0))):=⟨h4_⟩
            have n5_ : Zz (w165.heap[gb639]? = some (.cells #[.int .i64 t625, .int .i64 t626, .int .i64 t627, .int .i64 t628, .int .i64 t629, .int .i64 t630, .string t631, .slice Ao56 t632.length co56, .int .i64 t635, .int .i64 t636, .int .i64 t637] 34 (0,0))):=⟨h5_⟩
            have n6_ : Zz (w165.heap[gb679]? = some (.cells #[.int .i64 t665, .int .i64 t666, .int .i64 t667, .int .i64 t668, .int .i64 t669, .int .i64 t670, .string t671, .slice Ao87 t672.length co87, .int .i64 t675, .int .i64 t676, .int .i64 t677] 34 (0,0))):=⟨h6_⟩
            have n7_ : Zz (w165.heap[gb707]? = some (.cells #[.int .i64 t693, .int .i64 t694, .int .i64 t695, .int .i64 t696, .int .i64 t697, .int .i64 t698, .string t699, .slice Ao159 t700.length co159, .int .i64 t703, .int .i64 t704, .int .i64 t705] 34 (0,0))):=⟨h7_⟩
            have n8_ : Zz (Below w.heap.size w w165):=⟨h8_⟩
            clear HO_7
            clear HO_22
            clear HO702
            clear BK609
            clear BK639
            clear BK679
            clear BK707
            clear HB
            clear h0_ h1_ h2_ h3_ h4_ h5_ h6_ h7_ h8_
            have HO711:=n0_
            have HO714:=n1_
            have HO_22:=n2_
            have HO_7:=n3_
            have BK609:=n4_
            have BK639:=n5_
            have BK679:=n6_
            have BK707:=n7_
            have HB:=n8_
            clear n0_ n1_ n2_ n3_ n4_ n5_ n6_ n7_ n8_
            have hHeld : w165.cell? ⟨gb707,0,none⟩ = some (.int .i64 t693) /\ w165.cell? ⟨gb707,1,none⟩ = some (.int .i64 t694) /\ w165.cell? ⟨gb707,2,none⟩ = some (.int .i64 t695) /\ w165.cell? ⟨gb707,3,none⟩ = some (.int .i64 t696) /\ w165.cell? ⟨gb707,4,none⟩ = some (.int .i64 t697) /\ w165.cell? ⟨gb707,5,none⟩ = some (.int .i64 t698) /\ w165.cell? ⟨gb707,6,none⟩ = some (.string t699) /\ w165.cell? ⟨gb707,7,none⟩ = some (.slice Ao159 t700.length co159) /\ w165.cell? ⟨gb707,8,none⟩ = some (.int .i64 t703) /\ w165.cell? ⟨gb707,9,none⟩ = some (.int .i64 t704) /\ w165.cell? ⟨gb707,10,none⟩ = some (.int .i64 t705):=hS_
            obtain ⟨Ao167,co167,eo167⟩:=Kd.N_slice HO714.out
            (first | subst eo167 | (injection eo167 with f1_ f2_ f3_; have f4_:=f1_.symm; have f5_:=f3_.symm; clear f1_ f2_ f3_; subst f4_; subst f5_))
            refine norm_ (a' := ?_) ?_ ?_
            rotate_left
            ·simp only [putAll,Act.put,List.setIfInBounds_toArray,List.set_cons_zero,List.set_cons_succ]
             rfl
            refine on HT_ 4 (some 189) 31 (h:=fun K hK => ?_)
            refine Kd.N_append_rows_step kOp (w0:=w) w.heap.size (by rfl) (.tmp 186) (.tmp 188) 24 34 (.agg #[(.int .i64 0),(.int .i64 0),(.int .i64 0),(.int .i64 0),(.int .i64 0),(.int .i64 0),(.string ⟨#[]⟩),(.slice none 0 0),(.int .i64 0),(.int .i64 0),(.int .i64 0)]) 112 rfl Tryz.underlying24 info34 rfl (by decide) (by omega) v710 t709 y712 _ _ _ (fun k_ => some k_ ≠ (.slice Ao48 t615.length co48 : Value).ownBlock /\ some k_ ≠ (.slice Ao96 y687.length co96 : Value).ownBlock /\ k_ ≠ gb609 /\ k_ ≠ gb639 /\ k_ ≠ gb679 /\ k_ ≠ gb707) (fun k_ => ((fun k_ => some k_ ≠ (.slice Ao48 t615.length co48 : Value).ownBlock /\ some k_ ≠ (.slice Ao96 y687.length co96 : Value).ownBlock /\ k_ ≠ gb609 /\ k_ ≠ gb639 /\ k_ ≠ gb679 /\ k_ ≠ gb707)) k_ /\ some k_ ≠ (v710 : Value).ownBlock) rfl rfl ?aO ?aR (fun _ hk => hk) ?aF ?aB ?aS ?aL ?_
            (case aR => exact (by skip; exact Kd.N_F (Kd.N_mono (ok':=(fun k_ => ((fun k_ => some k_ ≠ (.slice Ao48 t615.length co48 : Value).ownBlock /\ some k_ ≠ (.slice Ao96 y687.length co96 : Value).ownBlock /\ k_ ≠ gb609 /\ k_ ≠ gb639 /\ k_ ≠ gb679 /\ k_ ≠ gb707)) k_ /\ some k_ ≠ (v710 : Value).ownBlock)) (HO714.out) (fun k_ hk => ⟨⟨hk.2.2.1,⟨hk.2.1,⟨hk.2.2.2.1,⟨hk.2.2.2.2.1,⟨hk.2.2.2.2.2.1,hk.2.2.2.2.2.2⟩⟩⟩⟩⟩,hk.1⟩))))
            (case aB => exact (bw HB))
            (case aF => exact (fun k_ hk => ⟨Kd.fresh' (Kd.R_lt (rk HO_7)) k_ hk,Kd.fresh' (Kd.N_lt (nk HO_22)) k_ hk,Kd.freshB (kk BK609) k_ hk,Kd.freshB (kk BK639) k_ hk,Kd.freshB (kk BK679) k_ hk,Kd.freshB (kk BK707) k_ hk⟩))
            (case aO => exact (by (with_reducible repeat (first | apply Kd.N_alloc | apply Kd.N_drewN | apply Kd.N_drew)); exact Kd.N_mono HO711.out (fun _ hk => ⟨hk.2.2.1,⟨hk.2.1,⟨hk.2.2.2.1,⟨hk.2.2.2.2.1,⟨hk.2.2.2.2.2.1,hk.2.2.2.2.2.2⟩⟩⟩⟩⟩)))
            (case aS => exact (Qag (bw HB)))
            (case aL => have:=LMc105.out; omega)
            intro v716 w166 ho hb hg hat
            rw [<- Ny715.out] at ho
            have n0_:=Zz.k (Kd.R_over' (rk HO_7) (Kd.N_typed (nk HO711)) (by decide) hg)
            have n1_:=Zz.k (Kd.N_afterv (ok:=(fun k_ => some k_ ≠ (.slice Ao48 t615.length co48 : Value).ownBlock /\ some k_ ≠ (.slice Ao167 y712.length co167 : Value).ownBlock /\ k_ ≠ gb609 /\ k_ ≠ gb639 /\ k_ ≠ gb679 /\ k_ ≠ gb707)) (by (with_reducible repeat (first | apply Kd.N_alloc | apply Kd.N_drewN | apply Kd.N_drew)); exact Kd.N_mono HO_22.out (fun _ hk => ⟨⟨hk.2.2.1,⟨hk.2.1,⟨hk.2.2.2.1,⟨hk.2.2.2.2.1,⟨hk.2.2.2.2.2.1,hk.2.2.2.2.2.2⟩⟩⟩⟩⟩,hk.1⟩)) hg hat)
            have n2_:=Zz.k (Qbc (kk BK609) hg (Kd.N_ne HO711.out BK609.out (by decide)))
            have n3_:=Zz.k (Qbc (kk BK639) hg (Kd.N_away HO711.out (fun _ hk => hk.2.2.2.2.1)))
            have n4_:=Zz.k (Qbc (kk BK679) hg (Kd.N_away HO711.out (fun _ hk => hk.2.2.2.2.2.1)))
            have n5_:=Zz.k (Qbc (kk BK707) hg (Kd.N_away HO711.out (fun _ hk => hk.2.2.2.2.2.2)))
            have n6_:=Zz.k (Kd.N_afterv (ok:=(fun k_ => some k_ ≠ (.slice Ao48 t615.length co48 : Value).ownBlock /\ some k_ ≠ (.slice Ao96 y687.length co96 : Value).ownBlock /\ k_ ≠ gb609 /\ k_ ≠ gb639 /\ k_ ≠ gb679 /\ k_ ≠ gb707)) (by (with_reducible repeat (first | apply Kd.N_alloc | apply Kd.N_drewN | apply Kd.N_drew)); exact Kd.N_mono HO714.out (fun _ hk => ⟨⟨hk.2.2.1,⟨hk.2.1,⟨hk.2.2.2.1,⟨hk.2.2.2.2.1,⟨hk.2.2.2.2.2.1,hk.2.2.2.2.2.2⟩⟩⟩⟩⟩,hk.1⟩)) hg hat)
            have n7_:=Zz.k (hb)
            have n8_:=Zz.k (ho)
            clear HO_7
            clear HO_22
            clear BK609
            clear BK639
            clear BK679
            clear BK707
            clear HO714
            clear HB
            clear HO711
            have HO_7:=n0_
            have HO_22:=n1_
            have BK609:=n2_
            have BK639:=n3_
            have BK679:=n4_
            have BK707:=n5_
            have HO714:=n6_
            have HB:=n7_
            have HO717:=n8_
            clear n0_ n1_ n2_ n3_ n4_ n5_ n6_ n7_ n8_
            clear ho hb hg hat
            obtain ⟨Ao168,co168,eo168⟩:=Kd.N_slice HO717.out
            (first | subst eo168 | (injection eo168 with f1_ f2_ f3_; have f4_:=f1_.symm; have f5_:=f3_.symm; clear f1_ f2_ f3_; subst f4_; subst f5_))
            refine hK.out _ _ (e11 BK707) (fun hHeld => ?_)
            clear hK K
            refine nn 189 (h := ?_)
            refine on HT_ 5 (some 190) 63 (h:=fun K hK => ?_)
            refine gS Tryz.func17 #[.slice Ao168 y715.length co168] (h := ?_)
            with_reducible refine (doc_Text.calls _ _ y715 t718 t719 _ ?side1 ?side2 A106.out).mono ?_
            (case side1 => exact cn HO717)
            (case side2 => exact (Kd.N_reads' HO717.out).2.1)
            rintro e w169 ⟨rfl,hb⟩
            refine ⟨_,rfl, ?_⟩
            have n0_:=rb HO_7 hb
            have n1_:=nb HO_22 hb
            have n2_:=nb HO714 hb
            have n3_:=nb HO717 hb
            have n4_:=bl BK609 hb
            have n5_:=bl BK639 hb
            have n6_:=bl BK679 hb
            have n7_:=bl BK707 hb
            have n8_:=bs HB hb
            clear HO_7
            clear HO_22
            clear HO714
            clear HO717
            clear BK609
            clear BK639
            clear BK679
            clear BK707
            clear HB
            have HO_7:=n0_
            have HO_22:=n1_
            have HO714:=n2_
            have HO717:=n3_
            have BK609:=n4_
            have BK639:=n5_
            have BK679:=n6_
            have BK707:=n7_
            have HB:=n8_
            clear n0_ n1_ n2_ n3_ n4_ n5_ n6_ n7_ n8_
            (try clear hb)
            (try clear hb2)
            (try clear hk)
            (try clear hi)
            refine hK.out _ _ (e11 BK707) (fun hHeld => ?_)
            clear hK K
            refine nn 190 (h := ?_)
            refine pu HT_ 6 184 127 (h := ?_)
            refine pu HT_ 7 191 255 (h := ?_)
            refine pu HT_ 8 192 511 (h := ?_)
            refine pu HT_ 9 27 1023 (h := ?_)
            refine pu HT_ 10 28 2047 (h := ?_)
            refine dn HT_ (h := ?_)
            try go_wp2_with (first | ((with_reducible refine Qaa (f:=11) rfl ?_); refine gl (some 194) Tryz.func11 #[.int .i64 t719] (h := ?_); (with_reducible refine (w7_num.calls t719 t720 _ A107.out).mono ?_); rintro e w' ⟨rfl,⟨nd,rfl⟩⟩; refine ⟨_,rfl, ?_⟩))
            go_ret
            exact ⟨by first | rfl | (simp [Qbg,Qbf] <;> rfl) | (simp only [<- hji28,<- hji41]; first | rfl | (simp [Qbg,Qbf] <;> rfl)) | (simp [*,Qbg,Qbf] <;> rfl),bw HB⟩
           show (let G_ : Prop:=_; G_)
           intro G_
           exact (let_tmp i_ : Nonempty G_:=(((⟨by
           subst G_
           rw [if_pos c108] at H
           obtain ⟨c108b0,c108b1⟩:=bT c108
           clear c108
           by_cases c109 : t718.toList = ((t657 ++ (rdOf ByteArray.empty y621 (ji28))) ++ t663).toList; rotate_left
           ·rw [if_neg c109] at H
            obtain ⟨c109b0,c109b1⟩:=bF c109
            obtain rfl:=Zo H
            have hnb130:=NB639_609.out
            have hnc130:=NB609_639.out
            have hnb131:=NB639_679.out
            have hnc131:=NB679_639.out
            obtain ⟨_,_,_,_,_,_,_,_,_,_,_,_,_,_,_,_,_,_,_,_,_,_⟩:=kc11 BK639
            try go_wp2_with (first | ((with_reducible refine Qaa (f:=22) rfl ?_); refine gl (some 178) Tryz.func22 #[.slice Ao96 y687.length co96, .int .i64 (wrap64 (1 + (Int.tmod (wrap64 (x9_3 + 1)) 3))), .int .i64 t625, .int .i64 t626] (h := ?_); (with_reducible refine (edit_Toggle.calls _ _ y687 (wrap64 (1 + (Int.tmod (wrap64 (x9_3 + 1)) 3))) t625 t626 t693 t694 t695 t696 t697 t698 t699 t700 t703 t704 t705 t706 _ ?side1 ?side2 A101.out).mono ?_); (case side1 => exact cn HO_22); (case side2 => exact (Kd.N_reads' HO_22.out).2.1); rintro e w133 ⟨v701,rfl,ho0,hb⟩; refine ⟨_,rfl, ?_⟩; have HO702:=Zz.k (Kd.R_lower ho0 (Qag (bw HB))); replace HO_7:=rb HO_7 hb; replace HO_22:=Zz.k (Kd.N_elder' (nk HO_22) (Kd.R_base ho0) hb); replace BK609:=bl BK609 hb; replace BK639:=bl BK639 hb; replace BK679:=bl BK679 hb; replace HB:=bs HB hb; clear hb; clear ho0) | ((with_reducible refine Qad (N:=25) rfl ?_); refine bx 25 #[.int .i64 0, .int .i64 0, .int .i64 0, .int .i64 0, .int .i64 0, .int .i64 0, .string (⟨#[]⟩ : ByteArray), .slice none 0 0, .int .i64 0, .int .i64 0, .int .i64 0] 34 (h := ?_); intro gb707 hg w134 hbox hb; have BK707:=Zz.k (hbox); have GW707:=bz HB hg; have GE707:=bz HB hg; have NB609_707:=bn BK609 hg; have NB707_609:=bm BK609 hg; have NB639_707:=bn BK639 hg; have NB707_639:=bm BK639 hg; have NB679_707:=bn BK679 hg; have NB707_679:=bm BK679 hg; replace HO_7:=rb HO_7 hb; replace HO_22:=Zz.k (Kd.N_below (Kd.N_elderB (nk HO_22) gb707 (Nat.le_of_eq hg.symm)) hb); replace HO702:=rb HO702 hb; replace BK609:=bl BK609 hb; replace BK639:=bl BK639 hb; replace BK679:=bl BK679 hb; replace HB:=bs HB hb; clear hb hbox hg; have hnb135:=NB707_609.out; have hnc135:=NB609_707.out; have hnb136:=NB707_639.out; have hnc136:=NB639_707.out; have hnb137:=NB707_679.out; have hnc137:=NB679_707.out; obtain ⟨_,_,_,_,_,_,_,_,_,_,_,_,_,_,_,_,_,_,_,_,_,_⟩:=kc11 BK707; obtain ⟨Ao139,co139,eo139⟩:=Kd.R_slice HO702.out; subst eo139) | ((with_reducible refine Qaa (f:=11) rfl ?_); refine gl (some 182) Tryz.func11 #[.int .i64 t706] (h := ?_); (with_reducible refine (w7_num.calls t706 t708 _ A102.out).mono ?_); rintro e w' ⟨rfl,⟨nd,rfl⟩⟩; refine ⟨_,rfl, ?_⟩))
            generalize hgz : (((((((((((w134.setCell ⟨gb707,0,none⟩ (.int .i64 t693)).setCell ⟨gb707,1,none⟩ (.int .i64 t694)).setCell ⟨gb707,2,none⟩ (.int .i64 t695)).setCell ⟨gb707,3,none⟩ (.int .i64 t696)).setCell ⟨gb707,4,none⟩ (.int .i64 t697)).setCell ⟨gb707,5,none⟩ (.int .i64 t698)).setCell ⟨gb707,6,none⟩ (.string t699)).setCell ⟨gb707,7,none⟩ (.slice Ao139 t700.length co139)).setCell ⟨gb707,8,none⟩ (.int .i64 t703)).setCell ⟨gb707,9,none⟩ (.int .i64 t704)).setCell ⟨gb707,10,none⟩ (.int .i64 t705)) = w140
            have n0_ : Zz (Kd.R (Kd.int .i32) 21 w140 w.heap.size (fun _ => True) (.slice Ao48 t615.length co48) t615):=by rw [<- hgz]; exact ⟨by (with_reducible repeat (first | apply Kd.R_alloc | apply Kd.R_drewN | apply Kd.R_drew)); exact Kd.R_mono (rf11 (Kd.R_types HO_7.out BK707.out (by decide))) (fun _ hk => trivial)⟩
            have n1_ : Zz (Kd.N kOp 34 w140 w.heap.size (fun k_ => some k_ ≠ (.slice Ao48 t615.length co48 : Value).ownBlock /\ some k_ ≠ (.slice Ao139 t700.length co139 : Value).ownBlock /\ k_ ≠ gb609 /\ k_ ≠ gb639 /\ k_ ≠ gb679 /\ k_ ≠ gb707) (.slice Ao96 y687.length co96) y687):=by rw [<- hgz]; exact ⟨by (with_reducible repeat (first | apply Kd.N_alloc | apply Kd.N_drewN | apply Kd.N_drew)); exact Kd.N_mono (Kd.N_far (p:=⟨gb707,10,none⟩) (Kd.N_far (p:=⟨gb707,9,none⟩) (Kd.N_far (p:=⟨gb707,8,none⟩) (Kd.N_far (p:=⟨gb707,7,none⟩) (Kd.N_far (p:=⟨gb707,6,none⟩) (Kd.N_far (p:=⟨gb707,5,none⟩) (Kd.N_far (p:=⟨gb707,4,none⟩) (Kd.N_far (p:=⟨gb707,3,none⟩) (Kd.N_far (p:=⟨gb707,2,none⟩) (Kd.N_far (p:=⟨gb707,1,none⟩) (Kd.N_far (p:=⟨gb707,0,none⟩) (Kd.N_mono HO_22.out (fun k_ hk => (⟨hk,hk.2⟩ : _ /\ k_ ≠ gb707))) (fun _ hk => hk.2) (.int .i64 t693)) (fun _ hk => hk.2) (.int .i64 t694)) (fun _ hk => hk.2) (.int .i64 t695)) (fun _ hk => hk.2) (.int .i64 t696)) (fun _ hk => hk.2) (.int .i64 t697)) (fun _ hk => hk.2) (.int .i64 t698)) (fun _ hk => hk.2) (.string t699)) (fun _ hk => hk.2) (.slice Ao139 t700.length co139)) (fun _ hk => hk.2) (.int .i64 t703)) (fun _ hk => hk.2) (.int .i64 t704)) (fun _ hk => hk.2) (.int .i64 t705)) (fun _ hk => ⟨hk.1.1.1.1,⟨hk.1.1.2,⟨hk.1.1.1.2.1,⟨hk.1.1.1.2.2.1,⟨hk.1.1.1.2.2.2,hk.1.2⟩⟩⟩⟩⟩)⟩
            have n2_ : Zz (Kd.R Qav 32 w140 w.heap.size (fun _ => True) (.slice Ao139 t700.length co139) t700):=by rw [<- hgz]; exact ⟨by (with_reducible repeat (first | apply Kd.R_alloc | apply Kd.R_drewN | apply Kd.R_drew)); exact Kd.R_mono (rf11 (Kd.R_types HO702.out BK707.out (by decide))) (fun _ hk => trivial)⟩
            have n3_ : Zz (w140.heap[gb609]? = some (.cells #[.slice (some ad611) l0_0.length c0_0, .slice A0_1 l0_1.length c0_1, .slice A0_2 l0_2.length c0_2, .slice A0_3 l0_3.length c0_3] 27 (0,0))):=by rw [<- hgz]; exact ⟨kk BK609⟩
            have n4_ : Zz (w140.heap[gb639]? = some (.cells #[.int .i64 t625, .int .i64 t626, .int .i64 t627, .int .i64 t628, .int .i64 t629, .int .i64 t630, .string t631, .slice Ao56 t632.length co56, .int .i64 t635, .int .i64 t636, .int .i64 t637] 34 (0,0))):=by rw [<- hgz]; exact ⟨kk BK639⟩
            have n5_ : Zz (w140.heap[gb679]? = some (.cells #[.int .i64 t665, .int .i64 t666, .int .i64 t667, .int .i64 t668, .int .i64 t669, .int .i64 t670, .string t671, .slice Ao87 t672.length co87, .int .i64 t675, .int .i64 t676, .int .i64 t677] 34 (0,0))):=by rw [<- hgz]; exact ⟨kk BK679⟩
            have n6_ : Zz (w140.heap[gb707]? = some (.cells #[.int .i64 t693, .int .i64 t694, .int .i64 t695, .int .i64 t696, .int .i64 t697, .int .i64 t698, .string t699, .slice Ao139 t700.length co139, .int .i64 t703, .int .i64 t704, .int .i64 t705] 34 (0,0))):=by rw [<- hgz]; exact ⟨bp11 (kk BK707)⟩
            have n7_ : Zz (Below w.heap.size w w140):=by rw [<- hgz]; exact ⟨bw HB⟩
            (try clear HO_7)
            (try clear HO_22)
            (try clear HO702)
            (try clear BK609)
            (try clear BK639)
            (try clear BK679)
            (try clear BK707)
            (try clear HB)
            clear hgz
            have HO_7:=n0_
            have HO_22:=n1_
            have HO702:=n2_
            have BK609:=n3_
            have BK639:=n4_
            have BK679:=n5_
            have BK707:=n6_
            have HB:=n7_
            clear n0_ n1_ n2_ n3_ n4_ n5_ n6_ n7_
            (try (rw [Qbm w140]; generalize hq_ : World.drewN w140 _ = w140; have n0_ : Zz (Kd.R Qav 32 w140 w.heap.size (fun _ => True) (.slice Ao139 t700.length co139) t700):=⟨by rw [<- hq_]; exact (rk HO702)⟩; have n1_ : Zz (Kd.N kOp 34 w140 w.heap.size (fun k_ => some k_ ≠ (.slice Ao139 t700.length co139 : Value).ownBlock /\ some k_ ≠ (.slice Ao48 t615.length co48 : Value).ownBlock /\ k_ ≠ gb609 /\ k_ ≠ gb639 /\ k_ ≠ gb679 /\ k_ ≠ gb707) (.slice Ao96 y687.length co96) y687):=⟨by rw [<- hq_]; exact (by (with_reducible repeat (first | apply Kd.N_alloc | apply Kd.N_drewN | apply Kd.N_drew)); exact Kd.N_mono HO_22.out (fun _ hk => ⟨hk.2.1,⟨hk.1,⟨hk.2.2.1,⟨hk.2.2.2.1,⟨hk.2.2.2.2.1,hk.2.2.2.2.2⟩⟩⟩⟩⟩))⟩; have n2_ : Zz (Kd.R (Kd.int .i32) 21 w140 w.heap.size (fun _ => True) (.slice Ao48 t615.length co48) t615):=⟨by rw [<- hq_]; exact (rk HO_7)⟩; have n3_ : Zz (w140.heap[gb609]? = some (.cells #[.slice (some ad611) l0_0.length c0_0, .slice A0_1 l0_1.length c0_1, .slice A0_2 l0_2.length c0_2, .slice A0_3 l0_3.length c0_3] 27 (0,0))):=⟨by rw [<- hq_]; exact (kk BK609)⟩; have n4_ : Zz (w140.heap[gb639]? = some (.cells #[.int .i64 t625, .int .i64 t626, .int .i64 t627, .int .i64 t628, .int .i64 t629, .int .i64 t630, .string t631, .slice Ao56 t632.length co56, .int .i64 t635, .int .i64 t636, .int .i64 t637] 34 (0,0))):=⟨by rw [<- hq_]; exact (kk BK639)⟩; have n5_ : Zz (w140.heap[gb679]? = some (.cells #[.int .i64 t665, .int .i64 t666, .int .i64 t667, .int .i64 t668, .int .i64 t669, .int .i64 t670, .string t671, .slice Ao87 t672.length co87, .int .i64 t675, .int .i64 t676, .int .i64 t677] 34 (0,0))):=⟨by rw [<- hq_]; exact (kk BK679)⟩; have n6_ : Zz (w140.heap[gb707]? = some (.cells #[.int .i64 t693, .int .i64 t694, .int .i64 t695, .int .i64 t696, .int .i64 t697, .int .i64 t698, .string t699, .slice Ao139 t700.length co139, .int .i64 t703, .int .i64 t704, .int .i64 t705] 34 (0,0))):=⟨by rw [<- hq_]; exact (kk BK707)⟩; have n7_ : Zz (Below w.heap.size w w140):=⟨by rw [<- hq_]; exact (bw HB)⟩; clear HO702 HO_22 HO_7 BK609 BK639 BK679 BK707 HB hq_; have HO702:=n0_; have HO_22:=n1_; have HO_7:=n2_; have BK609:=n3_; have BK639:=n4_; have BK679:=n5_; have BK707:=n6_; have HB:=n7_; clear n0_ n1_ n2_ n3_ n4_ n5_ n6_ n7_))
            have n0_:=Zz.k (Kd.R_drew HO_7.out)
            have n1_:=Zz.k (Kd.N_drew HO_22.out)
            have n2_:=Zz.k (Kd.R_drew HO702.out)
            have n3_:=Zz.k (Qam BK609.out)
            have n4_:=Zz.k (Qam BK639.out)
            have n5_:=Zz.k (Qam BK679.out)
            have n6_:=Zz.k (Qam BK707.out)
            have n7_:=Zz.k (Qae HB.out)
            clear HO_7
            clear HO_22
            clear HO702
            clear BK609
            clear BK639
            clear BK679
            clear BK707
            clear HB
            have HO_7:=n0_
            have HO_22:=n1_
            have HO702:=n2_
            have BK609:=n3_
            have BK639:=n4_
            have BK679:=n5_
            have BK707:=n6_
            have HB:=n7_
            clear n0_ n1_ n2_ n3_ n4_ n5_ n6_ n7_
            refine stP (fun w' => E11 w' gb707 (.int .i64 t693) (.int .i64 t694) (.int .i64 t695) (.int .i64 t696) (.int .i64 t697) (.int .i64 t698) (.string t699) (.slice Ao139 t700.length co139) (.int .i64 t703) (.int .i64 t704) (.int .i64 t705)) 11 (e11 BK707) (h:=fun hHeld => ?_); refine Qax w7_EditLands.tab34 w7_EditLands.bits34 (fun HT_ HW_ => ?_)
            generalize w140.drew = w141 at HO_7 HO_22 HO702 BK609 BK639 BK679 BK707 HB hHeld ⊢
            refine pu HT_ 0 185 1 (h := ?_)
            refine tk HT_ HW_ hHeld 2 187 5 (h := ?_)
            refine join_ (σ:=Value × Value) 7 (bA 11 15) (fun s_ => [(186,s_.1),(188,s_.2)]) (fun s_ w' => (w'.cell? ⟨gb707,0,none⟩ = some (.int .i64 t693) /\ w'.cell? ⟨gb707,1,none⟩ = some (.int .i64 t694) /\ w'.cell? ⟨gb707,2,none⟩ = some (.int .i64 t695) /\ w'.cell? ⟨gb707,3,none⟩ = some (.int .i64 t696) /\ w'.cell? ⟨gb707,4,none⟩ = some (.int .i64 t697) /\ w'.cell? ⟨gb707,5,none⟩ = some (.int .i64 t698) /\ w'.cell? ⟨gb707,6,none⟩ = some (.string t699) /\ w'.cell? ⟨gb707,7,none⟩ = some (.slice Ao139 t700.length co139) /\ w'.cell? ⟨gb707,8,none⟩ = some (.int .i64 t703) /\ w'.cell? ⟨gb707,9,none⟩ = some (.int .i64 t704) /\ w'.cell? ⟨gb707,10,none⟩ = some (.int .i64 t705)) /\ (Kd.N kOp 34 w' w.heap.size (fun k_ => some k_ ≠ (s_.2 : Value).ownBlock /\ some k_ ≠ (.slice Ao96 y687.length co96 : Value).ownBlock /\ some k_ ≠ (.slice Ao48 t615.length co48 : Value).ownBlock /\ k_ ≠ gb609 /\ k_ ≠ gb639 /\ k_ ≠ gb679 /\ k_ ≠ gb707) s_.1 t709) /\ (Kd.N kOp 34 w' w.heap.size (fun k_ => some k_ ≠ (s_.1 : Value).ownBlock /\ some k_ ≠ (.slice Ao96 y687.length co96 : Value).ownBlock /\ some k_ ≠ (.slice Ao48 t615.length co48 : Value).ownBlock /\ k_ ≠ gb609 /\ k_ ≠ gb639 /\ k_ ≠ gb679 /\ k_ ≠ gb707) s_.2 y712) /\ (Kd.N kOp 34 w' w.heap.size (fun k_ => some k_ ≠ (s_.1 : Value).ownBlock /\ some k_ ≠ (s_.2 : Value).ownBlock /\ some k_ ≠ (.slice Ao48 t615.length co48 : Value).ownBlock /\ k_ ≠ gb609 /\ k_ ≠ gb639 /\ k_ ≠ gb679 /\ k_ ≠ gb707) (.slice Ao96 y687.length co96) y687) /\ (Kd.R (Kd.int .i32) 21 w' w.heap.size (fun _ => True) (.slice Ao48 t615.length co48) t615) /\ (w'.heap[gb609]? = some (.cells #[.slice (some ad611) l0_0.length c0_0, .slice A0_1 l0_1.length c0_1, .slice A0_2 l0_2.length c0_2, .slice A0_3 l0_3.length c0_3] 27 (0,0))) /\ (w'.heap[gb639]? = some (.cells #[.int .i64 t625, .int .i64 t626, .int .i64 t627, .int .i64 t628, .int .i64 t629, .int .i64 t630, .string t631, .slice Ao56 t632.length co56, .int .i64 t635, .int .i64 t636, .int .i64 t637] 34 (0,0))) /\ (w'.heap[gb679]? = some (.cells #[.int .i64 t665, .int .i64 t666, .int .i64 t667, .int .i64 t668, .int .i64 t669, .int .i64 t670, .string t671, .slice Ao87 t672.length co87, .int .i64 t675, .int .i64 t676, .int .i64 t677] 34 (0,0))) /\ (w'.heap[gb707]? = some (.cells #[.int .i64 t693, .int .i64 t694, .int .i64 t695, .int .i64 t696, .int .i64 t697, .int .i64 t698, .string t699, .slice Ao139 t700.length co139, .int .i64 t703, .int .i64 t704, .int .i64 t705] 34 (0,0))) /\ (Below w.heap.size w w')) ?_ ?_
            rotate_left
            ·show (let G_ : Prop:=_; G_)
             intro G_
             exact (let_tmp i_ : Nonempty G_:=(((⟨by
             subst G_
             intro hCont
             refine two_ (i:=1) (j:=3) (Ni:=some 186) (Nj:=some 188) (bA 11 7) (bA 11 13) rfl rfl rfl rfl (two_of HT_.out (by kernel_rfl)) (by decide) (by decide) (fun K hK => ?_) (fun K hK => ?_)
             ·show (let G_ : Prop:=_; G_)
              intro G_
              exact (let_tmp i_ : Nonempty G_:=(((⟨by
              subst G_
              skip
              refine gS Tryz.func20 #[.slice Ao96 y687.length co96] (h := ?_)
              with_reducible refine (r0_CopyOps.calls kj78 _ _ y687 t709 _ ?side1 ?side2 A104.out).mono ?_
              (case side1 => exact cn HO_22)
              (case side2 => exact (Kd.N_reads' HO_22.out).2.1)
              rintro e w142 ⟨v710,rfl,ho0,hb⟩
              refine ⟨_,rfl, ?_⟩
              have n0_:=rb HO_7 hb
              have n1_:=Zz.k (Kd.N_elder' (nk HO_22) (Kd.N_base (Kd.S_N ho0)) hb)
              have n2_:=rb HO702 hb
              have n3_:=Zz.k (Kd.N_lower (Kd.N_mono (ok':=fun k_ => some k_ ≠ (.slice Ao48 t615.length co48 : Value).ownBlock /\ some k_ ≠ (.slice Ao96 y687.length co96 : Value).ownBlock /\ some k_ ≠ (.slice Ao139 t700.length co139 : Value).ownBlock /\ k_ ≠ gb609 /\ k_ ≠ gb639 /\ k_ ≠ gb679 /\ k_ ≠ gb707) (Kd.S_N (Kd.S_bound ho0)) (fun k_ hk_ => ⟨(Kd.fresh' (Kd.R_lt (rk HO_7)) k_ hk_.2.1),(Kd.fresh' (Kd.N_lt (nk HO_22)) k_ hk_.2.1),(Kd.fresh' (Kd.R_lt (rk HO702)) k_ hk_.2.1),(Kd.freshB (kk BK609) k_ hk_.2.1),(Kd.freshB (kk BK639) k_ hk_.2.1),(Kd.freshB (kk BK679) k_ hk_.2.1),(Kd.freshB (kk BK707) k_ hk_.2.1)⟩)) (Qag (bw HB)))
              have n4_:=bl BK609 hb
              have n5_:=bl BK639 hb
              have n6_:=bl BK679 hb
              have n7_:=bl BK707 hb
              have n8_:=bs HB hb
              clear HO_7
              clear HO_22
              clear HO702
              clear BK609
              clear BK639
              clear BK679
              clear BK707
              clear HB
              have HO_7:=n0_
              have HO_22:=n1_
              have HO702:=n2_
              have HO711:=n3_
              have BK609:=n4_
              have BK639:=n5_
              have BK679:=n6_
              have BK707:=n7_
              have HB:=n8_
              clear n0_ n1_ n2_ n3_ n4_ n5_ n6_ n7_ n8_
              (try clear hb)
              (try clear hb2)
              (try clear hk)
              (try clear hi)
              (try clear ho0)
              refine hK.out _ _ (e11 BK707) (fun hHeld => ?_)
              clear hK K
              refine nn 186 (h := ?_)
              refine on HT_ 3 (some 188) 15 (h:=fun K hK => ?_)
              refine Kd.N_lit_step kOp _ 34 ?hg (N':=188) ?hd (xs:=([(⟨t693,t694,t695,(⟨t696,t697,t698⟩ : SElem),t699,t700,t703,t704,t705⟩ : SOp)] : List (SOp))) (inner:=[.int .i64 t693, .int .i64 t694, .int .i64 t695, .int .i64 t696, .int .i64 t697, .int .i64 t698, .string t699, .slice Ao139 t700.length co139, .int .i64 t703, .int .i64 t704, .int .i64 t705]) (ok:=(fun k_ => some k_ ≠ (.slice Ao48 t615.length co48 : Value).ownBlock /\ some k_ ≠ (.slice Ao96 y687.length co96 : Value).ownBlock /\ some k_ ≠ (v710 : Value).ownBlock /\ k_ ≠ gb609 /\ k_ ≠ gb639 /\ k_ ≠ gb679 /\ k_ ≠ gb707)) (okp:=(fun k_ => some k_ ≠ (.slice Ao48 t615.length co48 : Value).ownBlock /\ some k_ ≠ (.slice Ao96 y687.length co96 : Value).ownBlock /\ some k_ ≠ (v710 : Value).ownBlock /\ k_ ≠ gb609 /\ k_ ≠ gb639 /\ k_ ≠ gb679 /\ k_ ≠ gb707)) ?hr ?hp (fun _ hk => hk) ((show ∀ k_,w142.heap.size <= k_ -> (fun k_ => some k_ ≠ (.slice Ao48 t615.length co48 : Value).ownBlock /\ some k_ ≠ (.slice Ao96 y687.length co96 : Value).ownBlock /\ some k_ ≠ (v710 : Value).ownBlock /\ k_ ≠ gb609 /\ k_ ≠ gb639 /\ k_ ≠ gb679 /\ k_ ≠ gb707) k_ from fun k_ hk => ⟨Kd.fresh' (Kd.R_lt (rk HO_7)) k_ hk,Kd.fresh' (Kd.N_lt (nk HO_22)) k_ hk,Kd.fresh' (Kd.N_lt (nk HO711)) k_ hk,Kd.freshB (kk BK609) k_ hk,Kd.freshB (kk BK639) k_ hk,Kd.freshB (kk BK679) k_ hk,Kd.freshB (kk BK707) k_ hk⟩) _ (Nat.le_refl _)) (Below.refl _ _) (Nat.le_refl _) (by simp) ?_; (case hd => rfl); (case hg => rfl); (case hr => first | (go_simp; done) | (go_simp; rfl)); (case hp => exact (Reps.front (show Kd.FK kOp _ _ (⟨t693,t694,t695,(⟨t696,t697,t698⟩ : SElem),t699,t700,t703,t704,t705⟩ : SOp) [.int .i64 t693, .int .i64 t694, .int .i64 t695, .int .i64 t696, .int .i64 t697, .int .i64 t698, .string t699, .slice Ao139 t700.length co139, .int .i64 t703, .int .i64 t704, .int .i64 t705] from (kOp_mkF _ _ (⟨t693,t694,t695,(⟨t696,t697,t698⟩ : SElem),t699,t700,t703,t704,t705⟩ : SOp) (Kd.R_reads' (Kd.R_mono (ok':=(fun k_ => some k_ ≠ (.slice Ao48 t615.length co48 : Value).ownBlock /\ some k_ ≠ (.slice Ao96 y687.length co96 : Value).ownBlock /\ some k_ ≠ (v710 : Value).ownBlock /\ k_ ≠ gb609 /\ k_ ≠ gb639 /\ k_ ≠ gb679 /\ k_ ≠ gb707)) (Kd.R_types (Kd.R_types (Kd.R_types (Kd.R_types (Kd.R_apart' (Kd.R_apart' (Kd.R_apart' (HO702.out) (Kd.R_typed HO_7.out) (by decide)) (Kd.N_typed HO_22.out) (by decide)) (Kd.N_typed HO711.out) (by decide)) BK609.out (by decide)) BK639.out (by decide)) BK679.out (by decide)) BK707.out (by decide)) (fun k_ hk => ⟨hk.1.1.1.1.1.1.2,⟨hk.1.1.1.1.1.2,⟨hk.1.1.1.1.2,⟨hk.1.1.1.2,⟨hk.1.1.2,⟨hk.1.2,hk.2⟩⟩⟩⟩⟩⟩))).2.1 (Kd.R_F (Kd.R_mono (ok':=(fun k_ => some k_ ≠ (.slice Ao48 t615.length co48 : Value).ownBlock /\ some k_ ≠ (.slice Ao96 y687.length co96 : Value).ownBlock /\ some k_ ≠ (v710 : Value).ownBlock /\ k_ ≠ gb609 /\ k_ ≠ gb639 /\ k_ ≠ gb679 /\ k_ ≠ gb707)) (Kd.R_types (Kd.R_types (Kd.R_types (Kd.R_types (Kd.R_apart' (Kd.R_apart' (Kd.R_apart' (HO702.out) (Kd.R_typed HO_7.out) (by decide)) (Kd.N_typed HO_22.out) (by decide)) (Kd.N_typed HO711.out) (by decide)) BK609.out (by decide)) BK639.out (by decide)) BK679.out (by decide)) BK707.out (by decide)) (fun k_ hk => ⟨hk.1.1.1.1.1.1.2,⟨hk.1.1.1.1.1.2,⟨hk.1.1.1.1.2,⟨hk.1.1.1.2,⟨hk.1.1.2,⟨hk.1.2,hk.2⟩⟩⟩⟩⟩⟩))))) rfl (Reps.none _ _) rfl))
              intro v713 w143 ho144 hb hg_ hnew_
              clear hg_ hnew_
              (first | rw [<- Ny712.out] at ho144 | (simp only [Int.reduceToNat] at ho144; rw [<- Ny712.out] at ho144))
              have n0_:=rb HO_7 hb
              have n1_:=Zz.k (Kd.N_elder' (nk HO_22) (Kd.N_base ho144) hb)
              have n2_:=Zz.k (Kd.N_elder' (nk HO711) (Kd.N_base ho144) hb)
              have n3_:=Zz.k (Kd.N_lower ho144 (Qag (bw HB)))
              have n4_:=bl BK609 hb
              have n5_:=bl BK639 hb
              have n6_:=bl BK679 hb
              have n7_:=bl BK707 hb
              have n8_:=bs HB hb
              clear HO_7
              clear HO_22
              clear HO711
              clear BK609
              clear BK639
              clear BK679
              clear BK707
              clear HB
              clear HO702
              have HO_7:=n0_
              have HO_22:=n1_
              have HO711:=n2_
              have HO714:=n3_
              have BK609:=n4_
              have BK639:=n5_
              have BK679:=n6_
              have BK707:=n7_
              have HB:=n8_
              clear n0_ n1_ n2_ n3_ n4_ n5_ n6_ n7_ n8_
              clear hb ho144
              refine hK.out _ _ (e11 BK707) (fun hHeld => ?_)
              clear hK K
              refine nn 188 (h := ?_)
              exact norm_ (by simp only [putAll,Act.put,List.setIfInBounds_toArray,List.set_cons_zero,List.set_cons_succ]) (hCont (v710,v713) _ ⟨hHeld,(by (with_reducible repeat (first | apply Kd.N_alloc | apply Kd.N_drewN | apply Kd.N_drew)); exact Kd.N_mono HO711.out (fun _ hk => ⟨hk.2,⟨hk.1.2.1,⟨hk.1.1,⟨hk.1.2.2.2.1,⟨hk.1.2.2.2.2.1,⟨hk.1.2.2.2.2.2.1,hk.1.2.2.2.2.2.2⟩⟩⟩⟩⟩⟩)),(by (with_reducible repeat (first | apply Kd.N_alloc | apply Kd.N_drewN | apply Kd.N_drew)); exact Kd.N_mono HO714.out (fun _ hk => ⟨hk.2.2.1,⟨hk.2.1,⟨hk.1,⟨hk.2.2.2.1,⟨hk.2.2.2.2.1,⟨hk.2.2.2.2.2.1,hk.2.2.2.2.2.2⟩⟩⟩⟩⟩⟩)),(by (with_reducible repeat (first | apply Kd.N_alloc | apply Kd.N_drewN | apply Kd.N_drew)); exact Kd.N_mono HO_22.out (fun _ hk => ⟨hk.1.2,⟨hk.2,⟨hk.1.1.2.1,⟨hk.1.1.2.2.1,⟨hk.1.1.2.2.2.1,⟨hk.1.1.2.2.2.2.1,hk.1.1.2.2.2.2.2⟩⟩⟩⟩⟩⟩)),(rk HO_7),(kk BK609),(kk BK639),(kk BK679),(kk BK707),(bw HB)⟩)⟩ : Nonempty G_)) :); w7_EditLands.bxo (G:=G_) (inferInstanceAs (Nonempty G_)))
             skip
             refine Kd.N_lit_step kOp _ 34 ?hg (N':=188) ?hd (xs:=([(⟨t693,t694,t695,(⟨t696,t697,t698⟩ : SElem),t699,t700,t703,t704,t705⟩ : SOp)] : List (SOp))) (inner:=[.int .i64 t693, .int .i64 t694, .int .i64 t695, .int .i64 t696, .int .i64 t697, .int .i64 t698, .string t699, .slice Ao139 t700.length co139, .int .i64 t703, .int .i64 t704, .int .i64 t705]) (ok:=(fun k_ => some k_ ≠ (.slice Ao48 t615.length co48 : Value).ownBlock /\ some k_ ≠ (.slice Ao96 y687.length co96 : Value).ownBlock /\ k_ ≠ gb609 /\ k_ ≠ gb639 /\ k_ ≠ gb679 /\ k_ ≠ gb707)) (okp:=(fun k_ => some k_ ≠ (.slice Ao48 t615.length co48 : Value).ownBlock /\ some k_ ≠ (.slice Ao96 y687.length co96 : Value).ownBlock /\ k_ ≠ gb609 /\ k_ ≠ gb639 /\ k_ ≠ gb679 /\ k_ ≠ gb707)) ?hr ?hp (fun _ hk => hk) ((show ∀ k_,w141.heap.size <= k_ -> (fun k_ => some k_ ≠ (.slice Ao48 t615.length co48 : Value).ownBlock /\ some k_ ≠ (.slice Ao96 y687.length co96 : Value).ownBlock /\ k_ ≠ gb609 /\ k_ ≠ gb639 /\ k_ ≠ gb679 /\ k_ ≠ gb707) k_ from fun k_ hk => ⟨Kd.fresh' (Kd.R_lt (rk HO_7)) k_ hk,Kd.fresh' (Kd.N_lt (nk HO_22)) k_ hk,Kd.freshB (kk BK609) k_ hk,Kd.freshB (kk BK639) k_ hk,Kd.freshB (kk BK679) k_ hk,Kd.freshB (kk BK707) k_ hk⟩) _ (Nat.le_refl _)) (Below.refl _ _) (Nat.le_refl _) (by simp) ?_; (case hd => rfl); (case hg => rfl); (case hr => first | (go_simp; done) | (go_simp; rfl)); (case hp => exact (Reps.front (show Kd.FK kOp _ _ (⟨t693,t694,t695,(⟨t696,t697,t698⟩ : SElem),t699,t700,t703,t704,t705⟩ : SOp) [.int .i64 t693, .int .i64 t694, .int .i64 t695, .int .i64 t696, .int .i64 t697, .int .i64 t698, .string t699, .slice Ao139 t700.length co139, .int .i64 t703, .int .i64 t704, .int .i64 t705] from (kOp_mkF _ _ (⟨t693,t694,t695,(⟨t696,t697,t698⟩ : SElem),t699,t700,t703,t704,t705⟩ : SOp) (Kd.R_reads' (Kd.R_mono (ok':=(fun k_ => some k_ ≠ (.slice Ao48 t615.length co48 : Value).ownBlock /\ some k_ ≠ (.slice Ao96 y687.length co96 : Value).ownBlock /\ k_ ≠ gb609 /\ k_ ≠ gb639 /\ k_ ≠ gb679 /\ k_ ≠ gb707)) (Kd.R_types (Kd.R_types (Kd.R_types (Kd.R_types (Kd.R_apart' (Kd.R_apart' (HO702.out) (Kd.R_typed HO_7.out) (by decide)) (Kd.N_typed HO_22.out) (by decide)) BK609.out (by decide)) BK639.out (by decide)) BK679.out (by decide)) BK707.out (by decide)) (fun k_ hk => ⟨hk.1.1.1.1.1.2,⟨hk.1.1.1.1.2,⟨hk.1.1.1.2,⟨hk.1.1.2,⟨hk.1.2,hk.2⟩⟩⟩⟩⟩))).2.1 (Kd.R_F (Kd.R_mono (ok':=(fun k_ => some k_ ≠ (.slice Ao48 t615.length co48 : Value).ownBlock /\ some k_ ≠ (.slice Ao96 y687.length co96 : Value).ownBlock /\ k_ ≠ gb609 /\ k_ ≠ gb639 /\ k_ ≠ gb679 /\ k_ ≠ gb707)) (Kd.R_types (Kd.R_types (Kd.R_types (Kd.R_types (Kd.R_apart' (Kd.R_apart' (HO702.out) (Kd.R_typed HO_7.out) (by decide)) (Kd.N_typed HO_22.out) (by decide)) BK609.out (by decide)) BK639.out (by decide)) BK679.out (by decide)) BK707.out (by decide)) (fun k_ hk => ⟨hk.1.1.1.1.1.2,⟨hk.1.1.1.1.2,⟨hk.1.1.1.2,⟨hk.1.1.2,⟨hk.1.2,hk.2⟩⟩⟩⟩⟩))))) rfl (Reps.none _ _) rfl))
             intro v713 w142 ho143 hb hg_ hnew_
             clear hg_ hnew_
             (first | rw [<- Ny712.out] at ho143 | (simp only [Int.reduceToNat] at ho143; rw [<- Ny712.out] at ho143))
             have n0_:=rb HO_7 hb
             have n1_:=Zz.k (Kd.N_elder' (nk HO_22) (Kd.N_base ho143) hb)
             have n2_:=Zz.k (Kd.N_lower ho143 (Qag (bw HB)))
             have n3_:=bl BK609 hb
             have n4_:=bl BK639 hb
             have n5_:=bl BK679 hb
             have n6_:=bl BK707 hb
             have n7_:=bs HB hb
             clear HO_7
             clear HO_22
             clear BK609
             clear BK639
             clear BK679
             clear BK707
             clear HB
             clear HO702
             have HO_7:=n0_
             have HO_22:=n1_
             have HO714:=n2_
             have BK609:=n3_
             have BK639:=n4_
             have BK679:=n5_
             have BK707:=n6_
             have HB:=n7_
             clear n0_ n1_ n2_ n3_ n4_ n5_ n6_ n7_
             clear hb ho143
             refine hK.out _ _ (e11 BK707) (fun hHeld => ?_)
             clear hK K
             refine nn 188 (h := ?_)
             refine on HT_ 1 (some 186) 15 (h:=fun K hK => ?_)
             refine gS Tryz.func20 #[.slice Ao96 y687.length co96] (h := ?_)
             with_reducible refine (r0_CopyOps.calls kj78 _ _ y687 t709 _ ?side1 ?side2 A104.out).mono ?_
             (case side1 => exact cn HO_22)
             (case side2 => exact (Kd.N_reads' HO_22.out).2.1)
             rintro e w144 ⟨v710,rfl,ho0,hb⟩
             refine ⟨_,rfl, ?_⟩
             have n0_:=rb HO_7 hb
             have n1_:=Zz.k (Kd.N_elder' (nk HO_22) (Kd.N_base (Kd.S_N ho0)) hb)
             have n2_:=Zz.k (Kd.N_elder' (nk HO714) (Kd.N_base (Kd.S_N ho0)) hb)
             have n3_:=Zz.k (Kd.N_lower (Kd.N_mono (ok':=fun k_ => some k_ ≠ (.slice Ao48 t615.length co48 : Value).ownBlock /\ some k_ ≠ (.slice Ao96 y687.length co96 : Value).ownBlock /\ some k_ ≠ (v713 : Value).ownBlock /\ k_ ≠ gb609 /\ k_ ≠ gb639 /\ k_ ≠ gb679 /\ k_ ≠ gb707) (Kd.S_N (Kd.S_bound ho0)) (fun k_ hk_ => ⟨(Kd.fresh' (Kd.R_lt (rk HO_7)) k_ hk_.2.1),(Kd.fresh' (Kd.N_lt (nk HO_22)) k_ hk_.2.1),(Kd.fresh' (Kd.N_lt (nk HO714)) k_ hk_.2.1),(Kd.freshB (kk BK609) k_ hk_.2.1),(Kd.freshB (kk BK639) k_ hk_.2.1),(Kd.freshB (kk BK679) k_ hk_.2.1),(Kd.freshB (kk BK707) k_ hk_.2.1)⟩)) (Qag (bw HB)))
             have n4_:=bl BK609 hb
             have n5_:=bl BK639 hb
             have n6_:=bl BK679 hb
             have n7_:=bl BK707 hb
             have n8_:=bs HB hb
             clear HO_7
             clear HO_22
             clear HO714
             clear BK609
             clear BK639
             clear BK679
             clear BK707
             clear HB
             have HO_7:=n0_
             have HO_22:=n1_
             have HO714:=n2_
             have HO711:=n3_
             have BK609:=n4_
             have BK639:=n5_
             have BK679:=n6_
             have BK707:=n7_
             have HB:=n8_
             clear n0_ n1_ n2_ n3_ n4_ n5_ n6_ n7_ n8_
             (try clear hb)
             (try clear hb2)
             (try clear hk)
             (try clear hi)
             (try clear ho0)
             refine hK.out _ _ (e11 BK707) (fun hHeld => ?_)
             clear hK K
             refine nn 186 (h := ?_)
             exact norm_ (by simp only [putAll,Act.put,List.setIfInBounds_toArray,List.set_cons_zero,List.set_cons_succ]) (hCont (v710,v713) _ ⟨hHeld,(by (with_reducible repeat (first | apply Kd.N_alloc | apply Kd.N_drewN | apply Kd.N_drew)); exact Kd.N_mono HO711.out (fun _ hk => ⟨hk.2.2.1,⟨hk.2.1,⟨hk.1,⟨hk.2.2.2.1,⟨hk.2.2.2.2.1,⟨hk.2.2.2.2.2.1,hk.2.2.2.2.2.2⟩⟩⟩⟩⟩⟩)),(by (with_reducible repeat (first | apply Kd.N_alloc | apply Kd.N_drewN | apply Kd.N_drew)); exact Kd.N_mono HO714.out (fun _ hk => ⟨hk.2,⟨hk.1.2.1,⟨hk.1.1,⟨hk.1.2.2.1,⟨hk.1.2.2.2.1,⟨hk.1.2.2.2.2.1,hk.1.2.2.2.2.2⟩⟩⟩⟩⟩⟩)),(by (with_reducible repeat (first | apply Kd.N_alloc | apply Kd.N_drewN | apply Kd.N_drew)); exact Kd.N_mono HO_22.out (fun _ hk => ⟨hk.2,⟨hk.1.2,⟨hk.1.1.2.1,⟨hk.1.1.2.2.1,⟨hk.1.1.2.2.2.1,⟨hk.1.1.2.2.2.2.1,hk.1.1.2.2.2.2.2⟩⟩⟩⟩⟩⟩)),(rk HO_7),(kk BK609),(kk BK639),(kk BK679),(kk BK707),(bw HB)⟩)⟩ : Nonempty G_)) :); w7_EditLands.bxo (G:=G_) (inferInstanceAs (Nonempty G_)))
            rintro ⟨v710,v713⟩ w145 ⟨hS_,h0_,h1_,h2_,h3_,h4_,h5_,h6_,h7_,h8_⟩
            have n0_ : Zz (Kd.N kOp 34 w145 w.heap.size (fun k_ => some k_ ≠ (v713 : Value).ownBlock /\ some k_ ≠ (.slice Ao96 y687.length co96 : Value).ownBlock /\ some k_ ≠ (.slice Ao48 t615.length co48 : Value).ownBlock /\ k_ ≠ gb609 /\ k_ ≠ gb639 /\ k_ ≠ gb679 /\ k_ ≠ gb707) v710 t709):=⟨h0_⟩
            have n1_ : Zz (Kd.N kOp 34 w145 w.heap.size (fun k_ => some k_ ≠ (v710 : Value).ownBlock /\ some k_ ≠ (.slice Ao96 y687.length co96 : Value).ownBlock /\ some k_ ≠ (.slice Ao48 t615.length co48 : Value).ownBlock /\ k_ ≠ gb609 /\ k_ ≠ gb639 /\ k_ ≠ gb679 /\ k_ ≠ gb707) v713 y712):=⟨h1_⟩
            have n2_ : Zz (Kd.N kOp 34 w145 w.heap.size (fun k_ => some k_ ≠ (v710 : Value).ownBlock /\ some k_ ≠ (v713 : Value).ownBlock /\ some k_ ≠ (.slice Ao48 t615.length co48 : Value).ownBlock /\ k_ ≠ gb609 /\ k_ ≠ gb639 /\ k_ ≠ gb679 /\ k_ ≠ gb707) (.slice Ao96 y687.length co96) y687):=⟨h2_⟩
            have n3_ : Zz (Kd.R (Kd.int .i32) 21 w145 w.heap.size (fun _ => True) (.slice Ao48 t615.length co48) t615):=⟨h3_⟩
            have n4_ : Zz (w145.heap[gb609]? = some (.cells #[.slice (some ad611) l0_0.length c0_0, .slice A0_1 l0_1.length c0_1, .slice A0_2 l0_2.length c0_2, .slice A0_3 l0_3.length c0_3] 27 (0,0))):=⟨h4_⟩
            have n5_ : Zz (w145.heap[gb639]? = some (.cells #[.int .i64 t625, .int .i64 t626, .int .i64 t627, .int .i64 t628, .int .i64 t629, .int .i64 t630, .string t631, .slice Ao56 t632.length co56, .int .i64 t635, .int .i64 t636, .int .i64 t637] 34 (0,0))):=⟨h5_⟩
            have n6_ : Zz (w145.heap[gb679]? = some (.cells #[.int .i64 t665, .int .i64 t666, .int .i64 t667, .int .i64 t668, .int .i64 t669, .int .i64 t670, .string t671, .slice Ao87 t672.length co87, .int .i64 t675, .int .i64 t676, .int .i64 t677] 34 (0,0))):=⟨h6_⟩
            have n7_ : Zz (w145.heap[gb707]? = some (.cells #[.int .i64 t693, .int .i64 t694, .int .i64 t695, .int .i64 t696, .int .i64 t697, .int .i64 t698, .string t699, .slice Ao139 t700.length co139, .int .i64 t703, .int .i64 t704, .int .i64 t705] 34 (0,0))):=⟨h7_⟩
            have n8_ : Zz (Below w.heap.size w w145):=⟨h8_⟩
            clear HO_7
            clear HO_22
            clear HO702
            clear BK609
            clear BK639
            clear BK679
            clear BK707
            clear HB
            clear h0_ h1_ h2_ h3_ h4_ h5_ h6_ h7_ h8_
            have HO711:=n0_
            have HO714:=n1_
            have HO_22:=n2_
            have HO_7:=n3_
            have BK609:=n4_
            have BK639:=n5_
            have BK679:=n6_
            have BK707:=n7_
            have HB:=n8_
            clear n0_ n1_ n2_ n3_ n4_ n5_ n6_ n7_ n8_
            have hHeld : w145.cell? ⟨gb707,0,none⟩ = some (.int .i64 t693) /\ w145.cell? ⟨gb707,1,none⟩ = some (.int .i64 t694) /\ w145.cell? ⟨gb707,2,none⟩ = some (.int .i64 t695) /\ w145.cell? ⟨gb707,3,none⟩ = some (.int .i64 t696) /\ w145.cell? ⟨gb707,4,none⟩ = some (.int .i64 t697) /\ w145.cell? ⟨gb707,5,none⟩ = some (.int .i64 t698) /\ w145.cell? ⟨gb707,6,none⟩ = some (.string t699) /\ w145.cell? ⟨gb707,7,none⟩ = some (.slice Ao139 t700.length co139) /\ w145.cell? ⟨gb707,8,none⟩ = some (.int .i64 t703) /\ w145.cell? ⟨gb707,9,none⟩ = some (.int .i64 t704) /\ w145.cell? ⟨gb707,10,none⟩ = some (.int .i64 t705):=hS_
            obtain ⟨Ao147,co147,eo147⟩:=Kd.N_slice HO714.out
            (first | subst eo147 | (injection eo147 with f1_ f2_ f3_; have f4_:=f1_.symm; have f5_:=f3_.symm; clear f1_ f2_ f3_; subst f4_; subst f5_))
            refine norm_ (a' := ?_) ?_ ?_
            rotate_left
            ·simp only [putAll,Act.put,List.setIfInBounds_toArray,List.set_cons_zero,List.set_cons_succ]
             rfl
            refine on HT_ 4 (some 189) 31 (h:=fun K hK => ?_)
            refine Kd.N_append_rows_step kOp (w0:=w) w.heap.size (by rfl) (.tmp 186) (.tmp 188) 24 34 (.agg #[(.int .i64 0),(.int .i64 0),(.int .i64 0),(.int .i64 0),(.int .i64 0),(.int .i64 0),(.string ⟨#[]⟩),(.slice none 0 0),(.int .i64 0),(.int .i64 0),(.int .i64 0)]) 112 rfl Tryz.underlying24 info34 rfl (by decide) (by omega) v710 t709 y712 _ _ _ (fun k_ => some k_ ≠ (.slice Ao48 t615.length co48 : Value).ownBlock /\ some k_ ≠ (.slice Ao96 y687.length co96 : Value).ownBlock /\ k_ ≠ gb609 /\ k_ ≠ gb639 /\ k_ ≠ gb679 /\ k_ ≠ gb707) (fun k_ => ((fun k_ => some k_ ≠ (.slice Ao48 t615.length co48 : Value).ownBlock /\ some k_ ≠ (.slice Ao96 y687.length co96 : Value).ownBlock /\ k_ ≠ gb609 /\ k_ ≠ gb639 /\ k_ ≠ gb679 /\ k_ ≠ gb707)) k_ /\ some k_ ≠ (v710 : Value).ownBlock) rfl rfl ?aO ?aR (fun _ hk => hk) ?aF ?aB ?aS ?aL ?_
            (case aR => exact (by skip; exact Kd.N_F (Kd.N_mono (ok':=(fun k_ => ((fun k_ => some k_ ≠ (.slice Ao48 t615.length co48 : Value).ownBlock /\ some k_ ≠ (.slice Ao96 y687.length co96 : Value).ownBlock /\ k_ ≠ gb609 /\ k_ ≠ gb639 /\ k_ ≠ gb679 /\ k_ ≠ gb707)) k_ /\ some k_ ≠ (v710 : Value).ownBlock)) (HO714.out) (fun k_ hk => ⟨⟨hk.2.2.1,⟨hk.2.1,⟨hk.2.2.2.1,⟨hk.2.2.2.2.1,⟨hk.2.2.2.2.2.1,hk.2.2.2.2.2.2⟩⟩⟩⟩⟩,hk.1⟩))))
            (case aB => exact (bw HB))
            (case aF => exact (fun k_ hk => ⟨Kd.fresh' (Kd.R_lt (rk HO_7)) k_ hk,Kd.fresh' (Kd.N_lt (nk HO_22)) k_ hk,Kd.freshB (kk BK609) k_ hk,Kd.freshB (kk BK639) k_ hk,Kd.freshB (kk BK679) k_ hk,Kd.freshB (kk BK707) k_ hk⟩))
            (case aO => exact (by (with_reducible repeat (first | apply Kd.N_alloc | apply Kd.N_drewN | apply Kd.N_drew)); exact Kd.N_mono HO711.out (fun _ hk => ⟨hk.2.2.1,⟨hk.2.1,⟨hk.2.2.2.1,⟨hk.2.2.2.2.1,⟨hk.2.2.2.2.2.1,hk.2.2.2.2.2.2⟩⟩⟩⟩⟩)))
            (case aS => exact (Qag (bw HB)))
            (case aL => have:=LMc105.out; omega)
            intro v716 w146 ho hb hg hat
            rw [<- Ny715.out] at ho
            have n0_:=Zz.k (Kd.R_over' (rk HO_7) (Kd.N_typed (nk HO711)) (by decide) hg)
            have n1_:=Zz.k (Kd.N_afterv (ok:=(fun k_ => some k_ ≠ (.slice Ao48 t615.length co48 : Value).ownBlock /\ some k_ ≠ (.slice Ao147 y712.length co147 : Value).ownBlock /\ k_ ≠ gb609 /\ k_ ≠ gb639 /\ k_ ≠ gb679 /\ k_ ≠ gb707)) (by (with_reducible repeat (first | apply Kd.N_alloc | apply Kd.N_drewN | apply Kd.N_drew)); exact Kd.N_mono HO_22.out (fun _ hk => ⟨⟨hk.2.2.1,⟨hk.2.1,⟨hk.2.2.2.1,⟨hk.2.2.2.2.1,⟨hk.2.2.2.2.2.1,hk.2.2.2.2.2.2⟩⟩⟩⟩⟩,hk.1⟩)) hg hat)
            have n2_:=Zz.k (Qbc (kk BK609) hg (Kd.N_ne HO711.out BK609.out (by decide)))
            have n3_:=Zz.k (Qbc (kk BK639) hg (Kd.N_away HO711.out (fun _ hk => hk.2.2.2.2.1)))
            have n4_:=Zz.k (Qbc (kk BK679) hg (Kd.N_away HO711.out (fun _ hk => hk.2.2.2.2.2.1)))
            have n5_:=Zz.k (Qbc (kk BK707) hg (Kd.N_away HO711.out (fun _ hk => hk.2.2.2.2.2.2)))
            have n6_:=Zz.k (Kd.N_afterv (ok:=(fun k_ => some k_ ≠ (.slice Ao48 t615.length co48 : Value).ownBlock /\ some k_ ≠ (.slice Ao96 y687.length co96 : Value).ownBlock /\ k_ ≠ gb609 /\ k_ ≠ gb639 /\ k_ ≠ gb679 /\ k_ ≠ gb707)) (by (with_reducible repeat (first | apply Kd.N_alloc | apply Kd.N_drewN | apply Kd.N_drew)); exact Kd.N_mono HO714.out (fun _ hk => ⟨⟨hk.2.2.1,⟨hk.2.1,⟨hk.2.2.2.1,⟨hk.2.2.2.2.1,⟨hk.2.2.2.2.2.1,hk.2.2.2.2.2.2⟩⟩⟩⟩⟩,hk.1⟩)) hg hat)
            have n7_:=Zz.k (hb)
            have n8_:=Zz.k (ho)
            clear HO_7
            clear HO_22
            clear BK609
            clear BK639
            clear BK679
            clear BK707
            clear HO714
            clear HB
            clear HO711
            have HO_7:=n0_
            have HO_22:=n1_
            have BK609:=n2_
            have BK639:=n3_
            have BK679:=n4_
            have BK707:=n5_
            have HO714:=n6_
            have HB:=n7_
            have HO717:=n8_
            clear n0_ n1_ n2_ n3_ n4_ n5_ n6_ n7_ n8_
            clear ho hb hg hat
            obtain ⟨Ao148,co148,eo148⟩:=Kd.N_slice HO717.out
            (first | subst eo148 | (injection eo148 with f1_ f2_ f3_; have f4_:=f1_.symm; have f5_:=f3_.symm; clear f1_ f2_ f3_; subst f4_; subst f5_))
            refine hK.out _ _ (e11 BK707) (fun hHeld => ?_)
            clear hK K
            refine nn 189 (h := ?_)
            refine on HT_ 5 (some 190) 63 (h:=fun K hK => ?_)
            refine gS Tryz.func17 #[.slice Ao148 y715.length co148] (h := ?_)
            with_reducible refine (doc_Text.calls _ _ y715 t718 t719 _ ?side1 ?side2 A106.out).mono ?_
            (case side1 => exact cn HO717)
            (case side2 => exact (Kd.N_reads' HO717.out).2.1)
            rintro e w149 ⟨rfl,hb⟩
            refine ⟨_,rfl, ?_⟩
            have n0_:=rb HO_7 hb
            have n1_:=nb HO_22 hb
            have n2_:=nb HO714 hb
            have n3_:=nb HO717 hb
            have n4_:=bl BK609 hb
            have n5_:=bl BK639 hb
            have n6_:=bl BK679 hb
            have n7_:=bl BK707 hb
            have n8_:=bs HB hb
            clear HO_7
            clear HO_22
            clear HO714
            clear HO717
            clear BK609
            clear BK639
            clear BK679
            clear BK707
            clear HB
            have HO_7:=n0_
            have HO_22:=n1_
            have HO714:=n2_
            have HO717:=n3_
            have BK609:=n4_
            have BK639:=n5_
            have BK679:=n6_
            have BK707:=n7_
            have HB:=n8_
            clear n0_ n1_ n2_ n3_ n4_ n5_ n6_ n7_ n8_
            (try clear hb)
            (try clear hb2)
            (try clear hk)
            (try clear hi)
            refine hK.out _ _ (e11 BK707) (fun hHeld => ?_)
            clear hK K
            refine nn 190 (h := ?_)
            refine pu HT_ 6 184 127 (h := ?_)
            refine pu HT_ 7 191 255 (h := ?_)
            refine pu HT_ 8 192 511 (h := ?_)
            refine pu HT_ 9 27 1023 (h := ?_)
            refine pu HT_ 10 28 2047 (h := ?_)
            refine dn HT_ (h := ?_)
            try go_wp2_with (first | ((with_reducible refine Qaa (f:=11) rfl ?_); refine gl (some 194) Tryz.func11 #[.int .i64 t719] (h := ?_); (with_reducible refine (w7_num.calls t719 t720 _ A107.out).mono ?_); rintro e w' ⟨rfl,⟨nd,rfl⟩⟩; refine ⟨_,rfl, ?_⟩))
            go_ret
            exact ⟨by first | rfl | (simp [Qbg,Qbf] <;> rfl) | (simp only [<- hji28,<- hji41]; first | rfl | (simp [Qbg,Qbf] <;> rfl)) | (simp [*,Qbg,Qbf] <;> rfl),bw HB⟩
           show (let G_ : Prop:=_; G_)
           intro G_
           exact (let_tmp i_ : Nonempty G_:=(((⟨by
           subst G_
           rw [if_pos c109] at H
           obtain ⟨c109b0,c109b1⟩:=bT c109
           clear c109
           have H':=Zz.k H
           clear H
           have hnb110:=NB639_609.out
           have hnc110:=NB609_639.out
           have hnb111:=NB639_679.out
           have hnc111:=NB679_639.out
           obtain ⟨_,_,_,_,_,_,_,_,_,_,_,_,_,_,_,_,_,_,_,_,_,_⟩:=kc11 BK639
           try go_wp2_with (first | ((with_reducible refine Qaa (f:=22) rfl ?_); refine gl (some 178) Tryz.func22 #[.slice Ao96 y687.length co96, .int .i64 (wrap64 (1 + (Int.tmod (wrap64 (x9_3 + 1)) 3))), .int .i64 t625, .int .i64 t626] (h := ?_); (with_reducible refine (edit_Toggle.calls _ _ y687 (wrap64 (1 + (Int.tmod (wrap64 (x9_3 + 1)) 3))) t625 t626 t693 t694 t695 t696 t697 t698 t699 t700 t703 t704 t705 t706 _ ?side1 ?side2 A101.out).mono ?_); (case side1 => exact cn HO_22); (case side2 => exact (Kd.N_reads' HO_22.out).2.1); rintro e w113 ⟨v701,rfl,ho0,hb⟩; refine ⟨_,rfl, ?_⟩; have HO702:=Zz.k (Kd.R_lower ho0 (Qag (bw HB))); replace HO_7:=rb HO_7 hb; replace HO_22:=Zz.k (Kd.N_elder' (nk HO_22) (Kd.R_base ho0) hb); replace BK609:=bl BK609 hb; replace BK639:=bl BK639 hb; replace BK679:=bl BK679 hb; replace HB:=bs HB hb; clear hb; clear ho0) | ((with_reducible refine Qad (N:=25) rfl ?_); refine bx 25 #[.int .i64 0, .int .i64 0, .int .i64 0, .int .i64 0, .int .i64 0, .int .i64 0, .string (⟨#[]⟩ : ByteArray), .slice none 0 0, .int .i64 0, .int .i64 0, .int .i64 0] 34 (h := ?_); intro gb707 hg w114 hbox hb; have BK707:=Zz.k (hbox); have GW707:=bz HB hg; have GE707:=bz HB hg; have NB609_707:=bn BK609 hg; have NB707_609:=bm BK609 hg; have NB639_707:=bn BK639 hg; have NB707_639:=bm BK639 hg; have NB679_707:=bn BK679 hg; have NB707_679:=bm BK679 hg; replace HO_7:=rb HO_7 hb; replace HO_22:=Zz.k (Kd.N_below (Kd.N_elderB (nk HO_22) gb707 (Nat.le_of_eq hg.symm)) hb); replace HO702:=rb HO702 hb; replace BK609:=bl BK609 hb; replace BK639:=bl BK639 hb; replace BK679:=bl BK679 hb; replace HB:=bs HB hb; clear hb hbox hg; have hnb115:=NB707_609.out; have hnc115:=NB609_707.out; have hnb116:=NB707_639.out; have hnc116:=NB639_707.out; have hnb117:=NB707_679.out; have hnc117:=NB679_707.out; obtain ⟨_,_,_,_,_,_,_,_,_,_,_,_,_,_,_,_,_,_,_,_,_,_⟩:=kc11 BK707; obtain ⟨Ao119,co119,eo119⟩:=Kd.R_slice HO702.out; subst eo119) | ((with_reducible refine Qaa (f:=11) rfl ?_); refine gl (some 182) Tryz.func11 #[.int .i64 t706] (h := ?_); (with_reducible refine (w7_num.calls t706 t708 _ A102.out).mono ?_); rintro e w' ⟨rfl,⟨nd,rfl⟩⟩; refine ⟨_,rfl, ?_⟩))
           generalize hgz : (((((((((((w114.setCell ⟨gb707,0,none⟩ (.int .i64 t693)).setCell ⟨gb707,1,none⟩ (.int .i64 t694)).setCell ⟨gb707,2,none⟩ (.int .i64 t695)).setCell ⟨gb707,3,none⟩ (.int .i64 t696)).setCell ⟨gb707,4,none⟩ (.int .i64 t697)).setCell ⟨gb707,5,none⟩ (.int .i64 t698)).setCell ⟨gb707,6,none⟩ (.string t699)).setCell ⟨gb707,7,none⟩ (.slice Ao119 t700.length co119)).setCell ⟨gb707,8,none⟩ (.int .i64 t703)).setCell ⟨gb707,9,none⟩ (.int .i64 t704)).setCell ⟨gb707,10,none⟩ (.int .i64 t705)) = w120
           have n0_ : Zz (Kd.R (Kd.int .i32) 21 w120 w.heap.size (fun _ => True) (.slice Ao48 t615.length co48) t615):=by rw [<- hgz]; exact ⟨by (with_reducible repeat (first | apply Kd.R_alloc | apply Kd.R_drewN | apply Kd.R_drew)); exact Kd.R_mono (rf11 (Kd.R_types HO_7.out BK707.out (by decide))) (fun _ hk => trivial)⟩
           have n1_ : Zz (Kd.N kOp 34 w120 w.heap.size (fun k_ => some k_ ≠ (.slice Ao48 t615.length co48 : Value).ownBlock /\ some k_ ≠ (.slice Ao119 t700.length co119 : Value).ownBlock /\ k_ ≠ gb609 /\ k_ ≠ gb639 /\ k_ ≠ gb679 /\ k_ ≠ gb707) (.slice Ao96 y687.length co96) y687):=by rw [<- hgz]; exact ⟨by (with_reducible repeat (first | apply Kd.N_alloc | apply Kd.N_drewN | apply Kd.N_drew)); exact Kd.N_mono (Kd.N_far (p:=⟨gb707,10,none⟩) (Kd.N_far (p:=⟨gb707,9,none⟩) (Kd.N_far (p:=⟨gb707,8,none⟩) (Kd.N_far (p:=⟨gb707,7,none⟩) (Kd.N_far (p:=⟨gb707,6,none⟩) (Kd.N_far (p:=⟨gb707,5,none⟩) (Kd.N_far (p:=⟨gb707,4,none⟩) (Kd.N_far (p:=⟨gb707,3,none⟩) (Kd.N_far (p:=⟨gb707,2,none⟩) (Kd.N_far (p:=⟨gb707,1,none⟩) (Kd.N_far (p:=⟨gb707,0,none⟩) (Kd.N_mono HO_22.out (fun k_ hk => (⟨hk,hk.2⟩ : _ /\ k_ ≠ gb707))) (fun _ hk => hk.2) (.int .i64 t693)) (fun _ hk => hk.2) (.int .i64 t694)) (fun _ hk => hk.2) (.int .i64 t695)) (fun _ hk => hk.2) (.int .i64 t696)) (fun _ hk => hk.2) (.int .i64 t697)) (fun _ hk => hk.2) (.int .i64 t698)) (fun _ hk => hk.2) (.string t699)) (fun _ hk => hk.2) (.slice Ao119 t700.length co119)) (fun _ hk => hk.2) (.int .i64 t703)) (fun _ hk => hk.2) (.int .i64 t704)) (fun _ hk => hk.2) (.int .i64 t705)) (fun _ hk => ⟨hk.1.1.1.1,⟨hk.1.1.2,⟨hk.1.1.1.2.1,⟨hk.1.1.1.2.2.1,⟨hk.1.1.1.2.2.2,hk.1.2⟩⟩⟩⟩⟩)⟩
           have n2_ : Zz (Kd.R Qav 32 w120 w.heap.size (fun _ => True) (.slice Ao119 t700.length co119) t700):=by rw [<- hgz]; exact ⟨by (with_reducible repeat (first | apply Kd.R_alloc | apply Kd.R_drewN | apply Kd.R_drew)); exact Kd.R_mono (rf11 (Kd.R_types HO702.out BK707.out (by decide))) (fun _ hk => trivial)⟩
           have n3_ : Zz (w120.heap[gb609]? = some (.cells #[.slice (some ad611) l0_0.length c0_0, .slice A0_1 l0_1.length c0_1, .slice A0_2 l0_2.length c0_2, .slice A0_3 l0_3.length c0_3] 27 (0,0))):=by rw [<- hgz]; exact ⟨kk BK609⟩
           have n4_ : Zz (w120.heap[gb639]? = some (.cells #[.int .i64 t625, .int .i64 t626, .int .i64 t627, .int .i64 t628, .int .i64 t629, .int .i64 t630, .string t631, .slice Ao56 t632.length co56, .int .i64 t635, .int .i64 t636, .int .i64 t637] 34 (0,0))):=by rw [<- hgz]; exact ⟨kk BK639⟩
           have n5_ : Zz (w120.heap[gb679]? = some (.cells #[.int .i64 t665, .int .i64 t666, .int .i64 t667, .int .i64 t668, .int .i64 t669, .int .i64 t670, .string t671, .slice Ao87 t672.length co87, .int .i64 t675, .int .i64 t676, .int .i64 t677] 34 (0,0))):=by rw [<- hgz]; exact ⟨kk BK679⟩
           have n6_ : Zz (w120.heap[gb707]? = some (.cells #[.int .i64 t693, .int .i64 t694, .int .i64 t695, .int .i64 t696, .int .i64 t697, .int .i64 t698, .string t699, .slice Ao119 t700.length co119, .int .i64 t703, .int .i64 t704, .int .i64 t705] 34 (0,0))):=by rw [<- hgz]; exact ⟨bp11 (kk BK707)⟩
           have n7_ : Zz (Below w.heap.size w w120):=by rw [<- hgz]; exact ⟨bw HB⟩
           (try clear HO_7)
           (try clear HO_22)
           (try clear HO702)
           (try clear BK609)
           (try clear BK639)
           (try clear BK679)
           (try clear BK707)
           (try clear HB)
           clear hgz
           have HO_7:=n0_
           have HO_22:=n1_
           have HO702:=n2_
           have BK609:=n3_
           have BK639:=n4_
           have BK679:=n5_
           have BK707:=n6_
           have HB:=n7_
           clear n0_ n1_ n2_ n3_ n4_ n5_ n6_ n7_
           (try (rw [Qbm w120]; generalize hq_ : World.drewN w120 _ = w120; have n0_ : Zz (Kd.R Qav 32 w120 w.heap.size (fun _ => True) (.slice Ao119 t700.length co119) t700):=⟨by rw [<- hq_]; exact (rk HO702)⟩; have n1_ : Zz (Kd.N kOp 34 w120 w.heap.size (fun k_ => some k_ ≠ (.slice Ao119 t700.length co119 : Value).ownBlock /\ some k_ ≠ (.slice Ao48 t615.length co48 : Value).ownBlock /\ k_ ≠ gb609 /\ k_ ≠ gb639 /\ k_ ≠ gb679 /\ k_ ≠ gb707) (.slice Ao96 y687.length co96) y687):=⟨by rw [<- hq_]; exact (by (with_reducible repeat (first | apply Kd.N_alloc | apply Kd.N_drewN | apply Kd.N_drew)); exact Kd.N_mono HO_22.out (fun _ hk => ⟨hk.2.1,⟨hk.1,⟨hk.2.2.1,⟨hk.2.2.2.1,⟨hk.2.2.2.2.1,hk.2.2.2.2.2⟩⟩⟩⟩⟩))⟩; have n2_ : Zz (Kd.R (Kd.int .i32) 21 w120 w.heap.size (fun _ => True) (.slice Ao48 t615.length co48) t615):=⟨by rw [<- hq_]; exact (rk HO_7)⟩; have n3_ : Zz (w120.heap[gb609]? = some (.cells #[.slice (some ad611) l0_0.length c0_0, .slice A0_1 l0_1.length c0_1, .slice A0_2 l0_2.length c0_2, .slice A0_3 l0_3.length c0_3] 27 (0,0))):=⟨by rw [<- hq_]; exact (kk BK609)⟩; have n4_ : Zz (w120.heap[gb639]? = some (.cells #[.int .i64 t625, .int .i64 t626, .int .i64 t627, .int .i64 t628, .int .i64 t629, .int .i64 t630, .string t631, .slice Ao56 t632.length co56, .int .i64 t635, .int .i64 t636, .int .i64 t637] 34 (0,0))):=⟨by rw [<- hq_]; exact (kk BK639)⟩; have n5_ : Zz (w120.heap[gb679]? = some (.cells #[.int .i64 t665, .int .i64 t666, .int .i64 t667, .int .i64 t668, .int .i64 t669, .int .i64 t670, .string t671, .slice Ao87 t672.length co87, .int .i64 t675, .int .i64 t676, .int .i64 t677] 34 (0,0))):=⟨by rw [<- hq_]; exact (kk BK679)⟩; have n6_ : Zz (w120.heap[gb707]? = some (.cells #[.int .i64 t693, .int .i64 t694, .int .i64 t695, .int .i64 t696, .int .i64 t697, .int .i64 t698, .string t699, .slice Ao119 t700.length co119, .int .i64 t703, .int .i64 t704, .int .i64 t705] 34 (0,0))):=⟨by rw [<- hq_]; exact (kk BK707)⟩; have n7_ : Zz (Below w.heap.size w w120):=⟨by rw [<- hq_]; exact (bw HB)⟩; clear HO702 HO_22 HO_7 BK609 BK639 BK679 BK707 HB hq_; have HO702:=n0_; have HO_22:=n1_; have HO_7:=n2_; have BK609:=n3_; have BK639:=n4_; have BK679:=n5_; have BK707:=n6_; have HB:=n7_; clear n0_ n1_ n2_ n3_ n4_ n5_ n6_ n7_))
           have n0_:=Zz.k (Kd.R_drew HO_7.out)
           have n1_:=Zz.k (Kd.N_drew HO_22.out)
           have n2_:=Zz.k (Kd.R_drew HO702.out)
           have n3_:=Zz.k (Qam BK609.out)
           have n4_:=Zz.k (Qam BK639.out)
           have n5_:=Zz.k (Qam BK679.out)
           have n6_:=Zz.k (Qam BK707.out)
           have n7_:=Zz.k (Qae HB.out)
           clear HO_7
           clear HO_22
           clear HO702
           clear BK609
           clear BK639
           clear BK679
           clear BK707
           clear HB
           have HO_7:=n0_
           have HO_22:=n1_
           have HO702:=n2_
           have BK609:=n3_
           have BK639:=n4_
           have BK679:=n5_
           have BK707:=n6_
           have HB:=n7_
           clear n0_ n1_ n2_ n3_ n4_ n5_ n6_ n7_
           refine stP (fun w' => E11 w' gb707 (.int .i64 t693) (.int .i64 t694) (.int .i64 t695) (.int .i64 t696) (.int .i64 t697) (.int .i64 t698) (.string t699) (.slice Ao119 t700.length co119) (.int .i64 t703) (.int .i64 t704) (.int .i64 t705)) 11 (e11 BK707) (h:=fun hHeld => ?_); refine Qax w7_EditLands.tab34 w7_EditLands.bits34 (fun HT_ HW_ => ?_)
           generalize w120.drew = w121 at HO_7 HO_22 HO702 BK609 BK639 BK679 BK707 HB hHeld ⊢
           refine pu HT_ 0 185 1 (h := ?_)
           refine tk HT_ HW_ hHeld 2 187 5 (h := ?_)
           refine join_ (σ:=Value × Value) 7 (bA 11 15) (fun s_ => [(186,s_.1),(188,s_.2)]) (fun s_ w' => (w'.cell? ⟨gb707,0,none⟩ = some (.int .i64 t693) /\ w'.cell? ⟨gb707,1,none⟩ = some (.int .i64 t694) /\ w'.cell? ⟨gb707,2,none⟩ = some (.int .i64 t695) /\ w'.cell? ⟨gb707,3,none⟩ = some (.int .i64 t696) /\ w'.cell? ⟨gb707,4,none⟩ = some (.int .i64 t697) /\ w'.cell? ⟨gb707,5,none⟩ = some (.int .i64 t698) /\ w'.cell? ⟨gb707,6,none⟩ = some (.string t699) /\ w'.cell? ⟨gb707,7,none⟩ = some (.slice Ao119 t700.length co119) /\ w'.cell? ⟨gb707,8,none⟩ = some (.int .i64 t703) /\ w'.cell? ⟨gb707,9,none⟩ = some (.int .i64 t704) /\ w'.cell? ⟨gb707,10,none⟩ = some (.int .i64 t705)) /\ (Kd.N kOp 34 w' w.heap.size (fun k_ => some k_ ≠ (s_.2 : Value).ownBlock /\ some k_ ≠ (.slice Ao96 y687.length co96 : Value).ownBlock /\ some k_ ≠ (.slice Ao48 t615.length co48 : Value).ownBlock /\ k_ ≠ gb609 /\ k_ ≠ gb639 /\ k_ ≠ gb679 /\ k_ ≠ gb707) s_.1 t709) /\ (Kd.N kOp 34 w' w.heap.size (fun k_ => some k_ ≠ (s_.1 : Value).ownBlock /\ some k_ ≠ (.slice Ao96 y687.length co96 : Value).ownBlock /\ some k_ ≠ (.slice Ao48 t615.length co48 : Value).ownBlock /\ k_ ≠ gb609 /\ k_ ≠ gb639 /\ k_ ≠ gb679 /\ k_ ≠ gb707) s_.2 y712) /\ (Kd.N kOp 34 w' w.heap.size (fun k_ => some k_ ≠ (s_.1 : Value).ownBlock /\ some k_ ≠ (s_.2 : Value).ownBlock /\ some k_ ≠ (.slice Ao48 t615.length co48 : Value).ownBlock /\ k_ ≠ gb609 /\ k_ ≠ gb639 /\ k_ ≠ gb679 /\ k_ ≠ gb707) (.slice Ao96 y687.length co96) y687) /\ (Kd.R (Kd.int .i32) 21 w' w.heap.size (fun _ => True) (.slice Ao48 t615.length co48) t615) /\ (w'.heap[gb609]? = some (.cells #[.slice (some ad611) l0_0.length c0_0, .slice A0_1 l0_1.length c0_1, .slice A0_2 l0_2.length c0_2, .slice A0_3 l0_3.length c0_3] 27 (0,0))) /\ (w'.heap[gb639]? = some (.cells #[.int .i64 t625, .int .i64 t626, .int .i64 t627, .int .i64 t628, .int .i64 t629, .int .i64 t630, .string t631, .slice Ao56 t632.length co56, .int .i64 t635, .int .i64 t636, .int .i64 t637] 34 (0,0))) /\ (w'.heap[gb679]? = some (.cells #[.int .i64 t665, .int .i64 t666, .int .i64 t667, .int .i64 t668, .int .i64 t669, .int .i64 t670, .string t671, .slice Ao87 t672.length co87, .int .i64 t675, .int .i64 t676, .int .i64 t677] 34 (0,0))) /\ (w'.heap[gb707]? = some (.cells #[.int .i64 t693, .int .i64 t694, .int .i64 t695, .int .i64 t696, .int .i64 t697, .int .i64 t698, .string t699, .slice Ao119 t700.length co119, .int .i64 t703, .int .i64 t704, .int .i64 t705] 34 (0,0))) /\ (Below w.heap.size w w')) ?_ ?_
           rotate_left
           ·show (let G_ : Prop:=_; G_)
            intro G_
            exact (let_tmp i_ : Nonempty G_:=(((⟨by
            subst G_
            intro hCont
            refine two_ (i:=1) (j:=3) (Ni:=some 186) (Nj:=some 188) (bA 11 7) (bA 11 13) rfl rfl rfl rfl (two_of HT_.out (by kernel_rfl)) (by decide) (by decide) (fun K hK => ?_) (fun K hK => ?_)
            ·show (let G_ : Prop:=_; G_)
             intro G_
             exact (let_tmp i_ : Nonempty G_:=(((⟨by
             subst G_
             skip
             refine gS Tryz.func20 #[.slice Ao96 y687.length co96] (h := ?_)
             with_reducible refine (r0_CopyOps.calls kj78 _ _ y687 t709 _ ?side1 ?side2 A104.out).mono ?_
             (case side1 => exact cn HO_22)
             (case side2 => exact (Kd.N_reads' HO_22.out).2.1)
             rintro e w122 ⟨v710,rfl,ho0,hb⟩
             refine ⟨_,rfl, ?_⟩
             have n0_:=rb HO_7 hb
             have n1_:=Zz.k (Kd.N_elder' (nk HO_22) (Kd.N_base (Kd.S_N ho0)) hb)
             have n2_:=rb HO702 hb
             have n3_:=Zz.k (Kd.N_lower (Kd.N_mono (ok':=fun k_ => some k_ ≠ (.slice Ao48 t615.length co48 : Value).ownBlock /\ some k_ ≠ (.slice Ao96 y687.length co96 : Value).ownBlock /\ some k_ ≠ (.slice Ao119 t700.length co119 : Value).ownBlock /\ k_ ≠ gb609 /\ k_ ≠ gb639 /\ k_ ≠ gb679 /\ k_ ≠ gb707) (Kd.S_N (Kd.S_bound ho0)) (fun k_ hk_ => ⟨(Kd.fresh' (Kd.R_lt (rk HO_7)) k_ hk_.2.1),(Kd.fresh' (Kd.N_lt (nk HO_22)) k_ hk_.2.1),(Kd.fresh' (Kd.R_lt (rk HO702)) k_ hk_.2.1),(Kd.freshB (kk BK609) k_ hk_.2.1),(Kd.freshB (kk BK639) k_ hk_.2.1),(Kd.freshB (kk BK679) k_ hk_.2.1),(Kd.freshB (kk BK707) k_ hk_.2.1)⟩)) (Qag (bw HB)))
             have n4_:=bl BK609 hb
             have n5_:=bl BK639 hb
             have n6_:=bl BK679 hb
             have n7_:=bl BK707 hb
             have n8_:=bs HB hb
             clear HO_7
             clear HO_22
             clear HO702
             clear BK609
             clear BK639
             clear BK679
             clear BK707
             clear HB
             have HO_7:=n0_
             have HO_22:=n1_
             have HO702:=n2_
             have HO711:=n3_
             have BK609:=n4_
             have BK639:=n5_
             have BK679:=n6_
             have BK707:=n7_
             have HB:=n8_
             clear n0_ n1_ n2_ n3_ n4_ n5_ n6_ n7_ n8_
             (try clear hb)
             (try clear hb2)
             (try clear hk)
             (try clear hi)
             (try clear ho0)
             refine hK.out _ _ (e11 BK707) (fun hHeld => ?_)
             clear hK K
             refine nn 186 (h := ?_)
             refine on HT_ 3 (some 188) 15 (h:=fun K hK => ?_)
             refine Kd.N_lit_step kOp _ 34 ?hg (N':=188) ?hd (xs:=([(⟨t693,t694,t695,(⟨t696,t697,t698⟩ : SElem),t699,t700,t703,t704,t705⟩ : SOp)] : List (SOp))) (inner:=[.int .i64 t693, .int .i64 t694, .int .i64 t695, .int .i64 t696, .int .i64 t697, .int .i64 t698, .string t699, .slice Ao119 t700.length co119, .int .i64 t703, .int .i64 t704, .int .i64 t705]) (ok:=(fun k_ => some k_ ≠ (.slice Ao48 t615.length co48 : Value).ownBlock /\ some k_ ≠ (.slice Ao96 y687.length co96 : Value).ownBlock /\ some k_ ≠ (v710 : Value).ownBlock /\ k_ ≠ gb609 /\ k_ ≠ gb639 /\ k_ ≠ gb679 /\ k_ ≠ gb707)) (okp:=(fun k_ => some k_ ≠ (.slice Ao48 t615.length co48 : Value).ownBlock /\ some k_ ≠ (.slice Ao96 y687.length co96 : Value).ownBlock /\ some k_ ≠ (v710 : Value).ownBlock /\ k_ ≠ gb609 /\ k_ ≠ gb639 /\ k_ ≠ gb679 /\ k_ ≠ gb707)) ?hr ?hp (fun _ hk => hk) ((show ∀ k_,w122.heap.size <= k_ -> (fun k_ => some k_ ≠ (.slice Ao48 t615.length co48 : Value).ownBlock /\ some k_ ≠ (.slice Ao96 y687.length co96 : Value).ownBlock /\ some k_ ≠ (v710 : Value).ownBlock /\ k_ ≠ gb609 /\ k_ ≠ gb639 /\ k_ ≠ gb679 /\ k_ ≠ gb707) k_ from fun k_ hk => ⟨Kd.fresh' (Kd.R_lt (rk HO_7)) k_ hk,Kd.fresh' (Kd.N_lt (nk HO_22)) k_ hk,Kd.fresh' (Kd.N_lt (nk HO711)) k_ hk,Kd.freshB (kk BK609) k_ hk,Kd.freshB (kk BK639) k_ hk,Kd.freshB (kk BK679) k_ hk,Kd.freshB (kk BK707) k_ hk⟩) _ (Nat.le_refl _)) (Below.refl _ _) (Nat.le_refl _) (by simp) ?_; (case hd => rfl); (case hg => rfl); (case hr => first | (go_simp; done) | (go_simp; rfl)); (case hp => exact (Reps.front (show Kd.FK kOp _ _ (⟨t693,t694,t695,(⟨t696,t697,t698⟩ : SElem),t699,t700,t703,t704,t705⟩ : SOp) [.int .i64 t693, .int .i64 t694, .int .i64 t695, .int .i64 t696, .int .i64 t697, .int .i64 t698, .string t699, .slice Ao119 t700.length co119, .int .i64 t703, .int .i64 t704, .int .i64 t705] from (kOp_mkF _ _ (⟨t693,t694,t695,(⟨t696,t697,t698⟩ : SElem),t699,t700,t703,t704,t705⟩ : SOp) (Kd.R_reads' (Kd.R_mono (ok':=(fun k_ => some k_ ≠ (.slice Ao48 t615.length co48 : Value).ownBlock /\ some k_ ≠ (.slice Ao96 y687.length co96 : Value).ownBlock /\ some k_ ≠ (v710 : Value).ownBlock /\ k_ ≠ gb609 /\ k_ ≠ gb639 /\ k_ ≠ gb679 /\ k_ ≠ gb707)) (Kd.R_types (Kd.R_types (Kd.R_types (Kd.R_types (Kd.R_apart' (Kd.R_apart' (Kd.R_apart' (HO702.out) (Kd.R_typed HO_7.out) (by decide)) (Kd.N_typed HO_22.out) (by decide)) (Kd.N_typed HO711.out) (by decide)) BK609.out (by decide)) BK639.out (by decide)) BK679.out (by decide)) BK707.out (by decide)) (fun k_ hk => ⟨hk.1.1.1.1.1.1.2,⟨hk.1.1.1.1.1.2,⟨hk.1.1.1.1.2,⟨hk.1.1.1.2,⟨hk.1.1.2,⟨hk.1.2,hk.2⟩⟩⟩⟩⟩⟩))).2.1 (Kd.R_F (Kd.R_mono (ok':=(fun k_ => some k_ ≠ (.slice Ao48 t615.length co48 : Value).ownBlock /\ some k_ ≠ (.slice Ao96 y687.length co96 : Value).ownBlock /\ some k_ ≠ (v710 : Value).ownBlock /\ k_ ≠ gb609 /\ k_ ≠ gb639 /\ k_ ≠ gb679 /\ k_ ≠ gb707)) (Kd.R_types (Kd.R_types (Kd.R_types (Kd.R_types (Kd.R_apart' (Kd.R_apart' (Kd.R_apart' (HO702.out) (Kd.R_typed HO_7.out) (by decide)) (Kd.N_typed HO_22.out) (by decide)) (Kd.N_typed HO711.out) (by decide)) BK609.out (by decide)) BK639.out (by decide)) BK679.out (by decide)) BK707.out (by decide)) (fun k_ hk => ⟨hk.1.1.1.1.1.1.2,⟨hk.1.1.1.1.1.2,⟨hk.1.1.1.1.2,⟨hk.1.1.1.2,⟨hk.1.1.2,⟨hk.1.2,hk.2⟩⟩⟩⟩⟩⟩))))) rfl (Reps.none _ _) rfl))
             intro v713 w123 ho124 hb hg_ hnew_
             clear hg_ hnew_
             (first | rw [<- Ny712.out] at ho124 | (simp only [Int.reduceToNat] at ho124; rw [<- Ny712.out] at ho124))
             have n0_:=rb HO_7 hb
             have n1_:=Zz.k (Kd.N_elder' (nk HO_22) (Kd.N_base ho124) hb)
             have n2_:=Zz.k (Kd.N_elder' (nk HO711) (Kd.N_base ho124) hb)
             have n3_:=Zz.k (Kd.N_lower ho124 (Qag (bw HB)))
             have n4_:=bl BK609 hb
             have n5_:=bl BK639 hb
             have n6_:=bl BK679 hb
             have n7_:=bl BK707 hb
             have n8_:=bs HB hb
             clear HO_7
             clear HO_22
             clear HO711
             clear BK609
             clear BK639
             clear BK679
             clear BK707
             clear HB
             clear HO702
             have HO_7:=n0_
             have HO_22:=n1_
             have HO711:=n2_
             have HO714:=n3_
             have BK609:=n4_
             have BK639:=n5_
             have BK679:=n6_
             have BK707:=n7_
             have HB:=n8_
             clear n0_ n1_ n2_ n3_ n4_ n5_ n6_ n7_ n8_
             clear hb ho124
             refine hK.out _ _ (e11 BK707) (fun hHeld => ?_)
             clear hK K
             refine nn 188 (h := ?_)
             exact norm_ (by simp only [putAll,Act.put,List.setIfInBounds_toArray,List.set_cons_zero,List.set_cons_succ]) (hCont (v710,v713) _ ⟨hHeld,(by (with_reducible repeat (first | apply Kd.N_alloc | apply Kd.N_drewN | apply Kd.N_drew)); exact Kd.N_mono HO711.out (fun _ hk => ⟨hk.2,⟨hk.1.2.1,⟨hk.1.1,⟨hk.1.2.2.2.1,⟨hk.1.2.2.2.2.1,⟨hk.1.2.2.2.2.2.1,hk.1.2.2.2.2.2.2⟩⟩⟩⟩⟩⟩)),(by (with_reducible repeat (first | apply Kd.N_alloc | apply Kd.N_drewN | apply Kd.N_drew)); exact Kd.N_mono HO714.out (fun _ hk => ⟨hk.2.2.1,⟨hk.2.1,⟨hk.1,⟨hk.2.2.2.1,⟨hk.2.2.2.2.1,⟨hk.2.2.2.2.2.1,hk.2.2.2.2.2.2⟩⟩⟩⟩⟩⟩)),(by (with_reducible repeat (first | apply Kd.N_alloc | apply Kd.N_drewN | apply Kd.N_drew)); exact Kd.N_mono HO_22.out (fun _ hk => ⟨hk.1.2,⟨hk.2,⟨hk.1.1.2.1,⟨hk.1.1.2.2.1,⟨hk.1.1.2.2.2.1,⟨hk.1.1.2.2.2.2.1,hk.1.1.2.2.2.2.2⟩⟩⟩⟩⟩⟩)),(rk HO_7),(kk BK609),(kk BK639),(kk BK679),(kk BK707),(bw HB)⟩)⟩ : Nonempty G_)) :); w7_EditLands.bxo (G:=G_) (inferInstanceAs (Nonempty G_)))
            skip
            refine Kd.N_lit_step kOp _ 34 ?hg (N':=188) ?hd (xs:=([(⟨t693,t694,t695,(⟨t696,t697,t698⟩ : SElem),t699,t700,t703,t704,t705⟩ : SOp)] : List (SOp))) (inner:=[.int .i64 t693, .int .i64 t694, .int .i64 t695, .int .i64 t696, .int .i64 t697, .int .i64 t698, .string t699, .slice Ao119 t700.length co119, .int .i64 t703, .int .i64 t704, .int .i64 t705]) (ok:=(fun k_ => some k_ ≠ (.slice Ao48 t615.length co48 : Value).ownBlock /\ some k_ ≠ (.slice Ao96 y687.length co96 : Value).ownBlock /\ k_ ≠ gb609 /\ k_ ≠ gb639 /\ k_ ≠ gb679 /\ k_ ≠ gb707)) (okp:=(fun k_ => some k_ ≠ (.slice Ao48 t615.length co48 : Value).ownBlock /\ some k_ ≠ (.slice Ao96 y687.length co96 : Value).ownBlock /\ k_ ≠ gb609 /\ k_ ≠ gb639 /\ k_ ≠ gb679 /\ k_ ≠ gb707)) ?hr ?hp (fun _ hk => hk) ((show ∀ k_,w121.heap.size <= k_ -> (fun k_ => some k_ ≠ (.slice Ao48 t615.length co48 : Value).ownBlock /\ some k_ ≠ (.slice Ao96 y687.length co96 : Value).ownBlock /\ k_ ≠ gb609 /\ k_ ≠ gb639 /\ k_ ≠ gb679 /\ k_ ≠ gb707) k_ from fun k_ hk => ⟨Kd.fresh' (Kd.R_lt (rk HO_7)) k_ hk,Kd.fresh' (Kd.N_lt (nk HO_22)) k_ hk,Kd.freshB (kk BK609) k_ hk,Kd.freshB (kk BK639) k_ hk,Kd.freshB (kk BK679) k_ hk,Kd.freshB (kk BK707) k_ hk⟩) _ (Nat.le_refl _)) (Below.refl _ _) (Nat.le_refl _) (by simp) ?_; (case hd => rfl); (case hg => rfl); (case hr => first | (go_simp; done) | (go_simp; rfl)); (case hp => exact (Reps.front (show Kd.FK kOp _ _ (⟨t693,t694,t695,(⟨t696,t697,t698⟩ : SElem),t699,t700,t703,t704,t705⟩ : SOp) [.int .i64 t693, .int .i64 t694, .int .i64 t695, .int .i64 t696, .int .i64 t697, .int .i64 t698, .string t699, .slice Ao119 t700.length co119, .int .i64 t703, .int .i64 t704, .int .i64 t705] from (kOp_mkF _ _ (⟨t693,t694,t695,(⟨t696,t697,t698⟩ : SElem),t699,t700,t703,t704,t705⟩ : SOp) (Kd.R_reads' (Kd.R_mono (ok':=(fun k_ => some k_ ≠ (.slice Ao48 t615.length co48 : Value).ownBlock /\ some k_ ≠ (.slice Ao96 y687.length co96 : Value).ownBlock /\ k_ ≠ gb609 /\ k_ ≠ gb639 /\ k_ ≠ gb679 /\ k_ ≠ gb707)) (Kd.R_types (Kd.R_types (Kd.R_types (Kd.R_types (Kd.R_apart' (Kd.R_apart' (HO702.out) (Kd.R_typed HO_7.out) (by decide)) (Kd.N_typed HO_22.out) (by decide)) BK609.out (by decide)) BK639.out (by decide)) BK679.out (by decide)) BK707.out (by decide)) (fun k_ hk => ⟨hk.1.1.1.1.1.2,⟨hk.1.1.1.1.2,⟨hk.1.1.1.2,⟨hk.1.1.2,⟨hk.1.2,hk.2⟩⟩⟩⟩⟩))).2.1 (Kd.R_F (Kd.R_mono (ok':=(fun k_ => some k_ ≠ (.slice Ao48 t615.length co48 : Value).ownBlock /\ some k_ ≠ (.slice Ao96 y687.length co96 : Value).ownBlock /\ k_ ≠ gb609 /\ k_ ≠ gb639 /\ k_ ≠ gb679 /\ k_ ≠ gb707)) (Kd.R_types (Kd.R_types (Kd.R_types (Kd.R_types (Kd.R_apart' (Kd.R_apart' (HO702.out) (Kd.R_typed HO_7.out) (by decide)) (Kd.N_typed HO_22.out) (by decide)) BK609.out (by decide)) BK639.out (by decide)) BK679.out (by decide)) BK707.out (by decide)) (fun k_ hk => ⟨hk.1.1.1.1.1.2,⟨hk.1.1.1.1.2,⟨hk.1.1.1.2,⟨hk.1.1.2,⟨hk.1.2,hk.2⟩⟩⟩⟩⟩))))) rfl (Reps.none _ _) rfl))
            intro v713 w122 ho123 hb hg_ hnew_
            clear hg_ hnew_
            (first | rw [<- Ny712.out] at ho123 | (simp only [Int.reduceToNat] at ho123; rw [<- Ny712.out] at ho123))
            have n0_:=rb HO_7 hb
            have n1_:=Zz.k (Kd.N_elder' (nk HO_22) (Kd.N_base ho123) hb)
            have n2_:=Zz.k (Kd.N_lower ho123 (Qag (bw HB)))
            have n3_:=bl BK609 hb
            have n4_:=bl BK639 hb
            have n5_:=bl BK679 hb
            have n6_:=bl BK707 hb
            have n7_:=bs HB hb
            clear HO_7
            clear HO_22
            clear BK609
            clear BK639
            clear BK679
            clear BK707
            clear HB
            clear HO702
            have HO_7:=n0_
            have HO_22:=n1_
            have HO714:=n2_
            have BK609:=n3_
            have BK639:=n4_
            have BK679:=n5_
            have BK707:=n6_
            have HB:=n7_
            clear n0_ n1_ n2_ n3_ n4_ n5_ n6_ n7_
            clear hb ho123
            refine hK.out _ _ (e11 BK707) (fun hHeld => ?_)
            clear hK K
            refine nn 188 (h := ?_)
            refine on HT_ 1 (some 186) 15 (h:=fun K hK => ?_)
            refine gS Tryz.func20 #[.slice Ao96 y687.length co96] (h := ?_)
            with_reducible refine (r0_CopyOps.calls kj78 _ _ y687 t709 _ ?side1 ?side2 A104.out).mono ?_
            (case side1 => exact cn HO_22)
            (case side2 => exact (Kd.N_reads' HO_22.out).2.1)
            rintro e w124 ⟨v710,rfl,ho0,hb⟩
            refine ⟨_,rfl, ?_⟩
            have n0_:=rb HO_7 hb
            have n1_:=Zz.k (Kd.N_elder' (nk HO_22) (Kd.N_base (Kd.S_N ho0)) hb)
            have n2_:=Zz.k (Kd.N_elder' (nk HO714) (Kd.N_base (Kd.S_N ho0)) hb)
            have n3_:=Zz.k (Kd.N_lower (Kd.N_mono (ok':=fun k_ => some k_ ≠ (.slice Ao48 t615.length co48 : Value).ownBlock /\ some k_ ≠ (.slice Ao96 y687.length co96 : Value).ownBlock /\ some k_ ≠ (v713 : Value).ownBlock /\ k_ ≠ gb609 /\ k_ ≠ gb639 /\ k_ ≠ gb679 /\ k_ ≠ gb707) (Kd.S_N (Kd.S_bound ho0)) (fun k_ hk_ => ⟨(Kd.fresh' (Kd.R_lt (rk HO_7)) k_ hk_.2.1),(Kd.fresh' (Kd.N_lt (nk HO_22)) k_ hk_.2.1),(Kd.fresh' (Kd.N_lt (nk HO714)) k_ hk_.2.1),(Kd.freshB (kk BK609) k_ hk_.2.1),(Kd.freshB (kk BK639) k_ hk_.2.1),(Kd.freshB (kk BK679) k_ hk_.2.1),(Kd.freshB (kk BK707) k_ hk_.2.1)⟩)) (Qag (bw HB)))
            have n4_:=bl BK609 hb
            have n5_:=bl BK639 hb
            have n6_:=bl BK679 hb
            have n7_:=bl BK707 hb
            have n8_:=bs HB hb
            clear HO_7
            clear HO_22
            clear HO714
            clear BK609
            clear BK639
            clear BK679
            clear BK707
            clear HB
            have HO_7:=n0_
            have HO_22:=n1_
            have HO714:=n2_
            have HO711:=n3_
            have BK609:=n4_
            have BK639:=n5_
            have BK679:=n6_
            have BK707:=n7_
            have HB:=n8_
            clear n0_ n1_ n2_ n3_ n4_ n5_ n6_ n7_ n8_
            (try clear hb)
            (try clear hb2)
            (try clear hk)
            (try clear hi)
            (try clear ho0)
            refine hK.out _ _ (e11 BK707) (fun hHeld => ?_)
            clear hK K
            refine nn 186 (h := ?_)
            exact norm_ (by simp only [putAll,Act.put,List.setIfInBounds_toArray,List.set_cons_zero,List.set_cons_succ]) (hCont (v710,v713) _ ⟨hHeld,(by (with_reducible repeat (first | apply Kd.N_alloc | apply Kd.N_drewN | apply Kd.N_drew)); exact Kd.N_mono HO711.out (fun _ hk => ⟨hk.2.2.1,⟨hk.2.1,⟨hk.1,⟨hk.2.2.2.1,⟨hk.2.2.2.2.1,⟨hk.2.2.2.2.2.1,hk.2.2.2.2.2.2⟩⟩⟩⟩⟩⟩)),(by (with_reducible repeat (first | apply Kd.N_alloc | apply Kd.N_drewN | apply Kd.N_drew)); exact Kd.N_mono HO714.out (fun _ hk => ⟨hk.2,⟨hk.1.2.1,⟨hk.1.1,⟨hk.1.2.2.1,⟨hk.1.2.2.2.1,⟨hk.1.2.2.2.2.1,hk.1.2.2.2.2.2⟩⟩⟩⟩⟩⟩)),(by (with_reducible repeat (first | apply Kd.N_alloc | apply Kd.N_drewN | apply Kd.N_drew)); exact Kd.N_mono HO_22.out (fun _ hk => ⟨hk.2,⟨hk.1.2,⟨hk.1.1.2.1,⟨hk.1.1.2.2.1,⟨hk.1.1.2.2.2.1,⟨hk.1.1.2.2.2.2.1,hk.1.1.2.2.2.2.2⟩⟩⟩⟩⟩⟩)),(rk HO_7),(kk BK609),(kk BK639),(kk BK679),(kk BK707),(bw HB)⟩)⟩ : Nonempty G_)) :); w7_EditLands.bxo (G:=G_) (inferInstanceAs (Nonempty G_)))
           rintro ⟨v710,v713⟩ w125 ⟨hS_,h0_,h1_,h2_,h3_,h4_,h5_,h6_,h7_,h8_⟩
           have n0_ : Zz (Kd.N kOp 34 w125 w.heap.size (fun k_ => some k_ ≠ (v713 : Value).ownBlock /\ some k_ ≠ (.slice Ao96 y687.length co96 : Value).ownBlock /\ some k_ ≠ (.slice Ao48 t615.length co48 : Value).ownBlock /\ k_ ≠ gb609 /\ k_ ≠ gb639 /\ k_ ≠ gb679 /\ k_ ≠ gb707) v710 t709):=⟨h0_⟩
           have n1_ : Zz (Kd.N kOp 34 w125 w.heap.size (fun k_ => some k_ ≠ (v710 : Value).ownBlock /\ some k_ ≠ (.slice Ao96 y687.length co96 : Value).ownBlock /\ some k_ ≠ (.slice Ao48 t615.length co48 : Value).ownBlock /\ k_ ≠ gb609 /\ k_ ≠ gb639 /\ k_ ≠ gb679 /\ k_ ≠ gb707) v713 y712):=⟨h1_⟩
           have n2_ : Zz (Kd.N kOp 34 w125 w.heap.size (fun k_ => some k_ ≠ (v710 : Value).ownBlock /\ some k_ ≠ (v713 : Value).ownBlock /\ some k_ ≠ (.slice Ao48 t615.length co48 : Value).ownBlock /\ k_ ≠ gb609 /\ k_ ≠ gb639 /\ k_ ≠ gb679 /\ k_ ≠ gb707) (.slice Ao96 y687.length co96) y687):=⟨h2_⟩
           have n3_ : Zz (Kd.R (Kd.int .i32) 21 w125 w.heap.size (fun _ => True) (.slice Ao48 t615.length co48) t615):=⟨h3_⟩
           have n4_ : Zz (w125.heap[gb609]? = some (.cells #[.slice (some ad611) l0_0.length c0_0, .slice A0_1 l0_1.length c0_1, .slice A0_2 l0_2.length c0_2, .slice A0_3 l0_3.length c0_3] 27 (0,0))):=⟨h4_⟩
           have n5_ : Zz (w125.heap[gb639]? = some (.cells #[.int .i64 t625, .int .i64 t626, .int .i64 t627, .int .i64 t628, .int .i64 t629, .int .i64 t630, .string t631, .slice Ao56 t632.length co56, .int .i64 t635, .int .i64 t636, .int .i64 t637] 34 (0,0))):=⟨h5_⟩
           have n6_ : Zz (w125.heap[gb679]? = some (.cells #[.int .i64 t665, .int .i64 t666, .int .i64 t667, .int .i64 t668, .int .i64 t669, .int .i64 t670, .string t671, .slice Ao87 t672.length co87, .int .i64 t675, .int .i64 t676, .int .i64 t677] 34 (0,0))):=⟨h6_⟩
           have n7_ : Zz (w125.heap[gb707]? = some (.cells #[.int .i64 t693, .int .i64 t694, .int .i64 t695, .int .i64 t696, .int .i64 t697, .int .i64 t698, .string t699, .slice Ao119 t700.length co119, .int .i64 t703, .int .i64 t704, .int .i64 t705] 34 (0,0))):=⟨h7_⟩
           have n8_ : Zz (Below w.heap.size w w125):=⟨h8_⟩
           clear HO_7
           clear HO_22
           clear HO702
           clear BK609
           clear BK639
           clear BK679
           clear BK707
           clear HB
           clear h0_ h1_ h2_ h3_ h4_ h5_ h6_ h7_ h8_
           have HO711:=n0_
           have HO714:=n1_
           have HO_22:=n2_
           have HO_7:=n3_
           have BK609:=n4_
           have BK639:=n5_
           have BK679:=n6_
           have BK707:=n7_
           have HB:=n8_
           clear n0_ n1_ n2_ n3_ n4_ n5_ n6_ n7_ n8_
           have hHeld : w125.cell? ⟨gb707,0,none⟩ = some (.int .i64 t693) /\ w125.cell? ⟨gb707,1,none⟩ = some (.int .i64 t694) /\ w125.cell? ⟨gb707,2,none⟩ = some (.int .i64 t695) /\ w125.cell? ⟨gb707,3,none⟩ = some (.int .i64 t696) /\ w125.cell? ⟨gb707,4,none⟩ = some (.int .i64 t697) /\ w125.cell? ⟨gb707,5,none⟩ = some (.int .i64 t698) /\ w125.cell? ⟨gb707,6,none⟩ = some (.string t699) /\ w125.cell? ⟨gb707,7,none⟩ = some (.slice Ao119 t700.length co119) /\ w125.cell? ⟨gb707,8,none⟩ = some (.int .i64 t703) /\ w125.cell? ⟨gb707,9,none⟩ = some (.int .i64 t704) /\ w125.cell? ⟨gb707,10,none⟩ = some (.int .i64 t705):=hS_
           obtain ⟨Ao127,co127,eo127⟩:=Kd.N_slice HO714.out
           (first | subst eo127 | (injection eo127 with f1_ f2_ f3_; have f4_:=f1_.symm; have f5_:=f3_.symm; clear f1_ f2_ f3_; subst f4_; subst f5_))
           refine norm_ (a' := ?_) ?_ ?_
           rotate_left
           ·simp only [putAll,Act.put,List.setIfInBounds_toArray,List.set_cons_zero,List.set_cons_succ]
            rfl
           refine on HT_ 4 (some 189) 31 (h:=fun K hK => ?_)
           refine Kd.N_append_rows_step kOp (w0:=w) w.heap.size (by rfl) (.tmp 186) (.tmp 188) 24 34 (.agg #[(.int .i64 0),(.int .i64 0),(.int .i64 0),(.int .i64 0),(.int .i64 0),(.int .i64 0),(.string ⟨#[]⟩),(.slice none 0 0),(.int .i64 0),(.int .i64 0),(.int .i64 0)]) 112 rfl Tryz.underlying24 info34 rfl (by decide) (by omega) v710 t709 y712 _ _ _ (fun k_ => some k_ ≠ (.slice Ao48 t615.length co48 : Value).ownBlock /\ some k_ ≠ (.slice Ao96 y687.length co96 : Value).ownBlock /\ k_ ≠ gb609 /\ k_ ≠ gb639 /\ k_ ≠ gb679 /\ k_ ≠ gb707) (fun k_ => ((fun k_ => some k_ ≠ (.slice Ao48 t615.length co48 : Value).ownBlock /\ some k_ ≠ (.slice Ao96 y687.length co96 : Value).ownBlock /\ k_ ≠ gb609 /\ k_ ≠ gb639 /\ k_ ≠ gb679 /\ k_ ≠ gb707)) k_ /\ some k_ ≠ (v710 : Value).ownBlock) rfl rfl ?aO ?aR (fun _ hk => hk) ?aF ?aB ?aS ?aL ?_
           (case aR => exact (by skip; exact Kd.N_F (Kd.N_mono (ok':=(fun k_ => ((fun k_ => some k_ ≠ (.slice Ao48 t615.length co48 : Value).ownBlock /\ some k_ ≠ (.slice Ao96 y687.length co96 : Value).ownBlock /\ k_ ≠ gb609 /\ k_ ≠ gb639 /\ k_ ≠ gb679 /\ k_ ≠ gb707)) k_ /\ some k_ ≠ (v710 : Value).ownBlock)) (HO714.out) (fun k_ hk => ⟨⟨hk.2.2.1,⟨hk.2.1,⟨hk.2.2.2.1,⟨hk.2.2.2.2.1,⟨hk.2.2.2.2.2.1,hk.2.2.2.2.2.2⟩⟩⟩⟩⟩,hk.1⟩))))
           (case aB => exact (bw HB))
           (case aF => exact (fun k_ hk => ⟨Kd.fresh' (Kd.R_lt (rk HO_7)) k_ hk,Kd.fresh' (Kd.N_lt (nk HO_22)) k_ hk,Kd.freshB (kk BK609) k_ hk,Kd.freshB (kk BK639) k_ hk,Kd.freshB (kk BK679) k_ hk,Kd.freshB (kk BK707) k_ hk⟩))
           (case aO => exact (by (with_reducible repeat (first | apply Kd.N_alloc | apply Kd.N_drewN | apply Kd.N_drew)); exact Kd.N_mono HO711.out (fun _ hk => ⟨hk.2.2.1,⟨hk.2.1,⟨hk.2.2.2.1,⟨hk.2.2.2.2.1,⟨hk.2.2.2.2.2.1,hk.2.2.2.2.2.2⟩⟩⟩⟩⟩)))
           (case aS => exact (Qag (bw HB)))
           (case aL => have:=LMc105.out; omega)
           intro v716 w126 ho hb hg hat
           rw [<- Ny715.out] at ho
           have n0_:=Zz.k (Kd.R_over' (rk HO_7) (Kd.N_typed (nk HO711)) (by decide) hg)
           have n1_:=Zz.k (Kd.N_afterv (ok:=(fun k_ => some k_ ≠ (.slice Ao48 t615.length co48 : Value).ownBlock /\ some k_ ≠ (.slice Ao127 y712.length co127 : Value).ownBlock /\ k_ ≠ gb609 /\ k_ ≠ gb639 /\ k_ ≠ gb679 /\ k_ ≠ gb707)) (by (with_reducible repeat (first | apply Kd.N_alloc | apply Kd.N_drewN | apply Kd.N_drew)); exact Kd.N_mono HO_22.out (fun _ hk => ⟨⟨hk.2.2.1,⟨hk.2.1,⟨hk.2.2.2.1,⟨hk.2.2.2.2.1,⟨hk.2.2.2.2.2.1,hk.2.2.2.2.2.2⟩⟩⟩⟩⟩,hk.1⟩)) hg hat)
           have n2_:=Zz.k (Qbc (kk BK609) hg (Kd.N_ne HO711.out BK609.out (by decide)))
           have n3_:=Zz.k (Qbc (kk BK639) hg (Kd.N_away HO711.out (fun _ hk => hk.2.2.2.2.1)))
           have n4_:=Zz.k (Qbc (kk BK679) hg (Kd.N_away HO711.out (fun _ hk => hk.2.2.2.2.2.1)))
           have n5_:=Zz.k (Qbc (kk BK707) hg (Kd.N_away HO711.out (fun _ hk => hk.2.2.2.2.2.2)))
           have n6_:=Zz.k (Kd.N_afterv (ok:=(fun k_ => some k_ ≠ (.slice Ao48 t615.length co48 : Value).ownBlock /\ some k_ ≠ (.slice Ao96 y687.length co96 : Value).ownBlock /\ k_ ≠ gb609 /\ k_ ≠ gb639 /\ k_ ≠ gb679 /\ k_ ≠ gb707)) (by (with_reducible repeat (first | apply Kd.N_alloc | apply Kd.N_drewN | apply Kd.N_drew)); exact Kd.N_mono HO714.out (fun _ hk => ⟨⟨hk.2.2.1,⟨hk.2.1,⟨hk.2.2.2.1,⟨hk.2.2.2.2.1,⟨hk.2.2.2.2.2.1,hk.2.2.2.2.2.2⟩⟩⟩⟩⟩,hk.1⟩)) hg hat)
           have n7_:=Zz.k (hb)
           have n8_:=Zz.k (ho)
           clear HO_7
           clear HO_22
           clear BK609
           clear BK639
           clear BK679
           clear BK707
           clear HO714
           clear HB
           clear HO711
           have HO_7:=n0_
           have HO_22:=n1_
           have BK609:=n2_
           have BK639:=n3_
           have BK679:=n4_
           have BK707:=n5_
           have HO714:=n6_
           have HB:=n7_
           have HO717:=n8_
           clear n0_ n1_ n2_ n3_ n4_ n5_ n6_ n7_ n8_
           clear ho hb hg hat
           obtain ⟨Ao128,co128,eo128⟩:=Kd.N_slice HO717.out
           (first | subst eo128 | (injection eo128 with f1_ f2_ f3_; have f4_:=f1_.symm; have f5_:=f3_.symm; clear f1_ f2_ f3_; subst f4_; subst f5_))
           refine hK.out _ _ (e11 BK707) (fun hHeld => ?_)
           clear hK K
           refine nn 189 (h := ?_)
           refine on HT_ 5 (some 190) 63 (h:=fun K hK => ?_)
           refine gS Tryz.func17 #[.slice Ao128 y715.length co128] (h := ?_)
           with_reducible refine (doc_Text.calls _ _ y715 t718 t719 _ ?side1 ?side2 A106.out).mono ?_
           (case side1 => exact cn HO717)
           (case side2 => exact (Kd.N_reads' HO717.out).2.1)
           rintro e w129 ⟨rfl,hb⟩
           refine ⟨_,rfl, ?_⟩
           have n0_:=rb HO_7 hb
           have n1_:=nb HO_22 hb
           have n2_:=nb HO714 hb
           have n3_:=nb HO717 hb
           have n4_:=bl BK609 hb
           have n5_:=bl BK639 hb
           have n6_:=bl BK679 hb
           have n7_:=bl BK707 hb
           have n8_:=bs HB hb
           clear HO_7
           clear HO_22
           clear HO714
           clear HO717
           clear BK609
           clear BK639
           clear BK679
           clear BK707
           clear HB
           have HO_7:=n0_
           have HO_22:=n1_
           have HO714:=n2_
           have HO717:=n3_
           have BK609:=n4_
           have BK639:=n5_
           have BK679:=n6_
           have BK707:=n7_
           have HB:=n8_
           clear n0_ n1_ n2_ n3_ n4_ n5_ n6_ n7_ n8_
           (try clear hb)
           (try clear hb2)
           (try clear hk)
           (try clear hi)
           refine hK.out _ _ (e11 BK707) (fun hHeld => ?_)
           clear hK K
           refine nn 190 (h := ?_)
           refine pu HT_ 6 184 127 (h := ?_)
           refine pu HT_ 7 191 255 (h := ?_)
           refine pu HT_ 8 192 511 (h := ?_)
           refine pu HT_ 9 27 1023 (h := ?_)
           refine pu HT_ 10 28 2047 (h := ?_)
           refine dn HT_ (h := ?_)
           try go_wp2_with (first | ((with_reducible refine Qaa (f:=11) rfl ?_); refine gl (some 194) Tryz.func11 #[.int .i64 t719] (h := ?_); (with_reducible refine (w7_num.calls t719 t720 _ A107.out).mono ?_); rintro e w' ⟨rfl,⟨nd,rfl⟩⟩; refine ⟨_,rfl, ?_⟩))
           go_roundg kj78
           case measure => have:=HK1.out; have:=HJ9.out; have:=HK3.out; have:=HJ45.out; have:=HJ78.out; omega
           case rel => exact ⟨(wrap64 (x9_3 + 1)),rf,H',⟨by have:=HK1.out; have:=HJ9.out; have:=HK3.out; have:=HJ45.out; have:=HJ78.out; omega⟩,⟨rk HO_7⟩,⟨kk BK609⟩,⟨bw HB⟩⟩⟩ : Nonempty G_)) :); w7_EditLands.bxo (G:=G_) (inferInstanceAs (Nonempty G_)))⟩ : Nonempty G_)) :); w7_EditLands.bxo (G:=G_) (inferInstanceAs (Nonempty G_)))⟩ : Nonempty G_)) :); w7_EditLands.bxo (G:=G_) (inferInstanceAs (Nonempty G_)))⟩ : Nonempty G_)) :); w7_EditLands.bxo (G:=G_) (inferInstanceAs (Nonempty G_)))⟩ : Nonempty G_)) :); w7_EditLands.bxo (G:=G_) (inferInstanceAs (Nonempty G_)))⟩ : Nonempty G_)) :); w7_EditLands.bxo (G:=G_) (inferInstanceAs (Nonempty G_)))⟩ : Nonempty G_)) :); w7_EditLands.bxo (G:=G_) (inferInstanceAs (Nonempty G_)))⟩ : Nonempty G_)) :); w7_EditLands.bxo (G:=G_) (inferInstanceAs (Nonempty G_)))⟩ : Nonempty G_)) :); w7_EditLands.bxo (G:=G_) (inferInstanceAs (Nonempty G_)))⟩ : Nonempty G_)) :); w7_EditLands.bxo (G:=G_) (inferInstanceAs (Nonempty G_)))⟩ : Nonempty G_)) :); w7_EditLands.bxo (G:=G_) (inferInstanceAs (Nonempty G_)))⟩ : Nonempty G_)) :); w7_EditLands.bxo (G:=G_) (inferInstanceAs (Nonempty G_)))⟩ : Nonempty G_)) :); w7_EditLands.bxo (G:=G_) (inferInstanceAs (Nonempty G_)))⟩ : Nonempty G_)) :); w7_EditLands.bxo (G:=G_) (inferInstanceAs (Nonempty G_)))⟩ : Nonempty G_)) :); w7_EditLands.bxo (G:=G_) (inferInstanceAs (Nonempty G_)))⟩ : Nonempty G_)) :); w7_EditLands.bxo (G:=G_) (inferInstanceAs (Nonempty G_)))⟩ : Nonempty G_)) :); w7_EditLands.bxo (G:=G_) (inferInstanceAs (Nonempty G_)))⟩ : Nonempty G_)) :); w7_EditLands.bxo (G:=G_) (inferInstanceAs (Nonempty G_)))⟩ : Nonempty G_)) :); w7_EditLands.bxo (G:=G_) (inferInstanceAs (Nonempty G_)))⟩ : Nonempty G_)) :); w7_EditLands.bxo (G:=G_) (inferInstanceAs (Nonempty G_)))⟩ : Nonempty G_)) :); w7_EditLands.bxo (G:=G_) (inferInstanceAs (Nonempty G_)))⟩ : Nonempty G_)) :); w7_EditLands.bxo (G:=G_) (inferInstanceAs (Nonempty G_)))⟩ : Nonempty G_)) :); w7_EditLands.bxo (G:=G_) (inferInstanceAs (Nonempty G_)))⟩ : Nonempty G_)) :); w7_EditLands.bxo (G:=G_) (inferInstanceAs (Nonempty G_)))⟩ : Nonempty G_)) :); w7_EditLands.bxo (G:=G_) (inferInstanceAs (Nonempty G_)))⟩ : Nonempty G_)) :); w7_EditLands.bxo (G:=G_) (inferInstanceAs (Nonempty G_)))⟩ : Nonempty G_)) :); w7_EditLands.bxo (G:=G_) (inferInstanceAs (Nonempty G_)))
end
end Go.Proofs.YtlllghajjamdpaaGreatDoor.L
end
