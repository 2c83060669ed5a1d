/- Part 8 of the proof that for every argument the law EditRaces answers true: edits that two sites make of the same row, ordered one behind the other either way, leave what each wrote whole, side by side, and take away what each took -/
import Derived.Test.YtlllghajjamdpaaGreatDoorZER7
import Derived.ArgAppend
import Derived.Lib.SliceRun
import Derived.Shelf.SlSortCmp.WholeK
import Derived.Shelf.SlicesE.Clone
import Derived.Test.YtlllghajjamdpaaGreatDoorProg
section
namespace Go.Proofs.YtlllghajjamdpaaGreatDoor.L
open Go.RowKit Go.Proofs.YtlllghajjamdpaaGreatDoorW.PrintWords Go.Proofs.YtlllghajjamdpaaGreatDoorW.PrintLast Go.Proofs.YtlllghajjamdpaaGreatDoorW.PrintMore
set_option linter.unusedVariables false
set_option linter.unusedSimpArgs false
set_option maxHeartbeats 40000000
set_option maxRecDepth 1000000
section
attribute [local go_sem] Qbm Qbk Qbu Qbt Qbc Qbb Qbl Qbj
def r4_Fits.l0 : Nat -> List (SOp) -> Int -> Int -> Option (Bool)
 | 0,_,_,_ => none
 | k + 1,x0,x3,x4 => if x4 < (x0.length : Int) then (if x4 <= 40 then (if 0 <= x4 then ((r4_Runes.f k ((Qad x0 x4).f0) ((Qad x0 x4).f1) ((Qad x0 x4).f2) ((Qad x0 x4).f3.f0) ((Qad x0 x4).f3.f1) ((Qad x0 x4).f3.f2) ((Qad x0 x4).f4) ((Qad x0 x4).f5) ((Qad x0 x4).f6) ((Qad x0 x4).f7) ((Qad x0 x4).f8)).bind fun t224 => (r4_Fits.l0 k x0 (wrap64 (x3 + t224)) (wrap64 (x4 + 1)))) else (none)) else (if (x0.length : Int) <= 40 then (some (decide (x3 <= 200))) else (some false))) else (if (x0.length : Int) <= 40 then (some (decide (x3 <= 200))) else (some false))
def r4_Fits.f (k : Nat) (l0 : List (SOp)) : Option (Bool):=r4_Fits.l0 k l0 0 0
theorem r4_Fits.calls (k : Nat) (A0 : Option Addr) (c0 : Nat) (l0 : List (SOp)) (r : Bool) (w : World) (hr0 : Kd.C kOp w A0 l0.length l0) (hc0 : l0.length <= c0) (hT : GT w) (h : r4_Fits.f k l0 = some r) :
  Calls Tryz.prog 40 #[.slice A0 l0.length c0] w fun e w' => e = .returned (.bool r) /\ Below w.heap.size w w':=by
 have hu34:=Tryz.underlying34
 have HR0:=Zz.k hr0
 have HC0:=Zz.k hc0
 clear hr0 hc0
 have HB:=Zz.k (Below.refl w.heap.size w)
 unfold r4_Fits.f at h; have H:=h
 clear h
 have H':=Zz.k H
 clear H
 go_enter Tryz.func40,Tryz.ntmps40
 go_wp2
 go_loopg [3,4] k (fun kq v3 v4 w' => ∃ (x3_1 : Int) (x4_1 : Int),v3 = .int .i64 x3_1 /\ v4 = .int .i64 x4_1 /\ Zz (r4_Fits.l0 kq l0 x3_1 x4_1 = some r) /\ Zz (kq <= k) /\ Zz (Below w.heap.size w w'))
 case atStart => exact ⟨(0),(0),rf,rf,H',⟨Nat.le_refl _⟩,⟨bw HB⟩⟩
 case round =>
  clear H'
  obtain ⟨x3_1,x4_1,rfl,rfl,HA,HK1,HB⟩:=hrel
  cases gk with
  | zero => exact absurd HA.out (by simp [r4_Fits.l0])
  | succ k1 =>
   have H:=HA.out
   clear HA
   simp only [r4_Fits.l0] at H
   by_cases c2 : x4_1 < (l0.length : Int); rotate_left
   ·rw [if_neg c2] at H
    have c2b0:=Ze c2
    clear c2
    by_cases c8 : (l0.length : Int) <= 40
    ·rw [if_pos c8] at H
     have c8b0:=Zd c8
     have c8b1 : decide (l0.length <= 40) = true:=Zd (by omega)
     clear c8
     obtain rfl:=Zo H
     go_wp2
     go_ret
     exact ⟨re,bw HB⟩
    rw [if_neg c8] at H
    have c8b0:=Ze c8
    have c8b1 : decide (l0.length <= 40) = false:=Ze (by omega)
    clear c8
    obtain rfl:=Zo H
    go_wp2
    go_ret
    exact ⟨re,bw HB⟩
   rw [if_pos c2] at H
   have c2b0:=Zd c2
   clear c2
   by_cases c3 : x4_1 <= 40; rotate_left
   ·rw [if_neg c3] at H
    have c3b0:=Ze c3
    clear c3
    by_cases c7 : (l0.length : Int) <= 40
    ·rw [if_pos c7] at H
     have c7b0:=Zd c7
     have c7b1 : decide (l0.length <= 40) = true:=Zd (by omega)
     clear c7
     obtain rfl:=Zo H
     go_wp2
     go_ret
     exact ⟨re,bw HB⟩
    rw [if_neg c7] at H
    have c7b0:=Ze c7
    have c7b1 : decide (l0.length <= 40) = false:=Ze (by omega)
    clear c7
    obtain rfl:=Zo H
    go_wp2
    go_ret
    exact ⟨re,bw HB⟩
   rw [if_pos c3] at H
   have c3b0:=Zd c3
   clear c3
   by_cases c4 : 0 <= x4_1; rotate_left
   ·rw [if_neg c4] at H
    exact absurd H (by simp)
   rw [if_pos c4] at H
   have c4b0:=Zd c4
   clear c4
   obtain ⟨t224,A5,H⟩:=bE H
   have H':=Zz.k H
   clear H
   have p223 : 0 <= (x4_1 : Int):=od
   have q223 : x4_1 < (l0.length : Int):=od
   obtain ⟨ad223,A223_7,c223_7,e223,hx223_0,hx223_1,hx223_2,hx223_3,hx223_4,hx223_5,hx223_6,hx223_7,hx223_8,hx223_9,hx223_10,hl223_7,hi223_7⟩:=Qcg HR0.out x4_1 p223 q223
   cases e223
   replace hx223_0:=cl HB hx223_0
   replace hx223_1:=cl HB hx223_1
   replace hx223_2:=cl HB hx223_2
   replace hx223_3:=cl HB hx223_3
   replace hx223_4:=cl HB hx223_4
   replace hx223_5:=cl HB hx223_5
   replace hx223_6:=cl HB hx223_6
   replace hx223_7:=cl HB hx223_7
   replace hx223_8:=cl HB hx223_8
   replace hx223_9:=cl HB hx223_9
   replace hx223_10:=cl HB hx223_10
   have HR223_7:=Zz.k hi223_7
   have HC223_7:=Zz.k hl223_7
   clear hi223_7 hl223_7
   replace p223:=eq_true p223
   replace q223:=eq_true q223
   go_wp2_with (first | ((with_reducible refine Qac (f:=55) rfl ?_); refine gl (some 20) Tryz.func55 #[.agg #[.int .i64 ((Qad l0 x4_1).f0), .int .i64 ((Qad l0 x4_1).f1), .int .i64 ((Qad l0 x4_1).f2), .int .i64 ((Qad l0 x4_1).f3.f0), .int .i64 ((Qad l0 x4_1).f3.f1), .int .i64 ((Qad l0 x4_1).f3.f2), .string ((Qad l0 x4_1).f4), .slice A223_7 ((Qad l0 x4_1).f5).length c223_7, .int .i64 ((Qad l0 x4_1).f6), .int .i64 ((Qad l0 x4_1).f7), .int .i64 ((Qad l0 x4_1).f8)]] (h := ?_); (with_reducible refine (r4_Runes.calls k1 ((Qad l0 x4_1).f0) ((Qad l0 x4_1).f1) ((Qad l0 x4_1).f2) ((Qad l0 x4_1).f3.f0) ((Qad l0 x4_1).f3.f1) ((Qad l0 x4_1).f3.f2) ((Qad l0 x4_1).f4) _ _ ((Qad l0 x4_1).f5) ((Qad l0 x4_1).f6) ((Qad l0 x4_1).f7) ((Qad l0 x4_1).f8) t224 _ ?side1 ?side2 ?side3 A5.out).mono ?_); (case side1 => exact cb HR223_7 HB); (case side2 => exact HC223_7.out); (case side3 => exact (hT.below (bw HB))); rintro e w6 ⟨rfl,hb⟩; refine ⟨_,rfl, ?_⟩; replace HB:=bs HB hb; clear hb))
   go_roundg k1
   case measure => have:=HK1.out; omega
   case rel => exact ⟨(wrap64 (x3_1 + t224)),(wrap64 (x4_1 + 1)),rf,rf,H',⟨by have:=HK1.out; omega⟩,⟨bw HB⟩⟩
def r4_Row.l0 : Nat -> List (SOp) -> Int -> Option (Bool)
 | 0,_,_ => none
 | k + 1,x0,x3 => if x3 < (x0.length : Int) then (if 0 <= x3 then (if x3 <= (x0.length : Int) then ((r4_Goes.f k (x0.take (x3 : Int).toNat) ((Qad x0 x3).f0) ((Qad x0 x3).f1) ((Qad x0 x3).f2) ((Qad x0 x3).f3.f0) ((Qad x0 x3).f3.f1) ((Qad x0 x3).f3.f2) ((Qad x0 x3).f4) ((Qad x0 x3).f5) ((Qad x0 x3).f6) ((Qad x0 x3).f7) ((Qad x0 x3).f8)).bind fun t230 => (if t230 = true then (r4_Row.l0 k x0 (wrap64 (x3 + 1))) else (some false))) else (none)) else (none)) else ((r4_Fits.f k x0).bind fun t231 => (some t231))
def r4_Row.f (k : Nat) (l0 : List (SOp)) : Option (Bool):=if (l0.length : Int) > 40 then (some false) else (r4_Row.l0 k l0 0)
def r4_Row.T6 : Bool × List (List Nat × List Nat):=(true,[([],[]),([],[]),([0,1],[0,1]),([],[]),([],[]),([3,4],[3,4]),([5],[5]),([2,6],[2,6]),([7],[7])])
def r4_Row.B6 : List Nat:=[0,0,3,0,0,24,56,127,255]
theorem r4_Row.tab6 : rtab .any (Qdb Tryz.f8 6) = r4_Row.T6:=by kernel_rfl
theorem r4_Row.bits6 : Qay r4_Row.T6.2 r4_Row.B6 = true:=by kernel_rfl
theorem r4_Row.calls (k : Nat) (A0 : Option Addr) (c0 : Nat) (l0 : List (SOp)) (r : Bool) (w : World) (hr0 : Kd.C kOp w A0 l0.length l0) (hc0 : l0.length <= c0) (hT : GT w) (h : r4_Row.f k l0 = some r) :
  Calls Tryz.prog 8 #[.slice A0 l0.length c0] w fun e w' => e = .returned (.bool r) /\ Below w.heap.size w w':=by
 have hu34:=Tryz.underlying34
 have HR0:=Zz.k hr0
 have HC0:=Zz.k hc0
 clear hr0 hc0
 have HB:=Zz.k (Below.refl w.heap.size w)
 unfold r4_Row.f at h; have H:=h
 clear h
 by_cases c2 : (l0.length : Int) > 40
 ·rw [if_pos c2] at H
  have c2b0:=Zd c2
  have c2b1 : decide (40 < l0.length) = true:=Zd (by omega)
  clear c2
  obtain rfl:=Zo H
  go_enter Tryz.func8,Tryz.ntmps8
  go_wp2
  go_ret
  exact ⟨re,bw HB⟩
 rw [if_neg c2] at H
 have c2b0:=Ze c2
 have c2b1 : decide (40 < l0.length) = false:=Ze (by omega)
 clear c2
 have H':=Zz.k H
 clear H
 go_enter Tryz.func8,Tryz.ntmps8
 go_wp2
 go_loopg [3] k (fun kq v3 w' => ∃ (x3_1 : Int),v3 = .int .i64 x3_1 /\ Zz (r4_Row.l0 kq l0 x3_1 = some r) /\ Zz (kq <= k) /\ Zz (Below w.heap.size w w'))
 case atStart => exact ⟨(0),rf,H',⟨Nat.le_refl _⟩,⟨bw HB⟩⟩
 case round =>
  clear H'
  try clear c2b0; try clear c2b1
  obtain ⟨x3_1,rfl,HA,HK1,HB⟩:=hrel
  cases gk with
  | zero => exact absurd HA.out (by simp [r4_Row.l0])
  | succ k1 =>
   have H:=HA.out
   clear HA
   simp only [r4_Row.l0] at H
   by_cases c3 : x3_1 < (l0.length : Int); rotate_left
   ·rw [if_neg c3] at H
    have c3b0:=Ze c3
    clear c3
    obtain ⟨t231,A14,H⟩:=bE H
    obtain rfl:=Zo H
    go_wp2_with (first | ((with_reducible refine Qac (f:=40) rfl ?_); refine gl (some 23) Tryz.func40 #[.slice A0 l0.length c0] (h := ?_); (with_reducible refine (r4_Fits.calls k1 _ _ l0 t231 _ ?side1 ?side2 ?side3 A14.out).mono ?_); (case side1 => exact cb HR0 HB); (case side2 => exact HC0.out); (case side3 => exact (hT.below (bw HB))); rintro e w15 ⟨rfl,hb⟩; refine ⟨_,rfl, ?_⟩; replace HB:=bs HB hb; clear hb))
    go_ret
    exact ⟨re,bw HB⟩
   rw [if_pos c3] at H
   have c3b0:=Zd c3
   clear c3
   by_cases c4 : 0 <= x3_1; rotate_left
   ·rw [if_neg c4] at H
    exact absurd H (by simp)
   rw [if_pos c4] at H
   have c4b0:=eq_true c4
   have c4b1:=Zd c4
   clear c4
   by_cases c5 : x3_1 <= (l0.length : Int); rotate_left
   ·rw [if_neg c5] at H
    exact absurd H (by simp)
   rw [if_pos c5] at H
   have c5b0:=eq_true c5
   have c5b1:=Zd c5
   clear c5
   obtain ⟨y225,hy225⟩ : ∃ y_ : List (SOp),y_ = (l0.take (x3_1 : Int).toNat):=⟨_,rfl⟩
   first | rw [Option.bind_some,<- hy225] at H | rw [<- hy225] at H
   have Ny225:=Zz.k hy225
   clear hy225
   obtain ⟨t230,A6,H⟩:=bE H
   by_cases c7 : t230 = true
   ·subst c7
    rw [if_pos rfl] at H
    have H':=Zz.k H
    clear H
    try go_wp2
    have n0_:=Zz.k (Qae HB.out)
    clear HB
    have HB:=n0_
    clear n0_
    have q9 : (x3_1 : Int) <= ((l0.length : Int) : Int):=od
    obtain ⟨i09,hi09,_,hsz9,_⟩:=info_parts info34
    have hroom9 : l0.length <= c0:=HC0.out
    have hC9 : Kd.C kOp _ A0 l0.length l0:=HR0.out
    have hcut9:=cut_to (P:=Tryz.prog) 24 34 .i64 Tryz.underlying24 hi09 A0 l0.length c0 x3_1 (od) q9 hroom9
    have hr9:=Kd.C_take (m:=(x3_1 : Int).toNat) hC9 (by omega)
    have hy9 : y225.length = (x3_1 : Int).toNat:=(by rw [Ny225.out,List.length_take]; omega)
    rw [<- Ny225.out] at hr9
    rw [<- hy9] at hcut9
    have HR228:=Zz.k hr9
    have HC228:=Zz.k (show y225.length <= c0 from by omega)
    clear hr9 hC9 hroom9 hi09 hsz9
    have KY9:=Zz.k hy9
    clear hy9
    replace q9:=eq_true q9
    have p229 : 0 <= (x3_1 : Int):=od
    have q229 : x3_1 < (l0.length : Int):=od
    obtain ⟨ad229,A229_7,c229_7,e229,hx229_0,hx229_1,hx229_2,hx229_3,hx229_4,hx229_5,hx229_6,hx229_7,hx229_8,hx229_9,hx229_10,hl229_7,hi229_7⟩:=Qcg HR0.out x3_1 p229 q229
    have hw229_10:=hx229_10
    have hw229_9:=hx229_9
    have hw229_8:=hx229_8
    have hw229_7:=hx229_7
    have hw229_6:=hx229_6
    have hw229_5:=hx229_5
    have hw229_4:=hx229_4
    have hw229_3:=hx229_3
    have hw229_2:=hx229_2
    have hw229_1:=hx229_1
    have hw229_0:=hx229_0
    cases e229
    replace hx229_0:=cl HB hx229_0
    replace hx229_1:=cl HB hx229_1
    replace hx229_2:=cl HB hx229_2
    replace hx229_3:=cl HB hx229_3
    replace hx229_4:=cl HB hx229_4
    replace hx229_5:=cl HB hx229_5
    replace hx229_6:=cl HB hx229_6
    replace hx229_7:=cl HB hx229_7
    replace hx229_8:=cl HB hx229_8
    replace hx229_9:=cl HB hx229_9
    replace hx229_10:=cl HB hx229_10
    have HR229_7:=Zz.k hi229_7
    have HC229_7:=Zz.k hl229_7
    clear hi229_7 hl229_7
    replace p229:=eq_true p229
    replace q229:=eq_true q229
    refine stP (fun w' => Q11 w' (ad229.add ((x3_1).toNat * 11)) (Qad l0 x3_1) A229_7 c229_7) 9 ⟨(cW HB hw229_0),(cW HB hw229_1),(cW HB hw229_2),(cW HB hw229_3),(cW HB hw229_4),(cW HB hw229_5),(cW HB hw229_6),(cW HB hw229_7),(cW HB hw229_8),(cW HB hw229_9),(cW HB hw229_10)⟩ (h:=fun hHeld => ?_); refine Qaw r4_Row.tab6 r4_Row.bits6 (fun HT_ HW_ => ?_)
    generalize wr.drew = w8 at HB HR228 HR229_7 hx229_0 hx229_1 hx229_10 hx229_2 hx229_3 hx229_4 hx229_5 hx229_6 hx229_7 hx229_8 hx229_9 hHeld ⊢
    refine pu HT_ 0 13 1 (h := ?_)
    refine pu HT_ 1 14 3 (h := ?_)
    refine pu HT_ 2 15 7 (h := ?_)
    refine pu HT_ 3 16 15 (h := ?_)
    refine pu HT_ 4 17 31 (h := ?_)
    refine pu HT_ 5 18 63 (h := ?_)
    refine tk HT_ HW_ hHeld 6 19 127 (h := ?_)
    refine on HT_ 7 (some 20) 255 (h:=fun K hK => ?_)
    refine gS Tryz.func39 #[.slice (some ad229) y225.length c0, .agg #[.int .i64 ((Qad l0 x3_1).f0), .int .i64 ((Qad l0 x3_1).f1), .int .i64 ((Qad l0 x3_1).f2), .int .i64 ((Qad l0 x3_1).f3.f0), .int .i64 ((Qad l0 x3_1).f3.f1), .int .i64 ((Qad l0 x3_1).f3.f2), .string ((Qad l0 x3_1).f4), .slice A229_7 ((Qad l0 x3_1).f5).length c229_7, .int .i64 ((Qad l0 x3_1).f6), .int .i64 ((Qad l0 x3_1).f7), .int .i64 ((Qad l0 x3_1).f8)]] (h := ?_)
    with_reducible refine (r4_Goes.calls k1 _ _ y225 ((Qad l0 x3_1).f0) ((Qad l0 x3_1).f1) ((Qad l0 x3_1).f2) ((Qad l0 x3_1).f3.f0) ((Qad l0 x3_1).f3.f1) ((Qad l0 x3_1).f3.f2) ((Qad l0 x3_1).f4) _ _ ((Qad l0 x3_1).f5) ((Qad l0 x3_1).f6) ((Qad l0 x3_1).f7) ((Qad l0 x3_1).f8) true _ ?side1 ?side2 ?side3 ?side4 ?side5 A6.out).mono ?_
    (case side1 => exact cb HR228 HB)
    (case side2 => exact HC228.out)
    (case side3 => exact cb HR229_7 HB)
    (case side4 => exact HC229_7.out)
    (case side5 => exact (hT.below (bw HB)))
    rintro e w10 ⟨rfl,hb⟩
    refine ⟨_,rfl, ?_⟩
    have n0_:=bs HB hb
    clear HB
    have HB:=n0_
    clear n0_
    (try clear hb)
    (try clear hb2)
    (try clear hk)
    (try clear hi)
    refine hK.out _ _ ⟨(cW HB hw229_0),(cW HB hw229_1),(cW HB hw229_2),(cW HB hw229_3),(cW HB hw229_4),(cW HB hw229_5),(cW HB hw229_6),(cW HB hw229_7),(cW HB hw229_8),(cW HB hw229_9),(cW HB hw229_10)⟩ (fun hHeld => ?_)
    clear hK K
    refine nn 20 (h := ?_)
    refine pu HT_ 8 21 511 (h := ?_)
    refine dn HT_ (h := ?_)
    try go_wp2
    go_roundg k1
    case measure => have:=HK1.out; omega
    case rel => exact ⟨(wrap64 (x3_1 + 1)),rf,H',⟨by have:=HK1.out; omega⟩,⟨bw HB⟩⟩
   replace c7:=Zf c7
   subst c7
   rw [if_neg nft] at H
   obtain rfl:=Zo H
   try go_wp2
   have n0_:=Zz.k (Qae HB.out)
   clear HB
   have HB:=n0_
   clear n0_
   have q12 : (x3_1 : Int) <= ((l0.length : Int) : Int):=od
   obtain ⟨i012,hi012,_,hsz12,_⟩:=info_parts info34
   have hroom12 : l0.length <= c0:=HC0.out
   have hC12 : Kd.C kOp _ A0 l0.length l0:=HR0.out
   have hcut12:=cut_to (P:=Tryz.prog) 24 34 .i64 Tryz.underlying24 hi012 A0 l0.length c0 x3_1 (od) q12 hroom12
   have hr12:=Kd.C_take (m:=(x3_1 : Int).toNat) hC12 (by omega)
   have hy12 : y225.length = (x3_1 : Int).toNat:=(by rw [Ny225.out,List.length_take]; omega)
   rw [<- Ny225.out] at hr12
   rw [<- hy12] at hcut12
   have HR228:=Zz.k hr12
   have HC228:=Zz.k (show y225.length <= c0 from by omega)
   clear hr12 hC12 hroom12 hi012 hsz12
   have KY12:=Zz.k hy12
   clear hy12
   replace q12:=eq_true q12
   have p229 : 0 <= (x3_1 : Int):=od
   have q229 : x3_1 < (l0.length : Int):=od
   obtain ⟨ad229,A229_7,c229_7,e229,hx229_0,hx229_1,hx229_2,hx229_3,hx229_4,hx229_5,hx229_6,hx229_7,hx229_8,hx229_9,hx229_10,hl229_7,hi229_7⟩:=Qcg HR0.out x3_1 p229 q229
   have hw229_10:=hx229_10
   have hw229_9:=hx229_9
   have hw229_8:=hx229_8
   have hw229_7:=hx229_7
   have hw229_6:=hx229_6
   have hw229_5:=hx229_5
   have hw229_4:=hx229_4
   have hw229_3:=hx229_3
   have hw229_2:=hx229_2
   have hw229_1:=hx229_1
   have hw229_0:=hx229_0
   cases e229
   replace hx229_0:=cl HB hx229_0
   replace hx229_1:=cl HB hx229_1
   replace hx229_2:=cl HB hx229_2
   replace hx229_3:=cl HB hx229_3
   replace hx229_4:=cl HB hx229_4
   replace hx229_5:=cl HB hx229_5
   replace hx229_6:=cl HB hx229_6
   replace hx229_7:=cl HB hx229_7
   replace hx229_8:=cl HB hx229_8
   replace hx229_9:=cl HB hx229_9
   replace hx229_10:=cl HB hx229_10
   have HR229_7:=Zz.k hi229_7
   have HC229_7:=Zz.k hl229_7
   clear hi229_7 hl229_7
   replace p229:=eq_true p229
   replace q229:=eq_true q229
   refine stP (fun w' => Q11 w' (ad229.add ((x3_1).toNat * 11)) (Qad l0 x3_1) A229_7 c229_7) 9 ⟨(cW HB hw229_0),(cW HB hw229_1),(cW HB hw229_2),(cW HB hw229_3),(cW HB hw229_4),(cW HB hw229_5),(cW HB hw229_6),(cW HB hw229_7),(cW HB hw229_8),(cW HB hw229_9),(cW HB hw229_10)⟩ (h:=fun hHeld => ?_); refine Qaw r4_Row.tab6 r4_Row.bits6 (fun HT_ HW_ => ?_)
   generalize wr.drew = w11 at HB HR228 HR229_7 hx229_0 hx229_1 hx229_10 hx229_2 hx229_3 hx229_4 hx229_5 hx229_6 hx229_7 hx229_8 hx229_9 hHeld ⊢
   refine pu HT_ 0 13 1 (h := ?_)
   refine pu HT_ 1 14 3 (h := ?_)
   refine pu HT_ 2 15 7 (h := ?_)
   refine pu HT_ 3 16 15 (h := ?_)
   refine pu HT_ 4 17 31 (h := ?_)
   refine pu HT_ 5 18 63 (h := ?_)
   refine tk HT_ HW_ hHeld 6 19 127 (h := ?_)
   refine on HT_ 7 (some 20) 255 (h:=fun K hK => ?_)
   refine gS Tryz.func39 #[.slice (some ad229) y225.length c0, .agg #[.int .i64 ((Qad l0 x3_1).f0), .int .i64 ((Qad l0 x3_1).f1), .int .i64 ((Qad l0 x3_1).f2), .int .i64 ((Qad l0 x3_1).f3.f0), .int .i64 ((Qad l0 x3_1).f3.f1), .int .i64 ((Qad l0 x3_1).f3.f2), .string ((Qad l0 x3_1).f4), .slice A229_7 ((Qad l0 x3_1).f5).length c229_7, .int .i64 ((Qad l0 x3_1).f6), .int .i64 ((Qad l0 x3_1).f7), .int .i64 ((Qad l0 x3_1).f8)]] (h := ?_)
   with_reducible refine (r4_Goes.calls k1 _ _ y225 ((Qad l0 x3_1).f0) ((Qad l0 x3_1).f1) ((Qad l0 x3_1).f2) ((Qad l0 x3_1).f3.f0) ((Qad l0 x3_1).f3.f1) ((Qad l0 x3_1).f3.f2) ((Qad l0 x3_1).f4) _ _ ((Qad l0 x3_1).f5) ((Qad l0 x3_1).f6) ((Qad l0 x3_1).f7) ((Qad l0 x3_1).f8) false _ ?side1 ?side2 ?side3 ?side4 ?side5 A6.out).mono ?_
   (case side1 => exact cb HR228 HB)
   (case side2 => exact HC228.out)
   (case side3 => exact cb HR229_7 HB)
   (case side4 => exact HC229_7.out)
   (case side5 => exact (hT.below (bw HB)))
   rintro e w13 ⟨rfl,hb⟩
   refine ⟨_,rfl, ?_⟩
   have n0_:=bs HB hb
   clear HB
   have HB:=n0_
   clear n0_
   (try clear hb)
   (try clear hb2)
   (try clear hk)
   (try clear hi)
   refine hK.out _ _ ⟨(cW HB hw229_0),(cW HB hw229_1),(cW HB hw229_2),(cW HB hw229_3),(cW HB hw229_4),(cW HB hw229_5),(cW HB hw229_6),(cW HB hw229_7),(cW HB hw229_8),(cW HB hw229_9),(cW HB hw229_10)⟩ (fun hHeld => ?_)
   clear hK K
   refine nn 20 (h := ?_)
   refine pu HT_ 8 21 511 (h := ?_)
   refine dn HT_ (h := ?_)
   try go_wp2
   go_ret
   exact ⟨re,bw HB⟩
end
section
def t_tree_With.T1 : Bool × List (List Nat × List Nat):=(true,[([],[]),([0],[0]),([],[]),([2],[2]),([1,3,1],[1,3]),([4,4,0,1,2,3,4],[4])])
def t_tree_With.B1 : List Nat:=[0,1,0,4,15,31]
theorem t_tree_With.tab1 : rtab .any (Qdb Tryz.f87 1) = t_tree_With.T1:=by kernel_rfl
theorem t_tree_With.bits1 : Qay t_tree_With.T1.2 t_tree_With.B1 = true:=by kernel_rfl
end
section
theorem reads_flat {α : Type} (d : Kd α) {w : World} {ad : Addr} {n : Nat} {ps : List α} (h : d.C w (some ad) n ps) (h0 : 0 < n) : ∃ cs,Reps (d.K w) d.sz ps cs /\ ∀ i u,cs[i]? = some u -> w.cell? (ad.add i) = some u:=by
 obtain ⟨hn,hm,hc⟩:=h
 obtain ⟨ad',e,hc⟩:=hc h0
 injection e with e
 subst e
 have key : ∀ k,k <= ps.length -> ∃ cs,Reps (d.K w) d.sz (ps.take k) cs /\ ∀ i u,cs[i]? = some u -> w.cell? (ad.add i) = some u:=by
  intro k
  induction k with
  | zero => intro _; exact ⟨[],by rw [List.take_zero]; exact Reps.none _ _,by simp⟩
  | succ k ih =>
   intro hk
   obtain ⟨cs,hR,hcs⟩:=ih (by omega)
   obtain ⟨c,hs,hK,hcell⟩:=hc k _ (List.getElem?_eq_getElem (by omega))
   refine ⟨cs ++ c,by rw [List.take_succ_eq_append_getElem (by omega)]; exact Reps.snoc hR hK hs,fun i u hu => ?_⟩
   have hl : cs.length = k * d.sz:=by have:=hR.1; rw [List.length_take] at this; rw [this]; congr 1; omega
   rcases Nat.lt_or_ge i cs.length with hi | hi
   ·rw [List.getElem?_append_left hi] at hu; exact hcs i u hu
   ·rw [List.getElem?_append_right hi] at hu
    have:=hcell (i - cs.length) u hu
    rwa [<- hl,Nat.add_sub_cancel' hi] at this
 have:=key ps.length (Nat.le_refl _)
 rwa [List.take_length] at this
theorem C_append_full {α : Type} (d : Kd α) {P : Program} (w : World) (t ty e : TypeId) (i : TypeInfo) (z : Value) (bytes : Nat) (ht : P.underlying t = some (.slice e)) (hi : P.info? e = some i) (hz : i.zero = some z) (hsize : i.size = d.sz) (hby : i.bytes = bytes) (hzs : z.cells.size = d.sz) (hsz : 0 < d.sz)
  (A : Option Addr) (xs : List α) (h : d.C w A xs.length xs) (hA : A = none -> xs.length = 0) (a : Addr) (p : α) (news : List Value) (hK : d.K w p news) (hnews : ∀ j u,news[j]? = some u -> w.cell? (a.add j) = some u)
  (hbytes : (xs.length + 1) * bytes <= 140737488355328) (hlen : xs.length + 1 <= maxLen) :
  ∃ A' c' w',(Builtin.append_ #[t,t] ty #[.slice A xs.length xs.length, .slice (some a) 1 1]).run P w = .ok (.slice A' (xs.length + 1) c') w' /\ xs.length + 1 <= c' /\ d.C w' A' (xs.length + 1) (xs ++ [p]) /\ Below w.heap.size w w':=by
 have hn:=d.K_len hK
 have hl1 : news.length = 1 * d.sz:=by omega
 have fin : ∀ (olds : List Value) (v' : Value) (w' : World),Reps (d.K w) d.sz xs olds -> w'.ownsRow w.heap.size e d.sz v' (xs.length + 1) (olds ++ news) -> w.grownBy w' none -> ∃ A' c',v' = .slice A' (xs.length + 1) c' /\ xs.length + 1 <= c' /\ d.C w' A' (xs.length + 1) (xs ++ [p]) /\ Below w.heap.size w w':=by
  intro olds v' w' hR ho hg
  have hb : Below w.heap.size w w':=pw_below_grown (Below.refl _ _) none (Nat.le_refl _) hg (fun k hk => by cases hk)
  obtain ⟨A',c',e',hr⟩:=own_reads_row ho ((hR.snoc hK hn).imp_ (fun _ _ hk => d.K_below hb hk)) (by simp)
  refine ⟨A',c',e', ?_,hr,hb⟩
  rcases ho.2 with ⟨_,h0⟩ | ⟨g,cap,cur,e2,_,_,hcap,_⟩
  ·omega
  ·rw [e'] at e2; injection e2 with _ _ e3; omega
 cases A with
 | none =>
  have h0:=hA rfl
  have hx : xs = []:=List.eq_nil_of_length_eq_zero h0
  subst hx
  obtain ⟨v',w',hrun,r1,r2,_⟩:=run_append_own (P:=P) w w.heap.size t ty e i z d.sz bytes ht hi hz hsize hby hzs hsz (.slice none 0 0) 0 [] (World.ownsRow_nil w _ e d.sz) a 1 1 news hl1 hnews (d.K_one hK) (by simpa using hlen) (by simpa using hbytes) (Nat.le_refl _)
  obtain ⟨A',c',rfl,k1,k2,k3⟩:=fin [] v' w' (Reps.none _ _) (by simpa using r1) r2
  exact ⟨A',c',w',hrun,k1,k2,k3⟩
 | some b =>
  rcases Nat.eq_zero_or_pos xs.length with h0 | h0
  ·have hx : xs = []:=List.eq_nil_of_length_eq_zero h0
   subst hx
   obtain ⟨v',w',hrun,r1,r2⟩:=run_append_arg_grows (P:=P) w t ty e i z d.sz bytes ht hi hz hsize hby hzs hsz b 0 0 [] (by simp) (by simp) a 1 1 news hl1 hnews (by omega) (by simpa using hlen) (by simpa using hbytes)
   obtain ⟨A',c',rfl,k1,k2,k3⟩:=fin [] v' w' (Reps.none _ _) (by simpa using r1) r2
   exact ⟨A',c',w',hrun,k1,k2,k3⟩
  ·obtain ⟨olds,hR,ho⟩:=reads_flat d h h0
   obtain ⟨v',w',hrun,r1,r2⟩:=run_append_arg_grows (P:=P) w t ty e i z d.sz bytes ht hi hz hsize hby hzs hsz b xs.length xs.length olds hR.1 ho a 1 1 news hl1 hnews (by omega) hlen hbytes
   obtain ⟨A',c',rfl,k1,k2,k3⟩:=fin olds v' w' hR r1 r2
   exact ⟨A',c',w',hrun,k1,k2,k3⟩
theorem exec_append {P : Program} {a : Act} {oi : Oper} {w w' : World} {s x : Operand} {t : TypeId} {u sv xv : Value} (hop : oi.op = Op.call { callee:=Callee.builtin Builtin.append,args:=#[s,x],argTypes:=#[t,t] }) (hs : a.eval s = sv) (hx : a.eval x = xv)
  (hrun : (Builtin.append_ #[t,t] oi.type #[sv,xv]).run P w = .ok u w') : (execOp a.eval oi).run P w = .ok (.value u) w':=by
 simp [execOp,hop,resolve,invoke,builtin,hs,hx,hrun]
theorem none_empty {A0 : Option Addr} {l0 : List SOp} {w : World} (hr0 : Kd.C kOp w A0 l0.length l0) (hA : A0 = none) : l0.length = 0:=by
 subst hA
 rcases Nat.eq_zero_or_pos l0.length with h | h
 ·exact h
 ·obtain ⟨ad,_,_,e,_⟩:=Qcg hr0 0 (Int.le_refl _) (by omega)
  cases e
theorem Clip_calls (A0 : Option Addr) (c0 : Nat) (l0 : List (SOp)) (w : World) (hr0 : Kd.C kOp w A0 l0.length l0) (hc0 : l0.length <= c0) (hl : l0.length <= 1000000) :
  Calls Tryz.prog 124 #[.slice A0 l0.length c0] w fun e w' => e = .returned (.slice A0 l0.length l0.length) /\ w' = w:=by
 have hu:=Tryz.underlying24
 cases A0 with
 | none =>
  have h0:=none_empty hr0 rfl
  rw [h0] at hc0 ⊢
  have hcz : (0 : Int) <= (c0 : Int):=by omega
  go_enter Tryz.func124,Tryz.ntmps124
  go_wp2
  go_ret
  exact ⟨rfl,rfl⟩
 | some a =>
  have hcz : (l0.length : Int) <= (c0 : Int):=by omega
  have hcz2 : (0 : Int) <= (l0.length : Int):=by omega
  clear hr0
  generalize l0.length = n at hc0 hl hcz hcz2 ⊢
  go_enter Tryz.func124,Tryz.ntmps124
  go_wp2
  go_ret
  exact ⟨rfl,rfl⟩
theorem infoOp : (Tryz.prog.info? 34).map (fun i => (i.zero,i.size,i.bytes)) = some (some (.agg #[(.int .i64 0),(.int .i64 0),(.int .i64 0),(.int .i64 0),(.int .i64 0),(.int .i64 0),(.string ⟨#[]⟩),(.slice none 0 0),(.int .i64 0),(.int .i64 0),(.int .i64 0)]),11,112):=by kernel_rfl
abbrev opCells (o : SOp) (A7 : Option Addr) (c7 : Nat) : List Value:=[.int .i64 o.f0, .int .i64 o.f1, .int .i64 o.f2, .int .i64 o.f3.f0, .int .i64 o.f3.f1, .int .i64 o.f3.f2, .string o.f4, .slice A7 o.f5.length c7, .int .i64 o.f6, .int .i64 o.f7, .int .i64 o.f8]
abbrev S11 (W : World) (g : Nat) (o : SOp) (A7 : Option Addr) (c7 : Nat) : Prop:=W.cell? ⟨g,0,none⟩ = some (.int .i64 o.f0) /\ W.cell? ⟨g,1,none⟩ = some (.int .i64 o.f1) /\ W.cell? ⟨g,2,none⟩ = some (.int .i64 o.f2) /\ W.cell? ⟨g,3,none⟩ = some (.int .i64 o.f3.f0) /\ W.cell? ⟨g,4,none⟩ = some (.int .i64 o.f3.f1) /\ W.cell? ⟨g,5,none⟩ = some (.int .i64 o.f3.f2) /\ W.cell? ⟨g,6,none⟩ = some (.string o.f4) /\ W.cell? ⟨g,7,none⟩ = some (.slice A7 o.f5.length c7) /\ W.cell? ⟨g,8,none⟩ = some (.int .i64 o.f6) /\ W.cell? ⟨g,9,none⟩ = some (.int .i64 o.f7) /\ W.cell? ⟨g,10,none⟩ = some (.int .i64 o.f8)
theorem S11.below {W W' : World} {g : Nat} {o : SOp} {A7 : Option Addr} {c7 : Nat} (h : S11 W g o A7 c7) (hb : Below W.heap.size W W') : S11 W' g o A7 c7:=by
 obtain ⟨h0,h1,h2,h3,h4,h5,h6,h7,h8,h9,h10⟩:=h
 exact ⟨Qab hb h0,Qab hb h1,Qab hb h2,Qab hb h3,Qab hb h4,Qab hb h5,Qab hb h6,Qab hb h7,Qab hb h8,Qab hb h9,Qab hb h10⟩
theorem S11.boxed (w : World) (o : SOp) (A7 : Option Addr) (c7 : Nat) (t : TypeId) : S11 (w.alloc (.cells (opCells o A7 c7).toArray t)) w.heap.size o A7 c7:=by
 refine ⟨?_, ?_, ?_, ?_, ?_, ?_, ?_, ?_, ?_, ?_, ?_⟩ <;> simp
theorem exK {P : Program} {ops : Array Oper} {Q : Exit -> Act -> World -> Prop} {S : World -> Prop} {F : Act -> World -> Prop} {K : Act -> World -> Prop} {oi : Oper} {a : Act} {w : World} {N : Option Tmp} (hK : Shut (∀ a' w',S w' -> (S w' -> F a' w') -> K a' w')) (u : Value) (w' : World) (hw : Region.wanted oi (yielded ops a.tmps) = true:=by rfl) (hN : oi.dst = N:=by rfl)
  (hrun : (execOp a.eval oi).run P w = .ok (.value u) w') (hS : S w') (h : S w' -> F (a.put N u) w') : if Region.wanted oi (yielded ops a.tmps) = true then Oper.wp P oi a w K Q else K (a.put N undef) w:=by
 rw [if_pos hw]
 unfold Oper.wp
 rw [hrun,Oper.upon_value,hN]
 exact hK.out _ w' hS h
theorem with_app {A0 : Option Addr} {l0 : List SOp} {o : SOp} {A7 : Option Addr} {c7 : Nat} {w w1 : World} (hb1 : Below w.heap.size w w1) (hl : l0.length <= 1000000) (hr0 : Kd.C kOp w A0 l0.length l0) (hr7 : Kd.C Qap w A7 o.f5.length o.f5) (hc7 : o.f5.length <= c7) :
  ∃ A' c' w',(Builtin.append_ #[24,24] 24 #[.slice A0 l0.length l0.length, .slice (some ⟨w1.heap.size,0,none⟩) 1 1]).run Tryz.prog (w1.alloc (.cells (opCells o A7 c7).toArray 34)) = .ok (.slice A' (l0.length + 1) c') w' /\ l0.length + 1 <= c' /\ Kd.C kOp w' A' (l0.length + 1) (l0 ++ [o]) /\ Below w.heap.size w w':=by
 obtain ⟨i,hi,hiv⟩:=Option.map_eq_some_iff.1 infoOp
 simp only [Prod.mk.injEq] at hiv
 have hb2 : Below w.heap.size w (w1.alloc (.cells (opCells o A7 c7).toArray 34)):=Qag hb1 _
 obtain ⟨A',c',w',hrun,k1,k2,k3⟩:=C_append_full kOp (P:=Tryz.prog) (w1.alloc (.cells (opCells o A7 c7).toArray 34)) 24 24 34 i _ 112 Tryz.underlying24 hi hiv.1 hiv.2.1 hiv.2.2 rfl (by decide)
  A0 l0 (Kd.C_below hr0 hb2) (fun hA => none_empty hr0 hA) ⟨w1.heap.size,0,none⟩ o (opCells o A7 c7) (kOp_mk _ o hc7 (Kd.C_below hr7 hb2)) (fun j u hu => by
   have:=top_cell w1 (opCells o A7 c7).toArray 34 w1.heap.size j rfl
   have ea : (⟨w1.heap.size,0,none⟩ : Addr).add j = ⟨w1.heap.size,j,none⟩:=by rw [Addr.add_lit,Nat.zero_add]
   rw [ea,this]; simpa using hu) (by omega) (by unfold maxLen; omega)
 exact ⟨A',c',w',hrun,k1,k2,Qas hb2 k3⟩
theorem tree_With.calls (A0 : Option Addr) (c0 : Nat) (l0 : List SOp) (o : SOp) (A7 : Option Addr) (c7 : Nat) (w : World) (hr0 : Kd.C kOp w A0 l0.length l0) (hc0 : l0.length <= c0) (hr7 : Kd.C Qap w A7 o.f5.length o.f5) (hc7 : o.f5.length <= c7) (hl : l0.length <= 1000000) :
  Calls Tryz.prog 87 #[.slice A0 l0.length c0, .agg (opCells o A7 c7).toArray] w fun e w' => ∃ A c,e = .returned (.slice A (l0.length + 1) c) /\ l0.length + 1 <= c /\ Kd.C kOp w' A (l0.length + 1) (l0 ++ [o]) /\ Below w.heap.size w w':=by
 have HCL:=Zz.k (fun W (hb : Below w.heap.size w W) => Clip_calls A0 c0 l0 W (Kd.C_below hr0 hb) hc0 hl)
 have HAL:=Zz.k (Qag (Below.refl w.heap.size w) (.cells (opCells o A7 c7).toArray 34))
 have hbx:=S11.boxed w o A7 c7 34
 obtain ⟨b0,b1,b2,b3,b4,b5,b6,b7,b8,b9,b10⟩:=hbx
 have HB:=Zz.k (S11.boxed w o A7 c7 34)
 have HR0:=Zz.k hr0
 have HR7:=Zz.k hr7
 have HL:=Zz.k hl
 clear hr0 hr7 hl
 go_enter Tryz.func87,Tryz.ntmps87
 go_wp2_with fail
 refine stL (S:=fun w' => S11 w' w.heap.size o A7 c7) [4] 6 t_tree_With.bits1 t_tree_With.tab1 (hS:=⟨b0,b1,b2,b3,b4,b5,b6,b7,b8,b9,b10⟩) (h:=fun hS HT HW => ?_)
 refine pu HT 0 5 1 (h := ?_)
 refine tk HT HW hS 2 7 5 (h := ?_)
 have HB1:=Zz.k (Qae HAL.out)
 clear b0 b1 b2 b3 b4 b5 b6 b7 b8 b9 b10
 generalize (w.alloc (.cells (opCells o A7 c7).toArray 34)).drew = w1 at HB1 hS ⊢
 have HS2:=Zz.k (S11.below hS (Qag (Below.refl _ w1) (.cells (opCells o A7 c7).toArray 34)))
 refine two_ (i:=1) (j:=3) (Ni:=some 6) (Nj:=some 8) (bA 6 7) (bA 6 13) rfl rfl rfl rfl (two_of HT.out (by kernel_rfl)) (by decide) (by decide) (fun K hK => ?_) (fun K hK => ?_)
 ·refine gS Tryz.func124 #[.slice A0 l0.length c0] (h := ?_)
  refine (HCL.out _ HB1.out).mono ?_
  rintro e w3 ⟨rfl,rfl⟩
  refine ⟨_,rfl, ?_⟩
  refine hK.out _ _ hS (fun hS => ?_)
  clear hK
  refine nm (h := ?_)
  refine exS HT 3 (some 8) 15 (.slice (some ⟨w3.heap.size,0,none⟩) 1 1) (w3.alloc (.cells (opCells o A7 c7).toArray 34)) (hrun := ?_) (hS:=HS2.out) (h:=fun hS' => ?_)
  ·clear HT HW hS
   go_simp
  refine nm (h := ?_)
  obtain ⟨A',c',w',hrun,hk⟩:=with_app HB1.out HL.out HR0.out HR7.out hc7
  have HK:=Zz.k hk
  clear hk hS hS'
  refine exL HT 4 (some 9) 31 (.slice A' (l0.length + 1) c') w' (hrun:=exec_append rfl rfl rfl hrun) (h := ?_)
  refine nm (h := ?_)
  refine pu HT 5 4 63 (h := ?_)
  refine dn HT (h := ?_)
  clear HT HW hrun
  go_wp2
  go_ret
  exact ⟨A',c',rfl,HK.out.1,HK.out.2.1,HK.out.2.2⟩
 ·refine exK hK (.slice (some ⟨w1.heap.size,0,none⟩) 1 1) (w1.alloc (.cells (opCells o A7 c7).toArray 34)) (hrun := ?_) (hS:=HS2.out) (h:=fun hS' => ?_)
  ·clear HT HW hS hK
   go_simp
  clear hK
  refine nm (h := ?_)
  refine ca HT 1 (some 6) 15 #[.slice A0 l0.length c0] Tryz.func124 (h:=fun K hK => ?_)
  refine (HCL.out _ (Qag HB1.out _)).mono ?_
  rintro e w3 ⟨rfl,rfl⟩
  refine ⟨_,rfl, ?_⟩
  refine hK.out _ _ HS2.out (fun hS => ?_)
  clear hK
  refine nm (h := ?_)
  obtain ⟨A',c',w',hrun,hk⟩:=with_app HB1.out HL.out HR0.out HR7.out hc7
  have HK:=Zz.k hk
  clear hk hS hS'
  refine exL HT 4 (some 9) 31 (.slice A' (l0.length + 1) c') w' (hrun:=exec_append rfl rfl rfl hrun) (h := ?_)
  refine nm (h := ?_)
  refine pu HT 5 4 63 (h := ?_)
  refine dn HT (h := ?_)
  clear HT HW hrun
  go_wp2
  go_ret
  exact ⟨A',c',rfl,HK.out.1,HK.out.2.1,HK.out.2.2⟩
end
section
theorem with_len (l : List SOp) (o : SOp) : (l ++ [o]).length = l.length + 1:=by simp
theorem May_of {A : Option Addr} {c : Nat} {l : List SOp} {o : SOp} {W : World} (hC : Kd.C kOp W A (l.length + 1) (l ++ [o])) (hc : l.length + 1 <= c) (hs : smalls (l ++ [o]) = true) (b : Bool) (hb : mayB (l ++ [o]) = b) :
  Calls Tryz.prog 44 #[.slice A (l.length + 1) c] W fun e w' => e = .returned (.bool b) /\ Below W.heap.size W w':=by
 have:=tree_May.calls A c (l ++ [o]) b W (by rw [with_len]; exact hC) (by rw [with_len]; exact hc) (by rw [tree_May_f hs,hb])
 rw [with_len] at this
 exact this
theorem full_calls (A0 : Option Addr) (c0 : Nat) (l0 : List SOp) (a0 a1 a2 a3 a4 a5 : Int) (a6 : ByteArray) (l7 : List SElem) (a8 a9 a10 : Int) (A7 : Option Addr) (c7 : Nat) (b : Bool) (w : World) (hr0 : Kd.C kOp w A0 l0.length l0) (hc0 : l0.length <= c0) (hr7 : Kd.C Qap w A7 l7.length l7) (hc7 : l7.length <= c7) (hl : l0.length <= 1000000) (hsm : smalls (l0 ++ [⟨a0,a1,a2,⟨a3,a4,a5⟩,a6,l7,a8,a9,a10⟩]) = true) (hm : mayB (l0 ++ [⟨a0,a1,a2,⟨a3,a4,a5⟩,a6,l7,a8,a9,a10⟩]) = b) :
  Calls Tryz.prog 53 #[.slice A0 l0.length c0, .agg #[.int .i64 a0, .int .i64 a1, .int .i64 a2, .int .i64 a3, .int .i64 a4, .int .i64 a5, .string a6, .slice A7 l7.length c7, .int .i64 a8, .int .i64 a9, .int .i64 a10]] w fun e w' =>
   (if b = true then e = .returned (.tuple #[.agg #[.int .i64 a0, .int .i64 a1, .int .i64 a2, .int .i64 a3, .int .i64 a4, .int .i64 a5, .string a6, .slice A7 l7.length c7, .int .i64 a8, .int .i64 a9, .int .i64 a10], .int .i64 0]) else e = .returned (.tuple #[.agg #[.int .i64 0, .int .i64 0, .int .i64 0, .int .i64 0, .int .i64 0, .int .i64 0, .string (⟨#[]⟩ : ByteArray), .slice none 0 0, .int .i64 0, .int .i64 0, .int .i64 0], .int .i64 6])) /\ Below w.heap.size w w':=by
 have hu32:=Tryz.underlying34
 have HR0:=Zz.k hr0
 have HR7:=Zz.k hr7
 have HC0:=Zz.k hc0
 have HC7:=Zz.k hc7
 have HL:=Zz.k hl
 have HSM:=Zz.k hsm
 have HB:=Zz.k (Below.refl w.heap.size w)
 clear hr0 hr7 hc0 hc7 hl hsm
 have HM:=Zz.k hm
 clear hm
 cases b
 case' false =>
  simp only [Bool.false_eq_true,if_false]
 case' true =>
  simp only [if_true]
 all_goals
  go_enter Tryz.func53,Tryz.ntmps53
  go_wp2_with (first | ((with_reducible refine Qaf (N:=3) rfl ?_); refine bx 3 #[.int .i64 a0, .int .i64 a1, .int .i64 a2, .int .i64 a3, .int .i64 a4, .int .i64 a5, .string a6, .slice A7 l7.length c7, .int .i64 a8, .int .i64 a9, .int .i64 a10] 34 (h := ?_); intro gb1 hg w7 hbox hb; have BK1:=Zz.k (hbox); replace HB:=bs HB hb; clear hb hbox hg) | ((with_reducible refine Qaf (N:=4) rfl ?_); refine bx 4 #[.int .i64 0, .int .i64 0, .int .i64 0, .int .i64 0, .int .i64 0, .int .i64 0, .string (⟨#[]⟩ : ByteArray), .slice none 0 0, .int .i64 0, .int .i64 0, .int .i64 0] 34 (h := ?_); intro gb2 hg w8 hbox hb; have BK2:=Zz.k (hbox); have GE2:=Zz.k ((by rw [hg]; exact (Qal (bw HB)) : w.heap.size <= gb2)); have NB1:=bn BK1 hg; have NB2:=bm BK1 hg; replace BK1:=bl BK1 hb; replace HB:=bs HB hb; clear hb hbox hg; have hnb9:=NB1.out; have hnc9:=NB2.out; obtain ⟨_,_,_,_,_,_,_,_,_,_,_,_,_,_,_,_,_,_,_,_,_,_⟩:=kc11 BK1) | ((with_reducible refine Qac (f:=87) rfl ?_); refine gl (some 8) Tryz.func87 #[.slice A0 l0.length c0, .agg #[.int .i64 a0, .int .i64 a1, .int .i64 a2, .int .i64 a3, .int .i64 a4, .int .i64 a5, .string a6, .slice A7 l7.length c7, .int .i64 a8, .int .i64 a9, .int .i64 a10]] (h := ?_); (refine (tree_With.calls A0 c0 l0 ⟨a0,a1,a2,⟨a3,a4,a5⟩,a6,l7,a8,a9,a10⟩ A7 c7 _ (Kd.C_below HR0.out HB.out) HC0.out (Kd.C_below HR7.out HB.out) HC7.out HL.out).mono ?_); rintro e w11 ⟨A2,c2,rfl,hc2,hC2,hb⟩; refine ⟨_,rfl, ?_⟩; have HC2:=Zz.k (And.intro hc2 hC2); replace BK1:=bl BK1 hb; replace BK2:=bl BK2 hb; replace HB:=bs HB hb; clear hb hc2 hC2) | ((with_reducible refine Qac (f:=44) rfl ?_); refine gl (some 9) Tryz.func44 #[.slice A2 (l0.length + 1) c2] (h := ?_); (refine (May_of HC2.out.2 HC2.out.1 HSM.out _ HM.out).mono ?_); rintro e w13 ⟨rfl,hb⟩; refine ⟨_,rfl, ?_⟩; replace BK1:=bl BK1 hb; replace BK2:=bl BK2 hb; replace HB:=bs HB hb; clear hb; obtain ⟨_,_,_,_,_,_,_,_,_,_,_,_,_,_,_,_,_,_,_,_,_,_⟩:=kc11 BK1; obtain ⟨_,_,_,_,_,_,_,_,_,_,_,_,_,_,_,_,_,_,_,_,_,_⟩:=kc11 BK2))
 ·refine bodyPost_ret (Qbv rfl _ _ gb2 34 #[.int .i64 a0, .int .i64 a1, .int .i64 a2, .int .i64 a3, .int .i64 a4, .int .i64 a5, .string a6, .slice A7 l7.length c7, .int .i64 a8, .int .i64 a9, .int .i64 a10] (0,0) _ rfl (bp11 (kk BK2)) hu32 rfl (by kernel_rfl)) rfl ?_
  exact ⟨rfl,bw HB⟩
 ·refine bodyPost_ret (Qbv rfl _ _ gb2 34 #[.int .i64 0, .int .i64 0, .int .i64 0, .int .i64 0, .int .i64 0, .int .i64 0, .string (⟨#[]⟩ : ByteArray), .slice none 0 0, .int .i64 0, .int .i64 0, .int .i64 0] (0,0) _ rfl (bp11 (kk BK2)) hu32 rfl (by kernel_rfl)) rfl ?_
  exact ⟨rfl,bw HB⟩
end
section
abbrev RE (w : World) (base : Nat) (v : Value) (xs : List SElem) : Prop:=Qap.R 32 w base (fun _ => True) v xs
theorem RE_set {w : World} {base g n c : Nat} {xs : List SElem} (h : RE w base (.slice (some ⟨g,0,none⟩) n c) xs) (i : Nat) (hi : i < n) (x : SElem) :
  RE (((w.setCell ⟨g,i * 3,none⟩ (.int .i64 x.f0)).setCell ⟨g,i * 3 + 1,none⟩ (.int .i64 x.f1)).setCell ⟨g,i * 3 + 2,none⟩ (.int .i64 x.f2)) base (.slice (some ⟨g,0,none⟩) n c) (xs.set i x) /\
   w.grownBy (((w.setCell ⟨g,i * 3,none⟩ (.int .i64 x.f0)).setCell ⟨g,i * 3 + 1,none⟩ (.int .i64 x.f1)).setCell ⟨g,i * 3 + 2,none⟩ (.int .i64 x.f2)) (some g):=by
 obtain ⟨cs,hl,hM,hc,hf⟩:=Kd.R_elem h zElem (i : Int) (by omega) (by omega)
 have hl3 : cs.length = 3:=hl
 have:=Kd.R_seg h (i : Int) (by omega) (by omega) (c:=cs) (seg:=[.int .i64 x.f0, .int .i64 x.f1, .int .i64 x.f2]) (j:=0) (x':=x) (okp:=fun k => True /\ k ≠ g) hl hc (by show 0 + 3 <= 3; omega) (by
  have : cs.take 0 ++ [Value.int .i64 x.f0, .int .i64 x.f1, .int .i64 x.f2] ++ cs.drop (0 + [Value.int .i64 x.f0, .int .i64 x.f1, .int .i64 x.f2].length) = [.int .i64 x.f0, .int .i64 x.f1, .int .i64 x.f2]:=by
   rw [List.take_zero,List.nil_append,List.drop_eq_nil_of_le (by simp; omega),List.append_nil]
  rw [this]; exact Qcd _ _ _ x) (fun k hk => hk)
 exact this
theorem grown_then {w w1 w2 : World} {row : Option Nat} (h : w.grownBy w1 row) (k : Below w1.heap.size w1 w2) : w.grownBy w2 row :=
 ⟨k.os.trans h.os,k.tape.trans h.tape,k.output.trans h.output,Nat.le_trans h.size k.size,fun i hi hne => (k.block i (Nat.lt_of_lt_of_le hi h.size)).trans (h.block i hi hne)⟩
theorem grown_grown {w w1 w2 : World} {row : Option Nat} (h : w.grownBy w1 row) (k : w1.grownBy w2 row) : w.grownBy w2 row :=
 ⟨k.os.trans h.os,k.tape.trans h.tape,k.output.trans h.output,Nat.le_trans h.size k.size,fun i hi hne => (k.block i (Nat.lt_of_lt_of_le hi h.size) hne).trans (h.block i hi hne)⟩
theorem filter_first (l : List SElem) (p : SElem -> Bool) {i : Nat} (hi : i < l.length) (hpi : p (Qaa l (i : Int)) = true) (hlt : ∀ j,j < i -> p (Qaa l (j : Int)) = false) : l.take i = (l.take (i + 1)).filter (fun x => !p x):=by
 rw [List.take_succ_eq_append_getElem hi,List.filter_append]
 rw [Qat _ _ hi] at hpi
 have h1 : (l.take i).filter (fun x => !p x) = l.take i:=by
  rw [List.filter_eq_self]
  intro x hx
  obtain ⟨j,hj,rfl⟩:=List.mem_take_iff_getElem.1 hx
  have:=hlt j (by omega)
  rw [Qat _ _ (by omega)] at this
  simp [this]
 rw [h1]; simp [hpi]
def zs (n : Nat) : List Value:=(Builtin.zeroCells #[.int .i64 0, .int .i64 0, .int .i64 0] n).toList
theorem zs_len (n : Nat) : (zs n).length = n * 3:=by simp [zs,Builtin.zeroCells]
theorem zs_one (n : Nat) : ∀ v ∈ zs n,v.oneCell' = true:=by
 intro v hv
 unfold zs Builtin.zeroCells at hv
 simp only [Array.toList_map,List.mem_map] at hv
 obtain ⟨i,_,rfl⟩:=hv
 have h : i % 3 = 0 \/ i % 3 = 1 \/ i % 3 = 2:=by omega
 show (#[Value.int .i64 0, .int .i64 0, .int .i64 0][i % 3]!).oneCell' = true
 rcases h with h | h | h <;> rw [h] <;> rfl
theorem run_clear_elem (w : World) (ty : TypeId) (b o n c : Nat) (hn : 0 < n) (hc : ∀ j,j < n * 3 -> (w.cell? ⟨b,o + j,none⟩).isSome = true) (hf : ∀ j,j < n * 3 -> w.frozen? ⟨b,o + j,none⟩ = false) :
  (Builtin.clear_ #[23] ty #[.slice (some ⟨b,o,none⟩) n c]).run Tryz.prog w = .ok (.tuple #[]) (w.setCells b o (zs n)):=by
 have hst:=run_storeCells_cells (P:=Tryz.prog) b o (zs n) 0 w (by rw [zs_len]; simpa using hc) (by rw [zs_len]; simpa using hf) (zs_one n)
 simp only [Nat.add_zero] at hst
 have hv:=Tryz.zeroValue32
 obtain ⟨m,rfl⟩ : ∃ m,n = m + 1:=⟨n - 1,by omega⟩
 simp only [Builtin.clear_]
 unfold zs at hst ⊢
 simp [run_underlying Tryz.underlying23,hv,Value.cells,hst]
theorem RE_clear {w : World} {base g n c : Nat} {xs : List SElem} (h : RE w base (.slice (some ⟨g,0,none⟩) n c) xs) (a : Nat) (ha : a <= n) (seg : List Value) (hs : a * 3 + seg.length <= n * 3) :
  RE (w.setCells g (a * 3) seg) base (.slice (some ⟨g,0,none⟩) a c) (xs.take a) /\ w.grownBy (w.setCells g (a * 3) seg) (some g) /\ (∀ j,j < n * 3 -> (w.cell? ⟨g,j,none⟩).isSome = true) /\ ∀ j,w.frozen? ⟨g,j,none⟩ = false:=by
 have hn:=(Kd.R_reads' h).1
 obtain ⟨_,inner0,own0,hr0⟩:=h
 have hT:=Kd.R_take (m:=a) (show RE w base (.slice (some ⟨g,0,none⟩) n c) xs from ⟨fun _ _ => trivial,inner0,own0,hr0⟩) (by omega)
 obtain ⟨hok,inner,ho,hr⟩:=hT
 obtain ⟨ho1,ho2⟩:=ho
 obtain ⟨_,ho02⟩:=own0
 rcases ho02 with ⟨hv,_⟩ | ⟨g0,cap0,cur0,hv0,hb0,hh0,hnc0,hcm0,hcs0,ht0⟩
 ·cases hv
 rcases ho2 with ⟨hv,_⟩ | ⟨g',cap',cur,hv,hb,hh,hnc',hcm,hcs,ht⟩
 ·cases hv
 injection hv with hA _ hc
 injection hA with hA
 injection hA with hg
 subst hg; subst hc
 injection hv0 with hA _ hc
 injection hA with hA
 injection hA with hg
 subst hg; subst hc
 have e : cur0 = cur:=by
  rw [hh] at hh0; injection hh0 with hh0; injection hh0 with hh0; exact hh0.symm
 subst e
 have hfit : a * 3 + seg.length <= cur0.size:=by
  have h3 : Qap.sz = 3:=rfl
  rw [hcs0,h3]; omega
 obtain ⟨cur',h3,h4,h5⟩:=setCells_row seg (a * 3) w cur0 hh hfit
 obtain ⟨s1,s2,s3,s4⟩:=setCells_same g seg (a * 3) w
 refine ⟨⟨hok,inner,⟨ho1, .inr ⟨g,c,cur',by rw [List.length_take,Nat.min_eq_left (by omega)],hb,h3,hnc',hcm,by rw [h4,hcs], ?_⟩⟩,hr⟩,⟨s1,s2,s3,by rw [s4]; exact Nat.le_refl _,fun k _ hk => setCells_far seg _ k (fun he => hk (by rw [he]))⟩,fun j hj => ?_,fun j => blk_frozen hh j⟩
 ·rw [<- ht,h5]
  have hl : (cur0.toList.take (a * 3)).length = a * 3:=by rw [List.length_take,Array.length_toList]; omega
  have h33 : (xs.take a).length * 3 = a * 3:=by rw [List.length_take]; omega
  show List.take ((xs.take a).length * 3) _ = List.take ((xs.take a).length * 3) _
  rw [h33,List.append_assoc,List.take_append_of_le_length (by omega),List.take_take,Nat.min_self]
 ·rw [cell_of_row w g j cur0 _ (0,0) hh,Array.getElem?_eq_getElem (by have h3 : Qap.sz = 3:=rfl; rw [hcs0,h3]; omega)]
  rfl
theorem DeleteFuncElem (gf : Nat) (lb : Array Value) (base c : Nat) (A : Option Addr) (l : List SElem) (p : SElem -> Bool) (w : World) (eg : ∀ args w,(callFunc gf args).run Tryz.prog w = .ok (.enter gf args) w)
  (hm : l.length <= 1000000000) (h0 : RE w base (.slice A l.length c) l)
  (hs : ∀ W x,x ∈ l -> w.grownBy W (Value.slice A l.length c).ownBlock -> Calls Tryz.prog gf (#[elV x] ++ lb) W fun e w' => e = .returned (.bool (p x)) /\ Below W.heap.size W w') :
  Calls Tryz.prog 80 #[.slice A l.length c, .func (.func gf) #[] lb] w fun e w' => ∃ n',e = .returned (.slice A n' c) /\ RE w' base (.slice A n' c) (l.filter fun x => !p x) /\ w.grownBy w' (Value.slice A l.length c).ownBlock:=by
 have hu1:=Tryz.underlying23
 have hu2:=Tryz.underlying32
 have cI:=IndexFuncElem gf lb A c l (fun i => p (Qaa l (i : Int))) (fun _ W => Below w.heap.size w W) (fun _ W => Below w.heap.size w W) w eg (by omega) (Below.refl _ _) (fun i W hb => (Kd.R_reads' (Kd.R_below h0 hb)).2.2) (fun i W hi hb => by
  refine (hs W (Qaa l (i : Int)) (by rw [Qat _ _ hi]; exact List.getElem_mem hi) (grown_of_below hb _)).mono ?_
  rintro e w' ⟨rfl,hb'⟩
  have : Below w.heap.size w w':=Qas hb hb'
  exact ⟨rfl,fun _ => this,fun _ => this⟩)
 have HI:=Zz.k (firstAt_cases (fun i : Nat => p (Qaa l (i : Int))) l.length)
 generalize Qbg (fun i : Nat => p (Qaa l (i : Int))) l.length l.length 0 = i0 at cI HI
 have CI:=Zz.k cI
 have HS:=Zz.k hs
 have H0:=Zz.k h0
 clear cI hs h0
 go_enter Tryz.func80,Tryz.ntmps80
 go_wp2_with fail
 refine CI.out.mono ?_
 rintro e w1 ⟨rfl,hpost⟩
 have HP:=Zz.k hpost
 clear hpost CI
 rcases HI.out with ⟨i,hi,hpi,hlt,rfl⟩ | ⟨hno,rfl⟩
 ·have hne : ((i : Int) == -1) = false:=by simp
  obtain ⟨g,cap,hv,hbg,hgl,_⟩:=Kd.R_form H0.out (by omega)
  injection hv with ha _ hcap
  subst ha; subst hcap
  have hb1 : Below w.heap.size w w1:=by rcases HP.out with ⟨_,_,_,_,h⟩ | ⟨_,h⟩ <;> exact h
  have HG1:=Zz.k (grown_of_below hb1 (some g))
  have HR1:=Zz.k (Kd.R_below H0.out hb1)
  have HFT:=Zz.k (filter_first l p hi hpi hlt)
  clear HP HI hb1 H0
  go_wp2
  go_loopg [5,6,7] l.length (fun gg s5 s6 _ wr => ∃ (a b : Nat) (xs : List SElem),a < b /\ b <= l.length /\ l.length - b <= gg /\ s5 = .int .i64 a /\ s6 = .int .i64 b /\ Zz (xs.length = l.length) /\ Zz (xs.take a = (l.take b).filter (fun x => !p x)) /\ Zz (xs.drop b = l.drop b) /\ Zz (RE wr base (.slice (some ⟨g,0,none⟩) l.length c) xs) /\ Zz (w.grownBy wr (some g)))
  case atStart => exact ⟨i,i + 1,l,by omega,by omega,by omega,rfl,by go_num,⟨rfl⟩,HFT,⟨rfl⟩,HR1,HG1⟩
  case round =>
   clear HFT HR1 HG1
   obtain ⟨a,b,xs,hab,hbn,hgk,rfl,rfl,HL,HF,HD,HR,HG⟩:=hrel
   by_cases hlt2 : b < l.length
   ·obtain ⟨g',rfl⟩ : ∃ g',gk = g' + 1:=⟨gk - 1,by omega⟩
    have hltz : (b : Int) < (l.length : Int):=by omega
    have h0z : (0 : Int) <= (b : Int):=by omega
    obtain ⟨hn,_,hC⟩:=Kd.R_reads' HR.out
    obtain ⟨ad,hA,x0,x1,x2⟩:=Qbd hC (b : Int) h0z (by omega)
    injection hA with hA
    subst hA
    clear hC hn
    simp only [Int.toNat_natCast,Qcy] at x0 x1 x2
    have hx : Qaa xs (b : Int) = Qaa l (b : Int):=by
     have hb2 : b < xs.length:=by rw [HL.out]; exact hlt2
     rw [Qat _ _ hb2,Qat _ _ hlt2]
     have:=HD.out
     rw [List.drop_eq_getElem_cons hb2,List.drop_eq_getElem_cons hlt2] at this
     injection this
    rw [hx] at x0 x1 x2
    have HM:=Zz.k (show Qaa l (b : Int) ∈ l by rw [Qat _ _ hlt2]; exact List.getElem_mem hlt2)
    generalize hxe : Qaa l (b : Int) = x at x0 x1 x2 HM
    have HXE:=Zz.k hxe
    clear hxe hx
    have hal : Below wr.heap.size wr (wr.alloc (.cells #[.int .i64 x.f0, .int .i64 x.f1, .int .i64 x.f2] 32)):=Qag (Below.refl _ _) _
    have HC:=Zz.k (HS.out _ x HM.out (grown_then HG.out hal))
    have HG2:=Zz.k (grown_then HG.out hal)
    have HR2:=Zz.k (Kd.R_below HR.out hal)
    have HLT : xs.length = l.length:=HL.out
    have ha1 : a < xs.length:=by omega
    clear hal HG HR
    go_wp2_with fail
    refine HC.out.mono ?_
    rintro e w2 ⟨rfl,hb2⟩
    have d0:=Qab hb2 (show (wr.alloc (.cells #[.int .i64 x.f0, .int .i64 x.f1, .int .i64 x.f2] 32)).cell? ⟨wr.heap.size,0,none⟩ = some (.int .i64 x.f0) by simp)
    have d1:=Qab hb2 (show (wr.alloc (.cells #[.int .i64 x.f0, .int .i64 x.f1, .int .i64 x.f2] 32)).cell? ⟨wr.heap.size,1,none⟩ = some (.int .i64 x.f1) by simp)
    have d2:=Qab hb2 (show (wr.alloc (.cells #[.int .i64 x.f0, .int .i64 x.f1, .int .i64 x.f2] 32)).cell? ⟨wr.heap.size,2,none⟩ = some (.int .i64 x.f2) by simp)
    have HG3:=Zz.k (grown_then HG2.out hb2)
    have HR3:=Zz.k (Kd.R_below HR2.out hb2)
    clear hb2 HG2 HR2 x0 x1 x2 HC
    have hxl : l[b] = x:=by rw [<- Qat _ _ hlt2]; exact HXE.out
    have hD2 : xs.drop (b + 1) = l.drop (b + 1):=by
     have:=HD.out
     rw [List.drop_eq_getElem_cons (show b < xs.length by omega),List.drop_eq_getElem_cons hlt2] at this
     injection this
    have HD2:=Zz.k hD2
    have hF2:=HF.out
    cases hp : p x with
    | true =>
     have hF3 : xs.take a = (l.take (b + 1)).filter (fun x => !p x):=by
      rw [List.take_succ_eq_append_getElem hlt2,List.filter_append,hxl,<- hF2]; simp [hp]
     have HF3:=Zz.k hF3
     clear hF3 hF2 hD2 hp HF HD hxl
     go_wp2
     go_roundg g'
     case measure => omega
     case rel => exact ⟨a,b + 1,xs,by omega,by omega,by omega,rfl,by go_num,HL,HF3,HD2,HR3,HG3⟩
    | false =>
     have hF3 : (xs.set a x).take (a + 1) = (l.take (b + 1)).filter (fun x => !p x):=by
      rw [List.take_succ_eq_append_getElem hlt2,List.filter_append,hxl,<- hF2,List.take_succ_eq_append_getElem (by simp; omega),List.take_set_of_le (Nat.le_refl a)]; simp [hp]
     have HF3:=Zz.k hF3
     have HL3:=Zz.k (show (xs.set a x).length = l.length by rw [List.length_set]; exact HLT)
     have HD3:=Zz.k (show (xs.set a x).drop (b + 1) = l.drop (b + 1) by rw [List.drop_set_of_lt (by omega)]; exact hD2)
     obtain ⟨cs,hcl,_,hcc,hff⟩:=Kd.R_elem HR3.out zElem (a : Int) (by omega) (by omega)
     have hcl3 : cs.length = 3:=hcl
     have hR4:=RE_set HR3.out a (by omega) x
     have HR4:=Zz.k hR4.1
     have HG4:=Zz.k (grown_grown HG3.out hR4.2)
     obtain ⟨q0,q1,q2,rfl⟩ : ∃ q0 q1 q2,cs = [q0,q1,q2]:=by
      match cs,hcl3 with
      | [q0,q1,q2],_ => exact ⟨q0,q1,q2,rfl⟩
     have e0 : w2.cell? ⟨g,a * 3,none⟩ = some q0:=hcc 0 _ rfl
     have e1 : w2.cell? ⟨g,a * 3 + 1,none⟩ = some q1:=hcc 1 _ rfl
     have e2 : w2.cell? ⟨g,a * 3 + 2,none⟩ = some q2:=hcc 2 _ rfl
     have f0 : w2.frozen? ⟨g,a * 3,none⟩ = false:=hff 0
     have f1 : w2.frozen? ⟨g,a * 3 + 1,none⟩ = false:=hff 1
     have f2 : w2.frozen? ⟨g,a * 3 + 2,none⟩ = false:=hff 2
     clear hF3 hF2 hD2 hp HF HD hxl hR4 hcc hff hcl hcl3 HG3 HR3
     go_wp2
     go_roundg g'
     case measure => omega
     case rel => exact ⟨a + 1,b + 1,xs.set a x,by omega,by omega,by omega,by go_num,by go_num,HL3,HF3,HD3,HR4,HG4⟩
   ·obtain rfl : b = l.length:=by omega
    have hltz : ¬ (l.length : Int) < (l.length : Int):=by omega
    obtain ⟨r1,r2,r3,r4⟩:=RE_clear HR.out a (by omega) (zs (l.length - a)) (by rw [zs_len]; omega)
    have HR5:=Zz.k r1
    have HG5:=Zz.k (grown_grown HG.out r2)
    have hcl : ∀ ty,(Builtin.clear_ #[23] ty #[.slice (some ⟨g,a * 3,none⟩) (l.length - a) (c - a)]).run Tryz.prog wr = .ok (.tuple #[]) (wr.setCells g (a * 3) (zs (l.length - a))) :=
     fun ty => run_clear_elem wr ty g (a * 3) _ _ (by omega) (fun j hj => r3 _ (by omega)) (fun j hj => r4 _)
    have hF5:=HF.out
    rw [List.take_length] at hF5
    have HF5:=Zz.k hF5
    have hnc:=(Kd.R_reads' HR.out).2.1
    have hac : c ≠ a:=by omega
    have hac1 : (a : Int) <= (c : Int):=by omega
    have hac2 : ¬ (c : Int) < (a : Int):=by omega
    clear r1 r2 r3 r4 HR HG HD HF hF5
    go_wp2
    go_ret
    exact ⟨_,rfl,by rw [<- HF5.out]; exact HR5.out,HG5.out⟩
 ·go_wp2
  go_ret
  have hb1 : Below w.heap.size w w1:=by rcases HP.out with ⟨_,_,_,_,h⟩ | ⟨_,h⟩ <;> exact h
  refine ⟨_,rfl, ?_,grown_of_below hb1 _⟩
  have : l.filter (fun x => !p x) = l:=by
   rw [List.filter_eq_self]
   intro x hx
   obtain ⟨j,hj,rfl⟩:=List.getElem_of_mem hx
   have:=hno j hj
   rw [Qat _ _ hj] at this
   simp [this]
  rw [this]
  exact Kd.R_below H0.out hb1
end
section
abbrev MapE (w : World) (b n : Nat) (S : Int × Int × Int -> Bool) : Prop:=MapB encE 32 4 w b n S
theorem seen1_calls (c1 c2 b1 b2 n1 n2 : Nat) (x : SElem) (G T : Int × Int × Int -> Bool) (W : World) (h1 : W.cell? ⟨c1,0,none⟩ = some (.map (some b1))) (h2 : W.cell? ⟨c2,0,none⟩ = some (.map (some b2)))
  (hG : MapE W b1 n1 G) (hT : MapE W b2 n2 T) (hx : inI x.f0 /\ inI x.f1 /\ inI x.f2) :
  Calls Tryz.prog 82 #[elV x, .pointer (some ⟨c1,0,none⟩), .pointer (some ⟨c2,0,none⟩)] W fun e w' => e = .returned (.bool (G (x.f0,x.f1,x.f2) || !T (x.f0,x.f1,x.f2))) /\ Below W.heap.size W w':=by
 have l1:=World.block_lt_of_cell? W _ h1
 have l2:=World.block_lt_of_cell? W _ h2
 simp only at l1 l2
 obtain ⟨kl,hkl⟩:=keyE (x:=(x.f0,x.f1,x.f2)) hx.1 hx.2.1 hx.2.2
 have hal : Below W.heap.size W (W.alloc (.cells #[.int .i64 x.f0, .int .i64 x.f1, .int .i64 x.f2] 32)):=Qag (Below.refl _ _) _
 have k1:=(hG.below hal hG.lt).look lawE Tryz.underlying107 Tryz.underlying4 zeroB (x.f0,x.f1,x.f2) hkl
 have k2:=(hT.below hal hT.lt).look lawE Tryz.underlying107 Tryz.underlying4 zeroB (x.f0,x.f1,x.f2) hkl
 have d1:=Qab hal h1
 have d2:=Qab hal h2
 simp only [encE] at k1 k2
 have HAL:=Zz.k hal
 unfold elV
 generalize hg : G (x.f0,x.f1,x.f2) = gq at k1 ⊢
 generalize ht : T (x.f0,x.f1,x.f2) = tq at k2 ⊢
 clear hG hT hx hkl hal h1 h2 hg ht
 cases gq
 ·go_enter Tryz.func82,Tryz.ntmps82
  go_wp2
  go_ret
  exact ⟨rfl,HAL.out⟩
 ·go_enter Tryz.func82,Tryz.ntmps82
  go_wp2
  go_ret
  exact ⟨rfl,HAL.out⟩
end
section
attribute [local go_sem] Qbm Qbk Qbu Qbt Qbc Qbb Qbl Qbj
def doc_Counts.l0 : Nat -> List (SOp) -> List Int -> List (SOp) -> Int -> Int -> Option (List Int)
 | 0,_,_,_,_,_ => none
 | k + 1,x0,x3,x10,x11,x12 => if x12 < x11 then (if 0 <= x12 then (if x12 < (x10.length : Int) then (if ((Qad x10 x12).f2) = 2 then ((tree_Find.f x0 ((Qad x10 x12).f6) ((Qad x10 x12).f7)).bind fun t237 => (if 0 <= t237 then (if t237 < (x3.length : Int) then (if ((Qad x10 x12).f8) = (rd x3 t237) then (doc_Counts.l0 k x0 (x3.set (t237 : Int).toNat (wrap64 ((rd x3 t237) + 1))) x10 x11 (wrap64 (x12 + 1))) else (doc_Counts.l0 k x0 x3 x10 x11 (wrap64 (x12 + 1)))) else (none)) else (none))) else (doc_Counts.l0 k x0 x3 x10 x11 (wrap64 (x12 + 1)))) else (none)) else (none)) else (some x3)
def doc_Counts.f (k : Nat) (l0 : List (SOp)) : Option (List Int):=if 0 <= (l0.length : Int) then (if ((l0.length : Int) : Int).toNat <= 35184372088832 then (doc_Counts.l0 k l0 (List.replicate ((l0.length : Int) : Int).toNat 0) l0 (l0.length : Int) 0) else (none)) else (none)
theorem doc_Counts.calls (k : Nat) (A0 : Option Addr) (c0 : Nat) (l0 : List (SOp)) (r : List Int) (w : World) (hr0 : Kd.C kOp w A0 l0.length l0) (hc0 : l0.length <= c0) (h : doc_Counts.f k l0 = some r) :
  Calls Tryz.prog 92 #[.slice A0 l0.length c0] w fun e w' => ∃ v0_ : Value,e = .returned (v0_) /\ Kd.R (Kd.int .i64) 3 w' w.heap.size (fun _ => True) v0_ r /\ Below w.heap.size w w':=by
 have hu34:=Tryz.underlying34
 have HR0:=Zz.k hr0
 have HC0:=Zz.k hc0
 clear hr0 hc0
 have HB:=Zz.k (Below.refl w.heap.size w)
 unfold doc_Counts.f at h; have H:=h
 clear h
 by_cases c2 : 0 <= (l0.length : Int); rotate_left
 ·rw [if_neg c2] at H
  exact absurd H (by simp)
 rw [if_pos c2] at H
 have c2b0:=eq_true c2
 have c2b1:=Zd c2
 clear c2
 by_cases c3 : ((l0.length : Int) : Int).toNat <= 35184372088832; rotate_left
 ·rw [if_neg c3] at H
  exact absurd H (by simp)
 rw [if_pos c3] at H
 have c3b0:=eq_true c3
 have c3b1:=Zd c3
 clear c3
 obtain ⟨y232,hy232⟩ : ∃ y_ : List Int,y_ = (List.replicate ((l0.length : Int) : Int).toNat 0):=⟨_,rfl⟩
 first | rw [Option.bind_some,<- hy232] at H | rw [<- hy232] at H
 have Ny232:=Zz.k hy232
 clear hy232
 have H':=Zz.k H
 clear H
 go_enter Tryz.func92,Tryz.ntmps92
 go_wp2_with (first | ((with_reducible refine Qaf (N:=9) rfl ?_); refine Kd.R_make (Kd.int .i64) _ 3 rfl (N:=9) rfl 25 _ _ rfl (l0.length : Int) rfl rfl Tryz.underlying25 (.int .i64 0) 8 info3 rfl (by decide) (by omega) 0 (ok:=fun _ => True) (okp:=fun _ => True) rfl (fun _ hk => hk) trivial (od) (Nat.le_trans (Nat.mul_le_mul_right _ (od : (l0.length : Int).toNat <= 35184372088832)) (by omega)) (Below.refl _ _) (Nat.le_refl _) ?_; intro v233 w4 ho5 hb hg_ hnew_; clear hg_ hnew_; (first | rw [<- Ny232.out] at ho5 | (simp only [Int.reduceToNat] at ho5; rw [<- Ny232.out] at ho5)); have HO234:=Zz.k (Kd.R_lower ho5 (Qal (bw HB))); replace HB:=bs HB hb; clear hb ho5))
 repeat (go_quiet (first | ((with_reducible refine Qaf (N:=9) rfl ?_); refine Kd.R_make (Kd.int .i64) _ 3 rfl (N:=9) rfl 25 _ _ rfl (l0.length : Int) rfl rfl Tryz.underlying25 (.int .i64 0) 8 info3 rfl (by decide) (by omega) 0 (ok:=fun _ => True) (okp:=fun _ => True) rfl (fun _ hk => hk) trivial (od) (Nat.le_trans (Nat.mul_le_mul_right _ (od : (l0.length : Int).toNat <= 35184372088832)) (by omega)) (Below.refl _ _) (Nat.le_refl _) ?_; intro v233 w4 ho5 hb hg_ hnew_; clear hg_ hnew_; (first | rw [<- Ny232.out] at ho5 | (simp only [Int.reduceToNat] at ho5; rw [<- Ny232.out] at ho5)); have HO234:=Zz.k (Kd.R_lower ho5 (Qal (bw HB))); replace HB:=bs HB hb; clear hb ho5)); try go_wp2_with (first | ((with_reducible refine Qaf (N:=9) rfl ?_); refine Kd.R_make (Kd.int .i64) _ 3 rfl (N:=9) rfl 25 _ _ rfl (l0.length : Int) rfl rfl Tryz.underlying25 (.int .i64 0) 8 info3 rfl (by decide) (by omega) 0 (ok:=fun _ => True) (okp:=fun _ => True) rfl (fun _ hk => hk) trivial (od) (Nat.le_trans (Nat.mul_le_mul_right _ (od : (l0.length : Int).toNat <= 35184372088832)) (by omega)) (Below.refl _ _) (Nat.le_refl _) ?_; intro v233 w4 ho5 hb hg_ hnew_; clear hg_ hnew_; (first | rw [<- Ny232.out] at ho5 | (simp only [Int.reduceToNat] at ho5; rw [<- Ny232.out] at ho5)); have HO234:=Zz.k (Kd.R_lower ho5 (Qal (bw HB))); replace HB:=bs HB hb; clear hb ho5)))
 go_loopg [12] k (fun kq v12 w' => ∃ (x3_1 : List Int) (x12_1 : Int),v12 = .int .i64 x12_1 /\ Zz (doc_Counts.l0 kq l0 x3_1 l0 (l0.length : Int) x12_1 = some r) /\ Zz (kq <= k) /\ Zz (Kd.R (Kd.int .i64) 3 w' w.heap.size (fun _ => True) v233 x3_1) /\ Zz (Below w.heap.size w w'))
 case atStart => exact ⟨(y232),(0),rf,H',⟨Nat.le_refl _⟩,⟨rk HO234⟩,⟨bw HB⟩⟩
 case round =>
  clear H'
  try clear c2b0; try clear c2b1; try clear c3b0; try clear c3b1
  obtain ⟨x3_1,x12_1,rfl,HA,HK1,HO_3,HB⟩:=hrel
  cases gk with
  | zero => exact absurd HA.out (by simp [doc_Counts.l0])
  | succ k1 =>
   have H:=HA.out
   clear HA
   simp only [doc_Counts.l0] at H
   by_cases c6 : x12_1 < (l0.length : Int); rotate_left
   ·rw [if_neg c6] at H
    have c6b0:=Ze c6
    clear c6
    obtain rfl:=Zo H
    go_wp2
    repeat (go_quiet (fail); try go_wp2)
    go_ret
    exact ⟨_,re,by (with_reducible repeat (first | apply Kd.R_alloc | apply Kd.R_drewN | apply Kd.R_drew)); exact HO_3.out,bw HB⟩
   rw [if_pos c6] at H
   have c6b0:=Zd c6
   clear c6
   by_cases c7 : 0 <= x12_1; rotate_left
   ·rw [if_neg c7] at H
    exact absurd H (by simp)
   rw [if_pos c7] at H
   have c7b0:=Zd c7
   clear c7
   by_cases c8 : x12_1 < (l0.length : Int); rotate_left
   ·rw [if_neg c8] at H
    exact absurd H (by simp)
   rw [if_pos c8] at H
   have c8b0:=Zd c8
   clear c8
   by_cases c9 : ((Qad l0 x12_1).f2) = 2; rotate_left
   ·rw [if_neg c9] at H
    obtain ⟨c9b0,c9b1⟩:=bF c9
    have H':=Zz.k H
    clear H
    have p235 : 0 <= (x12_1 : Int):=od
    have q235 : x12_1 < (l0.length : Int):=od
    obtain ⟨ad235,A235_7,c235_7,e235,hx235_0,hx235_1,hx235_2,hx235_3,hx235_4,hx235_5,hx235_6,hx235_7,hx235_8,hx235_9,hx235_10,hl235_7,hi235_7⟩:=Qcg HR0.out x12_1 p235 q235
    cases e235
    replace hx235_0:=cl HB hx235_0
    replace hx235_1:=cl HB hx235_1
    replace hx235_2:=cl HB hx235_2
    replace hx235_3:=cl HB hx235_3
    replace hx235_4:=cl HB hx235_4
    replace hx235_5:=cl HB hx235_5
    replace hx235_6:=cl HB hx235_6
    replace hx235_7:=cl HB hx235_7
    replace hx235_8:=cl HB hx235_8
    replace hx235_9:=cl HB hx235_9
    replace hx235_10:=cl HB hx235_10
    have HR235_7:=Zz.k hi235_7
    have HC235_7:=Zz.k hl235_7
    clear hi235_7 hl235_7
    replace p235:=eq_true p235
    replace q235:=eq_true q235
    go_wp2_with (first | ((with_reducible refine Qaf (N:=5) rfl ?_); refine bx 5 #[.int .i64 0, .int .i64 0, .int .i64 0, .int .i64 0, .int .i64 0, .int .i64 0, .string (⟨#[]⟩ : ByteArray), .slice none 0 0, .int .i64 0, .int .i64 0, .int .i64 0] 34 (h := ?_); intro gb236 hg w27 hbox hb; have BK236:=Zz.k (hbox); have GW236:=bz HB hg; have GE236:=bz HB hg; replace HO_3:=rb HO_3 hb; replace HB:=bs HB hb; clear hb hbox hg; obtain ⟨_,_,_,_,_,_,_,_,_,_,_,_,_,_,_,_,_,_,_,_,_,_⟩:=kc11 BK236))
    repeat (go_quiet (first | ((with_reducible refine Qaf (N:=5) rfl ?_); refine bx 5 #[.int .i64 0, .int .i64 0, .int .i64 0, .int .i64 0, .int .i64 0, .int .i64 0, .string (⟨#[]⟩ : ByteArray), .slice none 0 0, .int .i64 0, .int .i64 0, .int .i64 0] 34 (h := ?_); intro gb236 hg w27 hbox hb; have BK236:=Zz.k (hbox); have GW236:=bz HB hg; have GE236:=bz HB hg; replace HO_3:=rb HO_3 hb; replace HB:=bs HB hb; clear hb hbox hg; obtain ⟨_,_,_,_,_,_,_,_,_,_,_,_,_,_,_,_,_,_,_,_,_,_⟩:=kc11 BK236)); try go_wp2_with (first | ((with_reducible refine Qaf (N:=5) rfl ?_); refine bx 5 #[.int .i64 0, .int .i64 0, .int .i64 0, .int .i64 0, .int .i64 0, .int .i64 0, .string (⟨#[]⟩ : ByteArray), .slice none 0 0, .int .i64 0, .int .i64 0, .int .i64 0] 34 (h := ?_); intro gb236 hg w27 hbox hb; have BK236:=Zz.k (hbox); have GW236:=bz HB hg; have GE236:=bz HB hg; replace HO_3:=rb HO_3 hb; replace HB:=bs HB hb; clear hb hbox hg; obtain ⟨_,_,_,_,_,_,_,_,_,_,_,_,_,_,_,_,_,_,_,_,_,_⟩:=kc11 BK236)))
    go_roundg k1
    case measure => have:=HK1.out; omega
    case rel => exact ⟨(x3_1),(wrap64 (x12_1 + 1)),rf,H',⟨by have:=HK1.out; omega⟩,⟨by (with_reducible repeat (first | apply Kd.R_alloc | apply Kd.R_drewN | apply Kd.R_drew)); exact Kd.R_mono (rf11 (Kd.R_types HO_3.out BK236.out (by decide))) (fun _ hk => trivial)⟩,⟨bw HB⟩⟩
   rw [if_pos c9] at H
   obtain ⟨c9b0,c9b1⟩:=bT c9
   clear c9
   obtain ⟨t237,A10,H⟩:=bE H
   by_cases c11 : 0 <= t237; rotate_left
   ·rw [if_neg c11] at H
    exact absurd H (by simp)
   rw [if_pos c11] at H
   have c11b0:=Zd c11
   clear c11
   by_cases c12 : t237 < (x3_1.length : Int); rotate_left
   ·rw [if_neg c12] at H
    exact absurd H (by simp)
   rw [if_pos c12] at H
   have c12b0:=Zd c12
   clear c12
   by_cases c13 : ((Qad l0 x12_1).f8) = (rd x3_1 t237); rotate_left
   ·rw [if_neg c13] at H
    obtain ⟨c13b0,c13b1⟩:=bF c13
    have H':=Zz.k H
    clear H
    have p235 : 0 <= (x12_1 : Int):=od
    have q235 : x12_1 < (l0.length : Int):=od
    obtain ⟨ad235,A235_7,c235_7,e235,hx235_0,hx235_1,hx235_2,hx235_3,hx235_4,hx235_5,hx235_6,hx235_7,hx235_8,hx235_9,hx235_10,hl235_7,hi235_7⟩:=Qcg HR0.out x12_1 p235 q235
    cases e235
    replace hx235_0:=cl HB hx235_0
    replace hx235_1:=cl HB hx235_1
    replace hx235_2:=cl HB hx235_2
    replace hx235_3:=cl HB hx235_3
    replace hx235_4:=cl HB hx235_4
    replace hx235_5:=cl HB hx235_5
    replace hx235_6:=cl HB hx235_6
    replace hx235_7:=cl HB hx235_7
    replace hx235_8:=cl HB hx235_8
    replace hx235_9:=cl HB hx235_9
    replace hx235_10:=cl HB hx235_10
    have HR235_7:=Zz.k hi235_7
    have HC235_7:=Zz.k hl235_7
    clear hi235_7 hl235_7
    replace p235:=eq_true p235
    replace q235:=eq_true q235
    go_wp2_with (first | ((with_reducible refine Qaf (N:=5) rfl ?_); refine bx 5 #[.int .i64 0, .int .i64 0, .int .i64 0, .int .i64 0, .int .i64 0, .int .i64 0, .string (⟨#[]⟩ : ByteArray), .slice none 0 0, .int .i64 0, .int .i64 0, .int .i64 0] 34 (h := ?_); intro gb236 hg w22 hbox hb; have BK236:=Zz.k (hbox); have GW236:=bz HB hg; have GE236:=bz HB hg; replace HO_3:=rb HO_3 hb; replace HB:=bs HB hb; clear hb hbox hg; obtain ⟨_,_,_,_,_,_,_,_,_,_,_,_,_,_,_,_,_,_,_,_,_,_⟩:=kc11 BK236) | (go_at_call 125; (with_reducible refine (tree_Find.calls _ _ l0 ((Qad l0 x12_1).f6) ((Qad l0 x12_1).f7) t237 _ ?side1 ?side2 A10.out).mono ?_); (case side1 => exact Kd.C_below HR0.out (bw HB)); (case side2 => exact HC0.out); rintro e w24 ⟨rfl,hb⟩; replace HO_3:=Zz.k (Kd.R_below (by (with_reducible repeat (first | apply Kd.R_alloc | apply Kd.R_drewN | apply Kd.R_drew)); exact (Kd.R_mono (rf11 (Kd.R_types HO_3.out BK236.out (by decide))) (fun _ h_ => h_.1))) hb); replace BK236:=Zz.k (Qcp (bp11 (kk BK236)) hb); replace HB:=bs HB hb; clear hb; obtain ⟨_,_,_,_,_,_,_,_,_,_,_,_,_,_,_,_,_,_,_,_,_,_⟩:=kc11 BK236; obtain ⟨Ao26,co26,eo26⟩:=Kd.R_slice HO_3.out; subst eo26; have p238 : 0 <= (t237 : Int):=od; have q238 : t237 < (x3_1.length : Int):=od; obtain ⟨ad238,e238,hx238_0⟩:=Kd.at_int (Kd.R_reads' HO_3.out).2.2 t237 p238 q238; cases e238; replace p238:=eq_true p238; replace q238:=eq_true q238))
    repeat (go_quiet (first | ((with_reducible refine Qaf (N:=5) rfl ?_); refine bx 5 #[.int .i64 0, .int .i64 0, .int .i64 0, .int .i64 0, .int .i64 0, .int .i64 0, .string (⟨#[]⟩ : ByteArray), .slice none 0 0, .int .i64 0, .int .i64 0, .int .i64 0] 34 (h := ?_); intro gb236 hg w22 hbox hb; have BK236:=Zz.k (hbox); have GW236:=bz HB hg; have GE236:=bz HB hg; replace HO_3:=rb HO_3 hb; replace HB:=bs HB hb; clear hb hbox hg; obtain ⟨_,_,_,_,_,_,_,_,_,_,_,_,_,_,_,_,_,_,_,_,_,_⟩:=kc11 BK236) | (go_at_call 125; (with_reducible refine (tree_Find.calls _ _ l0 ((Qad l0 x12_1).f6) ((Qad l0 x12_1).f7) t237 _ ?side1 ?side2 A10.out).mono ?_); (case side1 => exact Kd.C_below HR0.out (bw HB)); (case side2 => exact HC0.out); rintro e w24 ⟨rfl,hb⟩; replace HO_3:=Zz.k (Kd.R_below (by (with_reducible repeat (first | apply Kd.R_alloc | apply Kd.R_drewN | apply Kd.R_drew)); exact (Kd.R_mono (rf11 (Kd.R_types HO_3.out BK236.out (by decide))) (fun _ h_ => h_.1))) hb); replace BK236:=Zz.k (Qcp (bp11 (kk BK236)) hb); replace HB:=bs HB hb; clear hb; obtain ⟨_,_,_,_,_,_,_,_,_,_,_,_,_,_,_,_,_,_,_,_,_,_⟩:=kc11 BK236; obtain ⟨Ao26,co26,eo26⟩:=Kd.R_slice HO_3.out; subst eo26; have p238 : 0 <= (t237 : Int):=od; have q238 : t237 < (x3_1.length : Int):=od; obtain ⟨ad238,e238,hx238_0⟩:=Kd.at_int (Kd.R_reads' HO_3.out).2.2 t237 p238 q238; cases e238; replace p238:=eq_true p238; replace q238:=eq_true q238)); try go_wp2_with (first | ((with_reducible refine Qaf (N:=5) rfl ?_); refine bx 5 #[.int .i64 0, .int .i64 0, .int .i64 0, .int .i64 0, .int .i64 0, .int .i64 0, .string (⟨#[]⟩ : ByteArray), .slice none 0 0, .int .i64 0, .int .i64 0, .int .i64 0] 34 (h := ?_); intro gb236 hg w22 hbox hb; have BK236:=Zz.k (hbox); have GW236:=bz HB hg; have GE236:=bz HB hg; replace HO_3:=rb HO_3 hb; replace HB:=bs HB hb; clear hb hbox hg; obtain ⟨_,_,_,_,_,_,_,_,_,_,_,_,_,_,_,_,_,_,_,_,_,_⟩:=kc11 BK236) | (go_at_call 125; (with_reducible refine (tree_Find.calls _ _ l0 ((Qad l0 x12_1).f6) ((Qad l0 x12_1).f7) t237 _ ?side1 ?side2 A10.out).mono ?_); (case side1 => exact Kd.C_below HR0.out (bw HB)); (case side2 => exact HC0.out); rintro e w24 ⟨rfl,hb⟩; replace HO_3:=Zz.k (Kd.R_below (by (with_reducible repeat (first | apply Kd.R_alloc | apply Kd.R_drewN | apply Kd.R_drew)); exact (Kd.R_mono (rf11 (Kd.R_types HO_3.out BK236.out (by decide))) (fun _ h_ => h_.1))) hb); replace BK236:=Zz.k (Qcp (bp11 (kk BK236)) hb); replace HB:=bs HB hb; clear hb; obtain ⟨_,_,_,_,_,_,_,_,_,_,_,_,_,_,_,_,_,_,_,_,_,_⟩:=kc11 BK236; obtain ⟨Ao26,co26,eo26⟩:=Kd.R_slice HO_3.out; subst eo26; have p238 : 0 <= (t237 : Int):=od; have q238 : t237 < (x3_1.length : Int):=od; obtain ⟨ad238,e238,hx238_0⟩:=Kd.at_int (Kd.R_reads' HO_3.out).2.2 t237 p238 q238; cases e238; replace p238:=eq_true p238; replace q238:=eq_true q238)))
    go_roundg k1
    case measure => have:=HK1.out; omega
    case rel => exact ⟨(x3_1),(wrap64 (x12_1 + 1)),rf,H',⟨by have:=HK1.out; omega⟩,⟨rk HO_3⟩,⟨bw HB⟩⟩
   rw [if_pos c13] at H
   obtain ⟨c13b0,c13b1⟩:=bT c13
   clear c13
   obtain ⟨y240,hy240⟩ : ∃ y_ : List Int,y_ = (x3_1.set (t237 : Int).toNat (wrap64 ((rd x3_1 t237) + 1))):=⟨_,rfl⟩
   first | rw [Option.bind_some,<- hy240] at H | rw [<- hy240] at H
   have Ny240:=Zz.k hy240
   clear hy240
   have H':=Zz.k H
   clear H
   have p235 : 0 <= (x12_1 : Int):=od
   have q235 : x12_1 < (l0.length : Int):=od
   obtain ⟨ad235,A235_7,c235_7,e235,hx235_0,hx235_1,hx235_2,hx235_3,hx235_4,hx235_5,hx235_6,hx235_7,hx235_8,hx235_9,hx235_10,hl235_7,hi235_7⟩:=Qcg HR0.out x12_1 p235 q235
   cases e235
   replace hx235_0:=cl HB hx235_0
   replace hx235_1:=cl HB hx235_1
   replace hx235_2:=cl HB hx235_2
   replace hx235_3:=cl HB hx235_3
   replace hx235_4:=cl HB hx235_4
   replace hx235_5:=cl HB hx235_5
   replace hx235_6:=cl HB hx235_6
   replace hx235_7:=cl HB hx235_7
   replace hx235_8:=cl HB hx235_8
   replace hx235_9:=cl HB hx235_9
   replace hx235_10:=cl HB hx235_10
   have HR235_7:=Zz.k hi235_7
   have HC235_7:=Zz.k hl235_7
   clear hi235_7 hl235_7
   replace p235:=eq_true p235
   replace q235:=eq_true q235
   go_wp2_with (first | ((with_reducible refine Qaf (N:=5) rfl ?_); refine bx 5 #[.int .i64 0, .int .i64 0, .int .i64 0, .int .i64 0, .int .i64 0, .int .i64 0, .string (⟨#[]⟩ : ByteArray), .slice none 0 0, .int .i64 0, .int .i64 0, .int .i64 0] 34 (h := ?_); intro gb236 hg w15 hbox hb; have BK236:=Zz.k (hbox); have GW236:=bz HB hg; have GE236:=bz HB hg; replace HO_3:=rb HO_3 hb; replace HB:=bs HB hb; clear hb hbox hg; obtain ⟨_,_,_,_,_,_,_,_,_,_,_,_,_,_,_,_,_,_,_,_,_,_⟩:=kc11 BK236) | (go_at_call 125; (with_reducible refine (tree_Find.calls _ _ l0 ((Qad l0 x12_1).f6) ((Qad l0 x12_1).f7) t237 _ ?side1 ?side2 A10.out).mono ?_); (case side1 => exact Kd.C_below HR0.out (bw HB)); (case side2 => exact HC0.out); rintro e w17 ⟨rfl,hb⟩; replace HO_3:=Zz.k (Kd.R_below (by (with_reducible repeat (first | apply Kd.R_alloc | apply Kd.R_drewN | apply Kd.R_drew)); exact (Kd.R_mono (rf11 (Kd.R_types HO_3.out BK236.out (by decide))) (fun _ h_ => h_.1))) hb); replace BK236:=Zz.k (Qcp (bp11 (kk BK236)) hb); replace HB:=bs HB hb; clear hb; obtain ⟨_,_,_,_,_,_,_,_,_,_,_,_,_,_,_,_,_,_,_,_,_,_⟩:=kc11 BK236; obtain ⟨Ao19,co19,eo19⟩:=Kd.R_slice HO_3.out; subst eo19; have p238 : 0 <= (t237 : Int):=od; have q238 : t237 < (x3_1.length : Int):=od; obtain ⟨ad238,e238,hx238_0⟩:=Kd.at_int (Kd.R_reads' HO_3.out).2.2 t237 p238 q238; cases e238; replace p238:=eq_true p238; replace q238:=eq_true q238; have p239 : 0 <= (t237 : Int):=od; have q239 : t237 < (x3_1.length : Int):=od; obtain ⟨ad239,e239,hx239_0⟩:=Kd.at_int (Kd.R_reads' HO_3.out).2.2 t237 p239 q239; obtain rfl : ad238 = ad239:=(by injection e239); replace p239:=eq_true p239; replace q239:=eq_true q239; have p14 : 0 <= (t237 : Int):=od; have q14 : (t237 : Int) < ((x3_1.length : Int) : Int):=od; obtain ⟨go14,co14,eo14,gb14,gl14,cl14,HG14⟩:=Kd.R_form HO_3.out (by omega); (first | cases eo14 | (injection eo14 with ea_ en_ ec_; (first | subst ea_ | (injection ea_ with ea_; subst ea_)); subst ec_; clear en_)); have GB14:=Zz.k gb14; have GG14:=Zz.k HG14; clear gb14 gl14 HG14; (first | simp only [Qcy] at hx238_0 | skip); (first | simp only [Qcy] at hx239_0 | skip); obtain ⟨hx14_0,hf14_0⟩:=Kd.R_celln 0 HO_3.out (t237 : Int) p14 q14; replace p14:=eq_true p14; replace q14:=eq_true q14; obtain ⟨hy20_,hz20_⟩:=Kd.R_celln 0 HO_3.out (t237 : Int) (od) (od); have HP20:=Kd.R_putg HO_3.out (t237 : Int) (wrap64 ((rd x3_1 t237) + 1))) | ((with_reducible refine gate_store (t:=3) (p:=37) rfl ?_); (try (rw [drewN_self w17]; generalize hq_ : World.drewN w17 _ = w17; have n0_:=Zz.k (Kd.R_at hq_ HO_3.out); have n1_:=Zz.k (blk_at hq_ BK236.out); have n2_:=Zz.k (below_at hq_ HB.out); clear hq_ HO_3 BK236 HB; have HO_3:=n0_; have BK236:=n1_; have HB:=n2_; clear n0_ n1_ n2_; (try (obtain ⟨hy20_,hz20_⟩:=Kd.R_celln 0 HO_3.out (t237 : Int) (od) (od))); (try (have HP20:=Kd.R_putg HO_3.out (t237 : Int) (wrap64 ((rd x3_1 t237) + 1)))))); refine store_event (t:=3) (p:=37) (v := ?vo_w21) (w1:=(w17.setCell ⟨go14,(t237 : Int).toNat,none⟩ (.int .i64 (wrap64 ((rd x3_1 t237) + 1))))) ?hg ?ho ?hn ?hr ?_; (case ho => rfl); (case hg => rfl); (case hn => rfl); (case hr => first | (go_simp; done) | (go_simp; rfl)); intro w21 hw; have hg : w17.grownBy w21 (some go14):=(by rw [hw]; exact HP20.2); have hp_ : Kd.R (Kd.int .i64) 3 w21 w.heap.size (fun _ => True) (.slice (some ⟨go14,0,none⟩) x3_1.length co19) y240:=(by rw [hw,Ny240.out]; exact HP20.1); clear HP20; replace BK236:=Zz.k (Qcx (kk BK236) hg (Kd.R_ne HO_3.out BK236.out (by decide))); replace HO_3:=Zz.k (hp_); replace HB:=Zz.k ((by rw [hw]; exact Qdj (HB.out) GB14.out : Below w.heap.size w w21)); clear hg hw hp_))
   repeat (go_quiet (first | ((with_reducible refine Qaf (N:=5) rfl ?_); refine bx 5 #[.int .i64 0, .int .i64 0, .int .i64 0, .int .i64 0, .int .i64 0, .int .i64 0, .string (⟨#[]⟩ : ByteArray), .slice none 0 0, .int .i64 0, .int .i64 0, .int .i64 0] 34 (h := ?_); intro gb236 hg w15 hbox hb; have BK236:=Zz.k (hbox); have GW236:=bz HB hg; have GE236:=bz HB hg; replace HO_3:=rb HO_3 hb; replace HB:=bs HB hb; clear hb hbox hg; obtain ⟨_,_,_,_,_,_,_,_,_,_,_,_,_,_,_,_,_,_,_,_,_,_⟩:=kc11 BK236) | (go_at_call 125; (with_reducible refine (tree_Find.calls _ _ l0 ((Qad l0 x12_1).f6) ((Qad l0 x12_1).f7) t237 _ ?side1 ?side2 A10.out).mono ?_); (case side1 => exact Kd.C_below HR0.out (bw HB)); (case side2 => exact HC0.out); rintro e w17 ⟨rfl,hb⟩; replace HO_3:=Zz.k (Kd.R_below (by (with_reducible repeat (first | apply Kd.R_alloc | apply Kd.R_drewN | apply Kd.R_drew)); exact (Kd.R_mono (rf11 (Kd.R_types HO_3.out BK236.out (by decide))) (fun _ h_ => h_.1))) hb); replace BK236:=Zz.k (Qcp (bp11 (kk BK236)) hb); replace HB:=bs HB hb; clear hb; obtain ⟨_,_,_,_,_,_,_,_,_,_,_,_,_,_,_,_,_,_,_,_,_,_⟩:=kc11 BK236; obtain ⟨Ao19,co19,eo19⟩:=Kd.R_slice HO_3.out; subst eo19; have p238 : 0 <= (t237 : Int):=od; have q238 : t237 < (x3_1.length : Int):=od; obtain ⟨ad238,e238,hx238_0⟩:=Kd.at_int (Kd.R_reads' HO_3.out).2.2 t237 p238 q238; cases e238; replace p238:=eq_true p238; replace q238:=eq_true q238; have p239 : 0 <= (t237 : Int):=od; have q239 : t237 < (x3_1.length : Int):=od; obtain ⟨ad239,e239,hx239_0⟩:=Kd.at_int (Kd.R_reads' HO_3.out).2.2 t237 p239 q239; obtain rfl : ad238 = ad239:=(by injection e239); replace p239:=eq_true p239; replace q239:=eq_true q239; have p14 : 0 <= (t237 : Int):=od; have q14 : (t237 : Int) < ((x3_1.length : Int) : Int):=od; obtain ⟨go14,co14,eo14,gb14,gl14,cl14,HG14⟩:=Kd.R_form HO_3.out (by omega); (first | cases eo14 | (injection eo14 with ea_ en_ ec_; (first | subst ea_ | (injection ea_ with ea_; subst ea_)); subst ec_; clear en_)); have GB14:=Zz.k gb14; have GG14:=Zz.k HG14; clear gb14 gl14 HG14; (first | simp only [Qcy] at hx238_0 | skip); (first | simp only [Qcy] at hx239_0 | skip); obtain ⟨hx14_0,hf14_0⟩:=Kd.R_celln 0 HO_3.out (t237 : Int) p14 q14; replace p14:=eq_true p14; replace q14:=eq_true q14; obtain ⟨hy20_,hz20_⟩:=Kd.R_celln 0 HO_3.out (t237 : Int) (od) (od); have HP20:=Kd.R_putg HO_3.out (t237 : Int) (wrap64 ((rd x3_1 t237) + 1))) | ((with_reducible refine gate_store (t:=3) (p:=37) rfl ?_); (try (rw [drewN_self w17]; generalize hq_ : World.drewN w17 _ = w17; have n0_:=Zz.k (Kd.R_at hq_ HO_3.out); have n1_:=Zz.k (blk_at hq_ BK236.out); have n2_:=Zz.k (below_at hq_ HB.out); clear hq_ HO_3 BK236 HB; have HO_3:=n0_; have BK236:=n1_; have HB:=n2_; clear n0_ n1_ n2_; (try (obtain ⟨hy20_,hz20_⟩:=Kd.R_celln 0 HO_3.out (t237 : Int) (od) (od))); (try (have HP20:=Kd.R_putg HO_3.out (t237 : Int) (wrap64 ((rd x3_1 t237) + 1)))))); refine store_event (t:=3) (p:=37) (v := ?vo_w21) (w1:=(w17.setCell ⟨go14,(t237 : Int).toNat,none⟩ (.int .i64 (wrap64 ((rd x3_1 t237) + 1))))) ?hg ?ho ?hn ?hr ?_; (case ho => rfl); (case hg => rfl); (case hn => rfl); (case hr => first | (go_simp; done) | (go_simp; rfl)); intro w21 hw; have hg : w17.grownBy w21 (some go14):=(by rw [hw]; exact HP20.2); have hp_ : Kd.R (Kd.int .i64) 3 w21 w.heap.size (fun _ => True) (.slice (some ⟨go14,0,none⟩) x3_1.length co19) y240:=(by rw [hw,Ny240.out]; exact HP20.1); clear HP20; replace BK236:=Zz.k (Qcx (kk BK236) hg (Kd.R_ne HO_3.out BK236.out (by decide))); replace HO_3:=Zz.k (hp_); replace HB:=Zz.k ((by rw [hw]; exact Qdj (HB.out) GB14.out : Below w.heap.size w w21)); clear hg hw hp_)); try go_wp2_with (first | ((with_reducible refine Qaf (N:=5) rfl ?_); refine bx 5 #[.int .i64 0, .int .i64 0, .int .i64 0, .int .i64 0, .int .i64 0, .int .i64 0, .string (⟨#[]⟩ : ByteArray), .slice none 0 0, .int .i64 0, .int .i64 0, .int .i64 0] 34 (h := ?_); intro gb236 hg w15 hbox hb; have BK236:=Zz.k (hbox); have GW236:=bz HB hg; have GE236:=bz HB hg; replace HO_3:=rb HO_3 hb; replace HB:=bs HB hb; clear hb hbox hg; obtain ⟨_,_,_,_,_,_,_,_,_,_,_,_,_,_,_,_,_,_,_,_,_,_⟩:=kc11 BK236) | (go_at_call 125; (with_reducible refine (tree_Find.calls _ _ l0 ((Qad l0 x12_1).f6) ((Qad l0 x12_1).f7) t237 _ ?side1 ?side2 A10.out).mono ?_); (case side1 => exact Kd.C_below HR0.out (bw HB)); (case side2 => exact HC0.out); rintro e w17 ⟨rfl,hb⟩; replace HO_3:=Zz.k (Kd.R_below (by (with_reducible repeat (first | apply Kd.R_alloc | apply Kd.R_drewN | apply Kd.R_drew)); exact (Kd.R_mono (rf11 (Kd.R_types HO_3.out BK236.out (by decide))) (fun _ h_ => h_.1))) hb); replace BK236:=Zz.k (Qcp (bp11 (kk BK236)) hb); replace HB:=bs HB hb; clear hb; obtain ⟨_,_,_,_,_,_,_,_,_,_,_,_,_,_,_,_,_,_,_,_,_,_⟩:=kc11 BK236; obtain ⟨Ao19,co19,eo19⟩:=Kd.R_slice HO_3.out; subst eo19; have p238 : 0 <= (t237 : Int):=od; have q238 : t237 < (x3_1.length : Int):=od; obtain ⟨ad238,e238,hx238_0⟩:=Kd.at_int (Kd.R_reads' HO_3.out).2.2 t237 p238 q238; cases e238; replace p238:=eq_true p238; replace q238:=eq_true q238; have p239 : 0 <= (t237 : Int):=od; have q239 : t237 < (x3_1.length : Int):=od; obtain ⟨ad239,e239,hx239_0⟩:=Kd.at_int (Kd.R_reads' HO_3.out).2.2 t237 p239 q239; obtain rfl : ad238 = ad239:=(by injection e239); replace p239:=eq_true p239; replace q239:=eq_true q239; have p14 : 0 <= (t237 : Int):=od; have q14 : (t237 : Int) < ((x3_1.length : Int) : Int):=od; obtain ⟨go14,co14,eo14,gb14,gl14,cl14,HG14⟩:=Kd.R_form HO_3.out (by omega); (first | cases eo14 | (injection eo14 with ea_ en_ ec_; (first | subst ea_ | (injection ea_ with ea_; subst ea_)); subst ec_; clear en_)); have GB14:=Zz.k gb14; have GG14:=Zz.k HG14; clear gb14 gl14 HG14; (first | simp only [Qcy] at hx238_0 | skip); (first | simp only [Qcy] at hx239_0 | skip); obtain ⟨hx14_0,hf14_0⟩:=Kd.R_celln 0 HO_3.out (t237 : Int) p14 q14; replace p14:=eq_true p14; replace q14:=eq_true q14; obtain ⟨hy20_,hz20_⟩:=Kd.R_celln 0 HO_3.out (t237 : Int) (od) (od); have HP20:=Kd.R_putg HO_3.out (t237 : Int) (wrap64 ((rd x3_1 t237) + 1))) | ((with_reducible refine gate_store (t:=3) (p:=37) rfl ?_); (try (rw [drewN_self w17]; generalize hq_ : World.drewN w17 _ = w17; have n0_:=Zz.k (Kd.R_at hq_ HO_3.out); have n1_:=Zz.k (blk_at hq_ BK236.out); have n2_:=Zz.k (below_at hq_ HB.out); clear hq_ HO_3 BK236 HB; have HO_3:=n0_; have BK236:=n1_; have HB:=n2_; clear n0_ n1_ n2_; (try (obtain ⟨hy20_,hz20_⟩:=Kd.R_celln 0 HO_3.out (t237 : Int) (od) (od))); (try (have HP20:=Kd.R_putg HO_3.out (t237 : Int) (wrap64 ((rd x3_1 t237) + 1)))))); refine store_event (t:=3) (p:=37) (v := ?vo_w21) (w1:=(w17.setCell ⟨go14,(t237 : Int).toNat,none⟩ (.int .i64 (wrap64 ((rd x3_1 t237) + 1))))) ?hg ?ho ?hn ?hr ?_; (case ho => rfl); (case hg => rfl); (case hn => rfl); (case hr => first | (go_simp; done) | (go_simp; rfl)); intro w21 hw; have hg : w17.grownBy w21 (some go14):=(by rw [hw]; exact HP20.2); have hp_ : Kd.R (Kd.int .i64) 3 w21 w.heap.size (fun _ => True) (.slice (some ⟨go14,0,none⟩) x3_1.length co19) y240:=(by rw [hw,Ny240.out]; exact HP20.1); clear HP20; replace BK236:=Zz.k (Qcx (kk BK236) hg (Kd.R_ne HO_3.out BK236.out (by decide))); replace HO_3:=Zz.k (hp_); replace HB:=Zz.k ((by rw [hw]; exact Qdj (HB.out) GB14.out : Below w.heap.size w w21)); clear hg hw hp_)))
   go_roundg k1
   case measure => have:=HK1.out; omega
   case rel => exact ⟨(y240),(wrap64 (x12_1 + 1)),rf,H',⟨by have:=HK1.out; omega⟩,⟨rk HO_3⟩,⟨bw HB⟩⟩
def doc_Works.l0 : Nat -> List (SOp) -> List Bool -> List Int -> Int -> Int -> Option (List Bool)
 | 0,_,_,_,_,_ => none
 | k + 1,x0,x3,x10,x11,x12 => if x12 < x11 then (if 0 <= x12 then (if x12 < (x10.length : Int) then (if x12 < (x0.length : Int) then (if ((Qad x0 x12).f2) = 1 then (if x12 < (x3.length : Int) then (doc_Works.l0 k x0 (x3.set (x12 : Int).toNat ((Int.tmod (rd x10 x12) 2) == 0)) x10 x11 (wrap64 (x12 + 1))) else (none)) else (if x12 < (x3.length : Int) then (doc_Works.l0 k x0 (x3.set (x12 : Int).toNat false) x10 x11 (wrap64 (x12 + 1))) else (none))) else (none)) else (none)) else (none)) else (some x3)
def doc_Works.f (k : Nat) (l0 : List (SOp)) : Option (List Bool):=if 0 <= (l0.length : Int) then (if ((l0.length : Int) : Int).toNat <= 281474976710656 then ((doc_Counts.f k l0).bind fun t244 => (doc_Works.l0 k l0 (List.replicate ((l0.length : Int) : Int).toNat false) t244 (t244.length : Int) 0)) else (none)) else (none)
theorem doc_Works.calls (k : Nat) (A0 : Option Addr) (c0 : Nat) (l0 : List (SOp)) (r : List Bool) (w : World) (hr0 : Kd.C kOp w A0 l0.length l0) (hc0 : l0.length <= c0) (h : doc_Works.f k l0 = some r) :
  Calls Tryz.prog 78 #[.slice A0 l0.length c0] w fun e w' => ∃ v0_ : Value,e = .returned (v0_) /\ Kd.R Kd.bool 4 w' w.heap.size (fun _ => True) v0_ r /\ Below w.heap.size w w':=by
 have HR0:=Zz.k hr0
 have HC0:=Zz.k hc0
 clear hr0 hc0
 have HB:=Zz.k (Below.refl w.heap.size w)
 unfold doc_Works.f at h; have H:=h
 clear h
 by_cases c2 : 0 <= (l0.length : Int); rotate_left
 ·rw [if_neg c2] at H
  exact absurd H (by simp)
 rw [if_pos c2] at H
 have c2b0:=eq_true c2
 have c2b1:=Zd c2
 clear c2
 by_cases c3 : ((l0.length : Int) : Int).toNat <= 281474976710656; rotate_left
 ·rw [if_neg c3] at H
  exact absurd H (by simp)
 rw [if_pos c3] at H
 have c3b0:=eq_true c3
 have c3b1:=Zd c3
 clear c3
 obtain ⟨y241,hy241⟩ : ∃ y_ : List Bool,y_ = (List.replicate ((l0.length : Int) : Int).toNat false):=⟨_,rfl⟩
 first | rw [Option.bind_some,<- hy241] at H | rw [<- hy241] at H
 have Ny241:=Zz.k hy241
 clear hy241
 obtain ⟨t244,A4,H⟩:=bE H
 have H':=Zz.k H
 clear H
 go_enter Tryz.func78,Tryz.ntmps78
 go_wp2_with (first | ((with_reducible refine Qaf (N:=8) rfl ?_); refine Kd.R_make Kd.bool _ 4 rfl (N:=8) rfl 73 _ _ rfl (l0.length : Int) rfl rfl Tryz.underlying73 (.bool false) 1 info4 rfl (by decide) (by omega) false (ok:=fun _ => True) (okp:=fun _ => True) rfl (fun _ hk => hk) trivial (od) (Nat.le_trans (Nat.mul_le_mul_right _ (od : (l0.length : Int).toNat <= 281474976710656)) (by omega)) (Below.refl _ _) (Nat.le_refl _) ?_; intro v242 w5 ho6 hb hg_ hnew_; clear hg_ hnew_; (first | rw [<- Ny241.out] at ho6 | (simp only [Int.reduceToNat] at ho6; rw [<- Ny241.out] at ho6)); have HO243:=Zz.k (Kd.R_lower ho6 (Qal (bw HB))); replace HB:=bs HB hb; clear hb ho6) | ((with_reducible refine Qac (f:=92) rfl ?_); refine gl (some 10) Tryz.func92 #[.slice A0 l0.length c0] (h := ?_); (with_reducible refine (doc_Counts.calls k _ _ l0 t244 _ ?side1 ?side2 A4.out).mono ?_); (case side1 => exact cb HR0 HB); (case side2 => exact HC0.out); rintro e w7 ⟨v245,rfl,ho0,hb⟩; refine ⟨_,rfl, ?_⟩; have HO246:=Zz.k (Kd.R_lower ho0 (Qal (bw HB))); replace HO243:=rb HO243 hb; replace HB:=bs HB hb; clear hb; clear ho0; obtain ⟨Ao8,co8,eo8⟩:=Kd.R_slice HO246.out; subst eo8))
 go_loopg [12] k (fun kq v12 w' => ∃ (x3_1 : List Bool) (x12_1 : Int),v12 = .int .i64 x12_1 /\ Zz (doc_Works.l0 kq l0 x3_1 t244 (t244.length : Int) x12_1 = some r) /\ Zz (kq <= k) /\ Zz (Kd.R Kd.bool 4 w' w.heap.size (fun _ => True) v242 x3_1) /\ Zz (Kd.R (Kd.int .i64) 3 w' w.heap.size (fun _ => True) (.slice Ao8 t244.length co8) t244) /\ Zz (Below w.heap.size w w'))
 case atStart => exact ⟨(y241),(0),rf,H',⟨Nat.le_refl _⟩,⟨rk HO243⟩,⟨rk HO246⟩,⟨bw HB⟩⟩
 case round =>
  clear H'
  try clear c2b0; try clear c2b1; try clear c3b0; try clear c3b1
  obtain ⟨x3_1,x12_1,rfl,HA,HK1,HO_3,HO_10,HB⟩:=hrel
  cases gk with
  | zero => exact absurd HA.out (by simp [doc_Works.l0])
  | succ k1 =>
   have H:=HA.out
   clear HA
   simp only [doc_Works.l0] at H
   by_cases c9 : x12_1 < (t244.length : Int); rotate_left
   ·rw [if_neg c9] at H
    have c9b0:=Ze c9
    clear c9
    obtain rfl:=Zo H
    go_wp2
    go_ret
    exact ⟨_,re,by (with_reducible repeat (first | apply Kd.R_alloc | apply Kd.R_drewN | apply Kd.R_drew)); exact HO_3.out,bw HB⟩
   rw [if_pos c9] at H
   have c9b0:=Zd c9
   clear c9
   by_cases c10 : 0 <= x12_1; rotate_left
   ·rw [if_neg c10] at H
    exact absurd H (by simp)
   rw [if_pos c10] at H
   have c10b0:=Zd c10
   clear c10
   by_cases c11 : x12_1 < (t244.length : Int); rotate_left
   ·rw [if_neg c11] at H
    exact absurd H (by simp)
   rw [if_pos c11] at H
   have c11b0:=Zd c11
   clear c11
   by_cases c12 : x12_1 < (l0.length : Int); rotate_left
   ·rw [if_neg c12] at H
    exact absurd H (by simp)
   rw [if_pos c12] at H
   have c12b0:=Zd c12
   clear c12
   by_cases c13 : ((Qad l0 x12_1).f2) = 1
   ·rw [if_pos c13] at H
    obtain ⟨c13b0,c13b1⟩:=bT c13
    clear c13
    by_cases c14 : x12_1 < (x3_1.length : Int); rotate_left
    ·rw [if_neg c14] at H
     exact absurd H (by simp)
    rw [if_pos c14] at H
    have c14b0:=Zd c14
    clear c14
    obtain ⟨y249,hy249⟩ : ∃ y_ : List Bool,y_ = (x3_1.set (x12_1 : Int).toNat ((Int.tmod (rd t244 x12_1) 2) == 0)):=⟨_,rfl⟩
    first | rw [Option.bind_some,<- hy249] at H | rw [<- hy249] at H
    have Ny249:=Zz.k hy249
    clear hy249
    have H':=Zz.k H
    clear H
    have p247 : 0 <= (x12_1 : Int):=od
    have q247 : x12_1 < (t244.length : Int):=od
    obtain ⟨ad247,e247,hx247_0⟩:=Kd.at_int (Kd.R_reads' HO_10.out).2.2 x12_1 p247 q247
    cases e247
    replace p247:=eq_true p247
    replace q247:=eq_true q247
    have p248 : 0 <= (x12_1 : Int):=od
    have q248 : x12_1 < (l0.length : Int):=od
    obtain ⟨ad248,A248_7,c248_7,e248,hx248_0,hx248_1,hx248_2,hx248_3,hx248_4,hx248_5,hx248_6,hx248_7,hx248_8,hx248_9,hx248_10,hl248_7,hi248_7⟩:=Qcg HR0.out x12_1 p248 q248
    cases e248
    replace hx248_0:=cl HB hx248_0
    replace hx248_1:=cl HB hx248_1
    replace hx248_2:=cl HB hx248_2
    replace hx248_3:=cl HB hx248_3
    replace hx248_4:=cl HB hx248_4
    replace hx248_5:=cl HB hx248_5
    replace hx248_6:=cl HB hx248_6
    replace hx248_7:=cl HB hx248_7
    replace hx248_8:=cl HB hx248_8
    replace hx248_9:=cl HB hx248_9
    replace hx248_10:=cl HB hx248_10
    have HR248_7:=Zz.k hi248_7
    have HC248_7:=Zz.k hl248_7
    clear hi248_7 hl248_7
    replace p248:=eq_true p248
    replace q248:=eq_true q248
    have p15 : 0 <= (x12_1 : Int):=od
    have q15 : (x12_1 : Int) < ((x3_1.length : Int) : Int):=od
    obtain ⟨go15,co15,eo15,gb15,gl15,cl15,HG15⟩:=Kd.R_form HO_3.out (by omega)
    (first | cases eo15 | (injection eo15 with ea_ en_ ec_; (first | subst ea_ | (injection ea_ with ea_; subst ea_)); subst ec_; clear en_))
    have GB15:=Zz.k gb15
    have GG15:=Zz.k HG15
    clear gb15 gl15 HG15
    obtain ⟨hx15_0,hf15_0⟩:=Kd.R_celln false HO_3.out (x12_1 : Int) p15 q15
    replace p15:=eq_true p15
    replace q15:=eq_true q15
    have HP16:=Kd.R_putg HO_3.out (x12_1 : Int) ((Int.tmod (rd t244 x12_1) 2) == 0)
    go_wp2_with (first | ((with_reducible refine gate_store (t:=4) (p:=30) rfl ?_); refine store_event (t:=4) (p:=30) (v := ?vo_w17) (w1:=(wr.setCell ⟨go15,(x12_1 : Int).toNat,none⟩ (.bool ((Int.tmod (rd t244 x12_1) 2) == 0)))) ?hg ?ho ?hn ?hr ?_; (case ho => rfl); (case hg => rfl); (case hn => rfl); (case hr => first | (go_simp; done) | (go_simp; rfl)); intro w17 hw; have hg : wr.grownBy w17 (some go15):=(by rw [hw]; exact HP16.2); have hp_ : Kd.R Kd.bool 4 w17 w.heap.size (fun _ => True) (.slice (some ⟨go15,0,none⟩) x3_1.length co15) y249:=(by rw [hw,Ny249.out]; exact HP16.1); clear HP16; replace HO_10:=Zz.k (Kd.R_over' (v:=(.slice (some ⟨go15,0,none⟩) x3_1.length co15)) (rk HO_10) (Kd.R_typed HO_3.out) (by decide) hg); replace HO_3:=Zz.k (hp_); replace HB:=Zz.k ((by rw [hw]; exact Qdj (HB.out) GB15.out : Below w.heap.size w w17)); clear hg hw hp_))
    go_roundg k1
    case measure => have:=HK1.out; omega
    case rel => exact ⟨(y249),(wrap64 (x12_1 + 1)),rf,H',⟨by have:=HK1.out; omega⟩,⟨rk HO_3⟩,⟨rk HO_10⟩,⟨bw HB⟩⟩
   rw [if_neg c13] at H
   obtain ⟨c13b0,c13b1⟩:=bF c13
   by_cases c18 : x12_1 < (x3_1.length : Int); rotate_left
   ·rw [if_neg c18] at H
    exact absurd H (by simp)
   rw [if_pos c18] at H
   have c18b0:=Zd c18
   clear c18
   obtain ⟨y250,hy250⟩ : ∃ y_ : List Bool,y_ = (x3_1.set (x12_1 : Int).toNat false):=⟨_,rfl⟩
   first | rw [Option.bind_some,<- hy250] at H | rw [<- hy250] at H
   have Ny250:=Zz.k hy250
   clear hy250
   have H':=Zz.k H
   clear H
   have p247 : 0 <= (x12_1 : Int):=od
   have q247 : x12_1 < (t244.length : Int):=od
   obtain ⟨ad247,e247,hx247_0⟩:=Kd.at_int (Kd.R_reads' HO_10.out).2.2 x12_1 p247 q247
   cases e247
   replace p247:=eq_true p247
   replace q247:=eq_true q247
   have p248 : 0 <= (x12_1 : Int):=od
   have q248 : x12_1 < (l0.length : Int):=od
   obtain ⟨ad248,A248_7,c248_7,e248,hx248_0,hx248_1,hx248_2,hx248_3,hx248_4,hx248_5,hx248_6,hx248_7,hx248_8,hx248_9,hx248_10,hl248_7,hi248_7⟩:=Qcg HR0.out x12_1 p248 q248
   cases e248
   replace hx248_0:=cl HB hx248_0
   replace hx248_1:=cl HB hx248_1
   replace hx248_2:=cl HB hx248_2
   replace hx248_3:=cl HB hx248_3
   replace hx248_4:=cl HB hx248_4
   replace hx248_5:=cl HB hx248_5
   replace hx248_6:=cl HB hx248_6
   replace hx248_7:=cl HB hx248_7
   replace hx248_8:=cl HB hx248_8
   replace hx248_9:=cl HB hx248_9
   replace hx248_10:=cl HB hx248_10
   have HR248_7:=Zz.k hi248_7
   have HC248_7:=Zz.k hl248_7
   clear hi248_7 hl248_7
   replace p248:=eq_true p248
   replace q248:=eq_true q248
   have p19 : 0 <= (x12_1 : Int):=od
   have q19 : (x12_1 : Int) < ((x3_1.length : Int) : Int):=od
   obtain ⟨go19,co19,eo19,gb19,gl19,cl19,HG19⟩:=Kd.R_form HO_3.out (by omega)
   (first | cases eo19 | (injection eo19 with ea_ en_ ec_; (first | subst ea_ | (injection ea_ with ea_; subst ea_)); subst ec_; clear en_))
   have GB19:=Zz.k gb19
   have GG19:=Zz.k HG19
   clear gb19 gl19 HG19
   obtain ⟨hx19_0,hf19_0⟩:=Kd.R_celln false HO_3.out (x12_1 : Int) p19 q19
   replace p19:=eq_true p19
   replace q19:=eq_true q19
   have HP20:=Kd.R_putg HO_3.out (x12_1 : Int) false
   go_wp2_with (first | ((with_reducible refine gate_store (t:=4) (p:=30) rfl ?_); refine store_event (t:=4) (p:=30) (v := ?vo_w21) (w1:=(wr.setCell ⟨go19,(x12_1 : Int).toNat,none⟩ (.bool false))) ?hg ?ho ?hn ?hr ?_; (case ho => rfl); (case hg => rfl); (case hn => rfl); (case hr => first | (go_simp; done) | (go_simp; rfl)); intro w21 hw; have hg : wr.grownBy w21 (some go19):=(by rw [hw]; exact HP20.2); have hp_ : Kd.R Kd.bool 4 w21 w.heap.size (fun _ => True) (.slice (some ⟨go19,0,none⟩) x3_1.length co19) y250:=(by rw [hw,Ny250.out]; exact HP20.1); clear HP20; replace HO_10:=Zz.k (Kd.R_over' (v:=(.slice (some ⟨go19,0,none⟩) x3_1.length co19)) (rk HO_10) (Kd.R_typed HO_3.out) (by decide) hg); replace HO_3:=Zz.k (hp_); replace HB:=Zz.k ((by rw [hw]; exact Qdj (HB.out) GB19.out : Below w.heap.size w w21)); clear hg hw hp_))
   go_roundg k1
   case measure => have:=HK1.out; omega
   case rel => exact ⟨(y250),(wrap64 (x12_1 + 1)),rf,H',⟨by have:=HK1.out; omega⟩,⟨rk HO_3⟩,⟨rk HO_10⟩,⟨bw HB⟩⟩
def op_All.l0 : Nat -> List (SElem) -> Int -> Int -> Int -> Int -> Int -> Int -> Int -> Int -> ByteArray -> List (SElem) -> Int -> Int -> Int -> Option ((List (SElem)))
 | 0,_,_,_,_,_,_,_,_,_,_,_,_,_,_ => none
 | k + 1,x2,x5,x6,x252000,x252001,x252002,x252003,x252004,x252005,x252006,x252007,x252008,x252009,x252010 => if x6 < x5 then ((op_At.f x252000 x252001 x252002 x252003 x252004 x252005 x252006 x252007 x252008 x252009 x252010 x6).bind fun bt253 => (if x2.length < 5864062014805 then (op_All.l0 k (x2 ++ [(⟨bt253.1,bt253.2.1,bt253.2.2⟩ : SElem)]) x5 (wrap64 (x6 + 1)) x252000 x252001 x252002 x252003 x252004 x252005 x252006 x252007 x252008 x252009 x252010) else (none))) else (some x2)
def op_All.f (k : Nat) (a0_0 : Int) (a0_1 : Int) (a0_2 : Int) (a0_3 : Int) (a0_4 : Int) (a0_5 : Int) (a0_6 : ByteArray) (l0_7 : List (SElem)) (a0_8 : Int) (a0_9 : Int) (a0_10 : Int) : Option ((List (SElem))):=(op_Size.f a0_0 a0_1 a0_2 a0_3 a0_4 a0_5 a0_6 l0_7 a0_8 a0_9 a0_10).bind fun t252 => (op_All.l0 k ([] : List (SElem)) t252 0 a0_0 a0_1 a0_2 a0_3 a0_4 a0_5 a0_6 l0_7 a0_8 a0_9 a0_10)
theorem op_All.calls (k : Nat) (a0_0 : Int) (a0_1 : Int) (a0_2 : Int) (a0_3 : Int) (a0_4 : Int) (a0_5 : Int) (a0_6 : ByteArray) (A0_7 : Option Addr) (c0_7 : Nat) (l0_7 : List (SElem)) (a0_8 : Int) (a0_9 : Int) (a0_10 : Int) (r : List (SElem)) (w : World) (hr0_7 : Kd.C Qap w A0_7 l0_7.length l0_7) (hc0_7 : l0_7.length <= c0_7) (h : op_All.f k a0_0 a0_1 a0_2 a0_3 a0_4 a0_5 a0_6 l0_7 a0_8 a0_9 a0_10 = some r) :
  Calls Tryz.prog 79 #[.agg #[.int .i64 a0_0, .int .i64 a0_1, .int .i64 a0_2, .int .i64 a0_3, .int .i64 a0_4, .int .i64 a0_5, .string a0_6, .slice A0_7 l0_7.length c0_7, .int .i64 a0_8, .int .i64 a0_9, .int .i64 a0_10]] w fun e w' => ∃ v0_ : Value,e = .returned (v0_) /\ Kd.R Qap 32 w' w.heap.size (fun _ => True) v0_ r /\ Below w.heap.size w w':=by
 have hu34:=Tryz.underlying34
 have HR0_7:=Zz.k hr0_7
 have HC0_7:=Zz.k hc0_7
 clear hr0_7 hc0_7
 have HB:=Zz.k (Below.refl w.heap.size w)
 unfold op_All.f at h; have H:=h
 clear h
 obtain ⟨t252,A2,H⟩:=bE H
 have H':=Zz.k H
 clear H
 go_enter Tryz.func79,Tryz.ntmps79
 go_wp2_with (first | ((with_reducible refine Qaf (N:=1) rfl ?_); refine bx 1 #[.int .i64 a0_0, .int .i64 a0_1, .int .i64 a0_2, .int .i64 a0_3, .int .i64 a0_4, .int .i64 a0_5, .string a0_6, .slice A0_7 l0_7.length c0_7, .int .i64 a0_8, .int .i64 a0_9, .int .i64 a0_10] 34 (h := ?_); intro gb251 hg w3 hbox hb; have BK251:=Zz.k (hbox); have GW251:=bz HB hg; have GE251:=bz HB hg; replace HB:=bs HB hb; clear hb hbox hg; obtain ⟨_,_,_,_,_,_,_,_,_,_,_,_,_,_,_,_,_,_,_,_,_,_⟩:=kc11 BK251) | ((with_reducible refine Qac (f:=106) rfl ?_); refine gl (some 5) Tryz.func106 #[.agg #[.int .i64 a0_0, .int .i64 a0_1, .int .i64 a0_2, .int .i64 a0_3, .int .i64 a0_4, .int .i64 a0_5, .string a0_6, .slice A0_7 l0_7.length c0_7, .int .i64 a0_8, .int .i64 a0_9, .int .i64 a0_10]] (h := ?_); (with_reducible refine (op_Size.calls a0_0 a0_1 a0_2 a0_3 a0_4 a0_5 a0_6 _ _ l0_7 a0_8 a0_9 a0_10 t252 _ ?side1 ?side2 A2.out).mono ?_); (case side1 => exact cb HR0_7 HB); (case side2 => exact HC0_7.out); rintro e w5 ⟨rfl,hb⟩; refine ⟨_,rfl, ?_⟩; replace BK251:=bl BK251 hb; replace HB:=bs HB hb; clear hb))
 go_loopg [2,6] k (fun kq v2 v6 w' => ∃ (x2_1 : List (SElem)) (x6_1 : Int),v6 = .int .i64 x6_1 /\ Zz (op_All.l0 kq x2_1 t252 x6_1 a0_0 a0_1 a0_2 a0_3 a0_4 a0_5 a0_6 l0_7 a0_8 a0_9 a0_10 = some r) /\ Zz (kq <= k) /\ Zz (Kd.R Qap 32 w' w.heap.size (fun _ => True) v2 x2_1) /\ Zz (w'.heap[gb251]? = some (.cells #[.int .i64 a0_0, .int .i64 a0_1, .int .i64 a0_2, .int .i64 a0_3, .int .i64 a0_4, .int .i64 a0_5, .string a0_6,(.slice A0_7 l0_7.length c0_7), .int .i64 a0_8, .int .i64 a0_9, .int .i64 a0_10] 34 (0,0))) /\ Zz (Below w.heap.size w w'))
 case atStart => exact ⟨(([] : List (SElem))),(0),rf,H',⟨Nat.le_refl _⟩,⟨by first | exact Kd.R_nil _ _ _ _ _ | exact Kd.N_nil _ _ _ _ _ | exact Kd.V_nil _ _ _ _ _ | exact Kd.Q_nil _ _ _ _ _ | exact Kd.S_nil _ _ _ _ _⟩,⟨kk BK251⟩,⟨bw HB⟩⟩
 case round =>
  clear H'
  obtain ⟨x2_1,x6_1,rfl,HA,HK1,HO_2,BK251,HB⟩:=hrel
  cases gk with
  | zero => exact absurd HA.out (by simp [op_All.l0])
  | succ k1 =>
   have H:=HA.out
   clear HA
   simp only [op_All.l0] at H
   by_cases c6 : x6_1 < t252; rotate_left
   ·rw [if_neg c6] at H
    have c6b0:=Ze c6
    clear c6
    obtain rfl:=Zo H
    go_wp2
    go_ret
    exact ⟨_,re,by (with_reducible repeat (first | apply Kd.R_alloc | apply Kd.R_drewN | apply Kd.R_drew)); exact HO_2.out,bw HB⟩
   rw [if_pos c6] at H
   have c6b0:=Zd c6
   clear c6
   obtain ⟨⟨t253,t254,t255⟩,A7,H⟩:=bE H
   try dsimp only at H
   by_cases c8 : x2_1.length < 5864062014805; rotate_left
   ·rw [if_neg c8] at H
    exact absurd H (by simp)
   rw [if_pos c8] at H
   have LMc8:=Zz.k c8
   clear c8
   obtain ⟨y256,hy256⟩ : ∃ y_ : List (SElem),y_ = (x2_1 ++ [(⟨t253,t254,t255⟩ : SElem)]):=⟨_,rfl⟩
   first | rw [Option.bind_some,<- hy256] at H | rw [<- hy256] at H
   have Ny256:=Zz.k hy256
   clear hy256
   have H':=Zz.k H
   clear H
   obtain ⟨_,_,_,_,_,_,_,_,_,_,_,_,_,_,_,_,_,_,_,_,_,_⟩:=kc11 BK251
   go_wp2_with (first | ((with_reducible refine Qac (f:=109) rfl ?_); refine gl (some 12) Tryz.func109 #[.agg #[.int .i64 a0_0, .int .i64 a0_1, .int .i64 a0_2, .int .i64 a0_3, .int .i64 a0_4, .int .i64 a0_5, .string a0_6, .slice A0_7 l0_7.length c0_7, .int .i64 a0_8, .int .i64 a0_9, .int .i64 a0_10], .int .i64 x6_1] (h := ?_); (with_reducible refine (op_At.calls a0_0 a0_1 a0_2 a0_3 a0_4 a0_5 a0_6 _ _ l0_7 a0_8 a0_9 a0_10 x6_1 t253 t254 t255 _ ?side1 ?side2 A7.out).mono ?_); (case side1 => exact cb HR0_7 HB); (case side2 => exact HC0_7.out); rintro e w10 ⟨rfl,hb⟩; refine ⟨_,rfl, ?_⟩; replace HO_2:=rb HO_2 hb; replace BK251:=bl BK251 hb; replace HB:=bs HB hb; clear hb) | ((with_reducible refine Qbz (b:=.append) (xs:=#[.tmp 9, .tmp 13]) rfl ?_); at_builtin; refine Kd.R_append Qap (w0:=w) w.heap.size rfl (.tmp 9) (.tmp 13) 23 32 (.agg #[(.int .i64 0),(.int .i64 0),(.int .i64 0)]) 24 rfl Tryz.underlying23 info32 rfl (by decide) (by omega) u2 x2_1 (⟨t253,t254,t255⟩ : SElem) [.int .i64 t253, .int .i64 t254, .int .i64 t255] (fun _ => True) (fun _ => False) rfl rfl ?aP (fun _ hk => hk.elim) ?aF ?aO ?aB ?aS ?aL ?_; (case aP => exact Qcd _ _ _ (⟨t253,t254,t255⟩ : SElem)); (case aB => exact (bw HB)); (case aF => exact (fun _ _ => trivial)); (case aO => exact (rk HO_2)); (case aS => exact (Qal (bw HB))); (case aL => have:=LMc8.out; omega); intro v257 w11 ho hb hg hat; rw [<- Ny256.out] at ho; have n0_:=Zz.k (Qcx (kk BK251) hg (Kd.R_ne HO_2.out BK251.out (by decide))); have n1_:=Zz.k (hb); have n2_:=Zz.k (ho); clear BK251; clear HB; clear HO_2; have BK251:=n0_; have HB:=n1_; have HO258:=n2_; clear n0_ n1_ n2_; clear ho hb hg hat))
   go_roundg k1
   case measure => have:=HK1.out; omega
   case rel => exact ⟨(y256),(wrap64 (x6_1 + 1)),rf,H',⟨by have:=HK1.out; omega⟩,⟨rk HO258⟩,⟨kk BK251⟩,⟨bw HB⟩⟩
end
section
def InB (n : List Int) (b : Int) : Prop:=∀ x ∈ n,0 <= x /\ x <= b
theorem cstep_bound (l : List SOp) {n : List Int} {b : Int} (h : InB n b) (hb : 0 <= b) (o : SOp) : InB (cstep l n o) (b + 1):=by
 have hd : 0 <= n.getD (Qbf l o.f6 o.f7).toNat 0 /\ n.getD (Qbf l o.f6 o.f7).toNat 0 <= b:=by
  rw [List.getD_eq_getElem?_getD]
  cases hq : n[(Qbf l o.f6 o.f7).toNat]? with
  | none => exact ⟨Int.le_refl _,hb⟩
  | some y => exact h y (List.mem_of_getElem? hq)
 unfold cstep
 split
 ·split
  ·intro x hx
   rcases List.mem_or_eq_of_mem_set hx with hx | rfl
   ·have:=h x hx; omega
   ·omega
  ·intro x hx; have:=h x hx; omega
 ·intro x hx; have:=h x hx; omega
theorem tree_Find_f {l : List SOp} (hl : l.length <= 1000000) (a b : Int) : tree_Find.f l a b = some (Qbf l a b):=by unfold tree_Find.f; rw [if_pos (by omega)]
theorem Counts_loop {l : List SOp} (h : RowOk l) : ∀ d i,i + d = l.length -> ∀ n : List Int,n.length = l.length -> InB n (i : Int) -> (l.take i).foldl (cstep l) (List.replicate l.length 0) = n -> Ev (fun k => doc_Counts.l0 k l n l (l.length : Int) (i : Int)) (countsL l)
 | 0,i,hi,n,hn,hb,hf => by
  rw [List.take_of_length_le (by omega)] at hf
  have : countsL l = n:=hf
  rw [this]
  refine Ev.step (f:=fun _ => some n) (fun k => ?_) (Ev.now _)
  simp only [doc_Counts.l0]
  rw [if_neg (by omega)]
 | d + 1,i,hi,n,hn,hb,hf => by
  have hlt : i < l.length:=by omega
  have h40:=h.sums.1
  have ih:=Counts_loop h d (i + 1) (by omega) (cstep l n l[i]) (by rw [cstep_length]; exact hn) (by have:=cstep_bound l hb (by omega) l[i]; simpa using this) (by
   rw [List.take_succ_eq_append_getElem hlt,List.foldl_append,hf]; rfl)
  refine Ev.step (fun k => ?_) ih
  simp only [doc_Counts.l0]
  rw [if_pos (by omega),if_pos (by omega),if_pos (by omega),Qar _ _ hlt,Qdm hlt (by omega)]
  by_cases h2 : l[i].f2 = 2
  ·obtain ⟨j,hj,_,_,_,e⟩:=tog_found h (List.getElem_mem hlt) h2
   have hd : 0 <= n.getD j 0 /\ n.getD j 0 <= (i : Int):=by
    rw [List.getD_eq_getElem?_getD]
    cases hq : n[j]? with
    | none => exact ⟨Int.le_refl _,by simp⟩
    | some y => exact hb y (List.mem_of_getElem? hq)
   rw [if_pos h2,tree_Find_f (by omega),Option.bind_some]
   unfold cstep
   rw [if_pos h2,e]
   rw [if_pos (by omega),if_pos (by omega)]
   have hrd : rd n (j : Int) = n.getD j 0:=by unfold rd; rw [Int.toNat_natCast]
   rw [hrd,Int.toNat_natCast,Qak (by omega) (by omega)]
   by_cases h8 : l[i].f8 = n.getD j 0
   ·rw [if_pos h8,if_pos h8]
   ·rw [if_neg h8,if_neg h8]
  ·rw [if_neg h2]
   unfold cstep
   rw [if_neg h2]
theorem Counts_ev {l : List SOp} (h : RowOk l) : Ev (fun k => doc_Counts.f k l) (countsL l):=by
 have h40:=h.sums.1
 refine Ev.congr (fun k => ?_) (Counts_loop h l.length 0 (Nat.zero_add _) (List.replicate l.length 0) (by simp) (fun x hx => by rw [List.eq_of_mem_replicate hx]; exact ⟨Int.le_refl _,Int.le_refl _⟩) rfl)
 unfold doc_Counts.f
 rw [if_pos (by omega),if_pos (by omega),Int.toNat_natCast]
 rfl
theorem counts_bound {l : List SOp} : InB (countsL l) (l.length : Int):=by
 have : ∀ i,i <= l.length -> InB ((l.take i).foldl (cstep l) (List.replicate l.length 0)) (i : Int):=by
  intro i
  induction i with
  | zero => intro _ x hx; rw [List.eq_of_mem_replicate hx]; exact ⟨Int.le_refl _,Int.le_refl _⟩
  | succ i ih =>
   intro hi
   rw [List.take_succ_eq_append_getElem (by omega),List.foldl_append]
   have:=cstep_bound l (ih (by omega)) (by omega) (l[i]'(by omega))
   simpa using this
 have:=this l.length (Nat.le_refl _)
 rwa [List.take_length] at this
def worksL (l : List SOp) : List Bool:=l.map (Qbo l)
theorem Works_loop {l : List SOp} (h : RowOk l) : ∀ d i,i + d = l.length -> Ev (fun k => doc_Works.l0 k l ((l.take i).map (Qbo l) ++ List.replicate (l.length - i) false) (countsL l) (l.length : Int) (i : Int)) (worksL l)
 | 0,i,hi => by
  rw [List.take_of_length_le (by omega),show l.length - i = 0 by omega]
  simp only [List.replicate_zero,List.append_nil]
  refine Ev.step (f:=fun _ => some (worksL l)) (fun k => ?_) (Ev.now _)
  simp only [doc_Works.l0]
  rw [if_neg (by omega)]
  rfl
 | d + 1,i,hi => by
  have hlt : i < l.length:=by omega
  have h40:=h.sums.1
  have ih:=Works_loop h d (i + 1) (by omega)
  have hc:=counts_at h hlt
  have hcb : 0 <= (countsL l).getD i 0:=by
   rw [List.getD_eq_getElem?_getD]
   cases hq : (countsL l)[i]? with
   | none => exact Int.le_refl _
   | some y => exact (counts_bound y (List.mem_of_getElem? hq)).1
  have hset : ∀ b,b = Qbo l l[i] -> ((l.take i).map (Qbo l) ++ List.replicate (l.length - i) false).set i b = (l.take (i + 1)).map (Qbo l) ++ List.replicate (l.length - (i + 1)) false:=by
   intro b hb
   have hl : ((l.take i).map (Qbo l)).length = i:=by rw [List.length_map,List.length_take]; omega
   rw [List.set_append,if_neg (by omega),hl,Nat.sub_self,show l.length - i = (l.length - (i + 1)) + 1 by omega,List.replicate_succ,List.set_cons_zero,List.take_succ_eq_append_getElem hlt,List.map_append,hb]
   simp
  have hlen : (((l.take i).map (Qbo l) ++ List.replicate (l.length - i) false).length : Int) = l.length:=by
   rw [List.length_append,List.length_map,List.length_take,List.length_replicate]; omega
  refine Ev.step (fun k => ?_) ih
  simp only [doc_Works.l0]
  rw [hlen,if_pos (by omega),if_pos (by omega),if_pos (by rw [counts_length]; omega),if_pos (by omega),Qar _ _ hlt,Qdm hlt (by omega),Int.toNat_natCast]
  have hrd : rd (countsL l) (i : Int) = cntR l l[i].f0 l[i].f1:=by unfold rd; rw [Int.toNat_natCast,hc]
  by_cases h1 : l[i].f2 = 1
  ·rw [if_pos h1,if_pos (by omega),hset _ ?_]
   rw [hrd]
   unfold Qbo
   rw [<- hc,Int.tmod_eq_emod_of_nonneg hcb,h1]
   simp
  ·rw [if_neg h1,if_pos (by omega),hset _ ?_]
   unfold Qbo
   simp [h1]
theorem Works_ev {l : List SOp} (h : RowOk l) : Ev (fun k => doc_Works.f k l) (worksL l):=by
 have h40:=h.sums.1
 refine Ev.congr (f:=fun k => (doc_Counts.f k l).bind fun t314 => doc_Works.l0 k l (List.replicate l.length false) t314 (t314.length : Int) 0) (fun k => ?_) (Ev.bind (f:=fun k t314 => doc_Works.l0 k l (List.replicate l.length false) t314 (t314.length : Int) 0) (Counts_ev h) ?_)
 ·unfold doc_Works.f
  rw [if_pos (by omega),if_pos (by omega),Int.toNat_natCast]
 ·rw [counts_length]
  have:=Works_loop h l.length 0 (Nat.zero_add _)
  simpa using this
theorem All_loop (o : SOp) (hs : Qaj o <= 1000000) : ∀ d i,i + d = Qaj o -> Ev (fun k => op_All.l0 k ((List.range i).map fun j : Nat => (⟨o.f0,o.f1,(j : Int)⟩ : SElem)) (Qaj o : Int) (i : Int) o.f0 o.f1 o.f2 o.f3.f0 o.f3.f1 o.f3.f2 o.f4 o.f5 o.f6 o.f7 o.f8) (Qan o)
 | 0,i,hi => by
  obtain rfl : i = Qaj o:=by omega
  refine Ev.step (f:=fun _ => some (Qan o)) (fun k => ?_) (Ev.now _)
  simp only [op_All.l0]
  rw [if_neg (by omega)]
  rfl
 | d + 1,i,hi => by
  have ih:=All_loop o hs d (i + 1) (by omega)
  rw [List.range_succ,List.map_append] at ih
  refine Ev.step (fun k => ?_) ih
  simp only [op_All.l0]
  unfold op_At.f
  rw [if_pos (by omega),Option.bind_some,if_pos (by simp; omega),Qdm (show i < Qaj o by omega) (by omega)]
  rfl
theorem All_ev (o : SOp) (hs : Sm o) (h12 : Qaj o <= 1000000) : Ev (fun k => op_All.f k o.f0 o.f1 o.f2 o.f3.f0 o.f3.f1 o.f3.f2 o.f4 o.f5 o.f6 o.f7 o.f8) (Qan o):=by
 refine Ev.congr (fun k => ?_) (All_loop o h12 (Qaj o) 0 (Nat.zero_add _))
 unfold op_All.f
 rw [op_Size_f o hs,Option.bind_some]
 rfl
end
section
def mkE (k : Int × Int × Int) : SElem:=⟨k.1,k.2.1,k.2.2⟩
def goneS (l ms : List SOp) : Int × Int × Int -> Bool:=fun k => ms.any fun o => Qbo l o && decide (mkE k ∈ o.f5)
def theS (l ms : List SOp) : Int × Int × Int -> Bool:=fun k => ms.any fun o => Qbo l o && decide (mkE k ∈ Qan o)
def addS (S : Int × Int × Int -> Bool) (es : List SElem) : Int × Int × Int -> Bool:=fun k => S k || decide (mkE k ∈ es)
theorem addS_nil (S : Int × Int × Int -> Bool) : addS S [] = S:=by funext k; simp [addS]
theorem addS_snoc (S : Int × Int × Int -> Bool) (es : List SElem) (x : SElem) : updB (addS S es) (x.f0,x.f1,x.f2) = addS S (es ++ [x]):=by
 funext k
 unfold updB addS
 by_cases h : k = (x.f0,x.f1,x.f2)
 ·rw [if_pos h]
  have : mkE k = x:=by rw [h]; rfl
  simp [this]
 ·rw [if_neg h]
  have : mkE k ≠ x:=fun e => h (by rw [<- e]; rfl)
  simp [this]
theorem goneS_snoc (l ms : List SOp) (o : SOp) : goneS l (ms ++ [o]) = if Qbo l o = true then addS (goneS l ms) o.f5 else goneS l ms:=by
 funext k
 have h1 : ∀ b : Bool,(if b = true then (fun k => goneS l ms k || decide (mkE k ∈ o.f5)) else goneS l ms) k = (goneS l ms k || (b && decide (mkE k ∈ o.f5))):=by intro b; cases b <;> simp
 refine Eq.trans ?_ (h1 (Qbo l o)).symm
 unfold goneS
 rw [List.any_append]; simp
theorem theS_snoc (l ms : List SOp) (o : SOp) : theS l (ms ++ [o]) = if Qbo l o = true then addS (theS l ms) (Qan o) else theS l ms:=by
 funext k
 have h1 : ∀ b : Bool,(if b = true then (fun k => theS l ms k || decide (mkE k ∈ Qan o)) else theS l ms) k = (theS l ms k || (b && decide (mkE k ∈ Qan o))):=by intro b; cases b <;> simp
 refine Eq.trans ?_ (h1 (Qbo l o)).symm
 unfold theS
 rw [List.any_append]; simp
structure K2 (b1 b2 : Nat) (w w' : World) : Prop where
 os : w'.os = w.os
 tape : w'.tape = w.tape
 output : w'.output = w.output
 size : w.heap.size <= w'.heap.size
 block : ∀ k,k < w.heap.size -> k ≠ b1 -> k ≠ b2 -> w'.heap[k]? = w.heap[k]?
theorem K2.refl (b1 b2 : Nat) (w : World) : K2 b1 b2 w w:=⟨rfl,rfl,rfl,Nat.le_refl _,fun _ _ _ _ => rfl⟩
theorem K2.below {b1 b2 : Nat} {w w1 w2 : World} (h : K2 b1 b2 w w1) (k : Below w1.heap.size w1 w2) : K2 b1 b2 w w2 :=
 ⟨k.os.trans h.os,k.tape.trans h.tape,k.output.trans h.output,Nat.le_trans h.size k.size,fun i hi h1 h2 => (k.block i (Nat.lt_of_lt_of_le hi h.size)).trans (h.block i hi h1 h2)⟩
theorem K2.grown {b1 b2 b : Nat} {w w1 w2 : World} (h : K2 b1 b2 w w1) (k : w1.grownBy w2 (some b)) (hb : b = b1 \/ b = b2) : K2 b1 b2 w w2 :=
 ⟨k.os.trans h.os,k.tape.trans h.tape,k.output.trans h.output,Nat.le_trans h.size k.size,fun i hi h1 h2 => (k.block i (Nat.lt_of_lt_of_le hi h.size) (fun e => by injection e with e; rcases hb with rfl | rfl; exact h1 e; exact h2 e)).trans (h.block i hi h1 h2)⟩
theorem K2.cell {b1 b2 : Nat} {w w' : World} (h : K2 b1 b2 w w') {a : Addr} {v : Value} (hc : w.cell? a = some v) (h1 : a.block ≠ b1) (h2 : a.block ≠ b2) : w'.cell? a = some v:=by
 have:=h.block a.block (World.block_lt_of_cell? w a hc) h1 h2
 simpa [World.cell?,this] using hc
theorem K2.toBelow {b1 b2 B : Nat} {w0 w w' : World} (hb : Below B w0 w) (h : K2 b1 b2 w w') (hB : B <= w.heap.size) (h1 : B <= b1) (h2 : B <= b2) : Below B w0 w' :=
 hb.trans ⟨h.os,h.tape,h.output,h.size,fun i hi => h.block i (Nat.lt_of_lt_of_le hi hB) (by omega) (by omega)⟩
theorem smalls_Sm {l : List SOp} (h : smalls l = true) : ∀ o ∈ l,Sm o:=by
 unfold smalls SmB at h
 simp only [Bool.and_eq_true,decide_eq_true_eq,List.all_eq_true] at h
 intro o ho
 have:=h.2 o ho
 exact ⟨by omega,by omega⟩
theorem opOk_gone200 {o : SOp} (h : opOk o = true) : o.f5.length <= 200:=by
 rcases Qdc h with ⟨_,h2⟩ | ⟨_,h2⟩
 ·unfold editOk goneOk at h2
  simp only [Bool.and_eq_true,decide_eq_true_eq] at h2
  omega
 ·unfold Qch at h2
  simp only [Bool.and_eq_true,List.isEmpty_iff] at h2
  rw [h2.2]; simp
theorem gone_in {o : SOp} (h : opOk o = true) : ∀ e ∈ o.f5,inI e.f0 /\ inI e.f1 /\ inI e.f2:=by
 intro e he
 obtain ⟨hb,hk,_⟩:=opOk_goneMem h e he
 obtain ⟨i0,i1⟩:=elemOk_in hk hb
 have:=elemOk_pos hk hb
 exact ⟨i0,i1,by unfold inI; omega⟩
theorem chain_in {o : SOp} (h : opOk o = true) : ∀ e ∈ Qan o,inI e.f0 /\ inI e.f1 /\ inI e.f2:=by
 intro e he
 obtain ⟨e0,e1,h2,h3⟩:=(mem_chain o e).1 he
 have hn:=opOk_name h
 have hs:=(Qcr h).1
 rw [<- e0,<- e1]
 exact ⟨hn.1,hn.2,by unfold inI; omega⟩
theorem K2.trans {b1 b2 : Nat} {w w1 w2 : World} (h : K2 b1 b2 w w1) (k : K2 b1 b2 w1 w2) : K2 b1 b2 w w2 :=
 ⟨k.os.trans h.os,k.tape.trans h.tape,k.output.trans h.output,Nat.le_trans h.size k.size,fun i hi h1 h2 => (k.block i (Nat.lt_of_lt_of_le hi h.size) h1 h2).trans (h.block i hi h1 h2)⟩
theorem ord_in {l : List SOp} (h : RowOk l) : ∀ e,e ∈ ordL l -> inI e.f0 /\ inI e.f1 /\ inI e.f2:=by
 intro e he
 obtain ⟨p,hp,e0,e1,h2,h3⟩:=(Qcm h e).1 he
 exact chain_in (h.oks p hp) e ((mem_chain p e).2 ⟨e0,e1,h2,h3⟩)
theorem mk_runE (t : TypeId) (w : World) : (Instr.makeMap t none).run Tryz.prog w = .ok (.map (some w.heap.size)) (w.alloc (.map #[] 0)):=rfl
theorem seen_start (w : World) : Below w.heap.size w ((((w.alloc (.map #[] 0)).alloc (.cells #[.map (some w.heap.size)] 107)).alloc (.map #[] 0)).alloc (.cells #[.map (some (w.heap.size + 1 + 1))] 107)) /\
  MapE ((((w.alloc (.map #[] 0)).alloc (.cells #[.map (some w.heap.size)] 107)).alloc (.map #[] 0)).alloc (.cells #[.map (some (w.heap.size + 1 + 1))] 107)) w.heap.size 0 (fun _ => false) /\
  MapE ((((w.alloc (.map #[] 0)).alloc (.cells #[.map (some w.heap.size)] 107)).alloc (.map #[] 0)).alloc (.cells #[.map (some (w.heap.size + 1 + 1))] 107)) (w.heap.size + 1 + 1) 0 (fun _ => false) /\
  (((((w.alloc (.map #[] 0)).alloc (.cells #[.map (some w.heap.size)] 107)).alloc (.map #[] 0)).alloc (.cells #[.map (some (w.heap.size + 1 + 1))] 107)).cell? ⟨w.heap.size + 1,0,none⟩ = some (.map (some w.heap.size)) /\
   ((((w.alloc (.map #[] 0)).alloc (.cells #[.map (some w.heap.size)] 107)).alloc (.map #[] 0)).alloc (.cells #[.map (some (w.heap.size + 1 + 1))] 107)).cell? ⟨w.heap.size + 1 + 1 + 1,0,none⟩ = some (.map (some (w.heap.size + 1 + 1)))) /\
  ((((w.alloc (.map #[] 0)).alloc (.cells #[.map (some w.heap.size)] 107)).alloc (.map #[] 0)).alloc (.cells #[.map (some (w.heap.size + 1 + 1))] 107)).heap.size = w.heap.size + 4:=by
 have m1 : MapE (w.alloc (.map #[] 0)) w.heap.size 0 (fun _ => false):=MapB.made _ _ _ _
 have m1':=m1.kept (World.grownBy_alloc _ (.cells #[.map (some w.heap.size)] 107) none) (by simp)
 have hs2 : ((w.alloc (.map #[] 0)).alloc (.cells #[.map (some w.heap.size)] 107)).heap.size = w.heap.size + 1 + 1:=by simp
 have hb2 : Below w.heap.size w ((w.alloc (.map #[] 0)).alloc (.cells #[.map (some w.heap.size)] 107)):=Qag (Qag (Below.refl _ _) _) _
 have hc2 : ((w.alloc (.map #[] 0)).alloc (.cells #[.map (some w.heap.size)] 107)).cell? ⟨w.heap.size + 1,0,none⟩ = some (.map (some w.heap.size)):=top_cell _ _ _ _ 0 (by simp)
 generalize (w.alloc (.map #[] 0)).alloc (.cells #[.map (some w.heap.size)] 107) = w2 at m1' hs2 hb2 hc2 ⊢
 have m2 : MapE (w2.alloc (.map #[] 0)) (w.heap.size + 1 + 1) 0 (fun _ => false):=by
  have:=MapB.made encE 32 4 w2; rw [hs2] at this; exact this
 have m1'':=m1'.kept (World.grownBy_alloc _ (.map #[] 0) none) (by simp)
 have hs3 : (w2.alloc (.map #[] 0)).heap.size = w.heap.size + 1 + 1 + 1:=by simp [hs2]
 have hb3:=Qag hb2 (.map #[] 0)
 have hc3:=Qab (Qag (Below.refl w2.heap.size w2) (.map #[] 0)) hc2
 generalize w2.alloc (.map #[] 0) = w3 at m1'' m2 hs3 hb3 hc3 ⊢
 have m1a:=m1''.kept (World.grownBy_alloc _ (.cells #[.map (some (w.heap.size + 1 + 1))] 107) none) (by simp)
 have m2a:=m2.kept (World.grownBy_alloc _ (.cells #[.map (some (w.heap.size + 1 + 1))] 107) none) (by simp)
 exact ⟨Qag hb3 _,m1a,m2a,⟨Qab (Qag (Below.refl w3.heap.size w3) _) hc3,top_cell _ _ _ _ 0 hs3⟩,by simp [hs3]⟩
def doc_Seen.f (l0 : List (SOp)) : Option ((List (SElem))):=if smalls l0 = true /\ mayB l0 = true then some (Qau l0) else none
theorem doc_Seen.calls (A0 : Option Addr) (c0 : Nat) (l0 : List (SOp)) (r : List (SElem)) (w : World) (hr0 : Kd.C kOp w A0 l0.length l0) (hc0 : l0.length <= c0) (h : doc_Seen.f l0 = some r) :
  Calls Tryz.prog 47 #[.slice A0 l0.length c0] w fun e w' => ∃ v0_ : Value,e = .returned (v0_) /\ Kd.R Qap 32 w' w.heap.size (fun _ => True) v0_ r /\ Below w.heap.size w w':=by
 unfold doc_Seen.f at h
 split at h
 case isFalse => cases h
 rename_i hsm
 obtain ⟨hs,hm⟩:=hsm
 obtain rfl:=Zo h
 have hrow:=(Qci l0).1 hm
 obtain ⟨kw,hkw⟩:=Ev.rounds (Works_ev hrow)
 have HR0:=Zz.k hr0
 have HC0:=Zz.k hc0
 have HW:=Zz.k (fun (W : World) (hb : Below w.heap.size w W) => doc_Works.calls kw A0 c0 l0 (worksL l0) W (Kd.C_below hr0 hb) hc0 hkw)
 have HROW:=Zz.k hrow
 have HSM:=Zz.k hs
 clear hr0 hc0 h hm hs hkw hrow
 go_enter Tryz.func47,Tryz.ntmps47
 have mk1:=fun w => mk_runE 107 w
 obtain ⟨s0,s1,s2,s3,s4⟩:=seen_start w
 have S1:=Zz.k s1
 have S2:=Zz.k s2
 have hW4:=HW.out _ s0
 have S0:=Zz.k s0
 have HW4:=Zz.k hW4
 have S3:=Zz.k s3
 have S4:=Zz.k s4
 clear s0 s1 s2 s3 s4 hW4 HW
 go_wp2_with fail
 refine HW4.out.mono ?_
 rintro e wW ⟨vW,rfl,hRW,hbW⟩
 obtain ⟨HBW,M1,M2,c1,c2,lW⟩ : Zz (Below w.heap.size w wW) /\ Zz (MapE wW w.heap.size 0 (fun _ => false)) /\ Zz (MapE wW (w.heap.size + 1 + 1) 0 (fun _ => false)) /\ wW.cell? ⟨w.heap.size + 1,0,none⟩ = some (.map (some w.heap.size)) /\ wW.cell? ⟨w.heap.size + 1 + 1 + 1,0,none⟩ = some (.map (some (w.heap.size + 1 + 1))) /\ w.heap.size + 4 <= wW.heap.size:=by
  refine ⟨⟨Qas S0.out hbW⟩,⟨S1.out.below hbW S1.out.lt⟩,⟨S2.out.below hbW S2.out.lt⟩,Qab hbW S3.out.1,Qab hbW S3.out.2, ?_⟩
  have:=hbW.size; rw [S4.out] at this; exact this
 have hRW2:=Kd.R_mono (Kd.R_bound hRW) (ok':=fun k => k ≠ w.heap.size /\ k ≠ w.heap.size + 1 + 1) (fun k hk => by have:=hk.2.1; rw [S4.out] at this; exact ⟨by omega,by omega⟩)
 have hlW : (worksL l0).length = l0.length:=by simp [worksL]
 obtain ⟨AW,cW,rfl,hcW,_⟩:=Kd.R_reads hRW2
 rw [hlW] at hcW ⊢
 have HCW:=Zz.k (fun (wr : World) (hk : K2 w.heap.size (w.heap.size + 1 + 1) wW wr) => (Kd.R_reads' (Kd.R_step hRW2 (fun k ho hlt => hk.block k hlt ho.1 ho.2))).2.2)
 have HC1:=Zz.k c1
 have HC2:=Zz.k c2
 have LW:=Zz.k lW
 clear hRW hRW2 hbW c1 c2 lW S0 S1 S2 S3 S4 HW4 hcW mk1
 rw [hlW] at HCW
 clear hlW
 go_wp2
 go_loopg [16] l0.length (fun gg s16 wr => ∃ i : Nat,i <= l0.length /\ l0.length - i <= gg /\ s16 = .int .i64 i /\ Zz (K2 w.heap.size (w.heap.size + 1 + 1) wW wr) /\ Zz (∃ n1 n2,n1 <= 200 * i /\ n2 <= 12 * i /\ MapE wr w.heap.size n1 (goneS l0 (l0.take i)) /\ MapE wr (w.heap.size + 1 + 1) n2 (theS l0 (l0.take i))))
 case atStart => exact ⟨0,Nat.zero_le _,by omega,rfl,⟨K2.refl _ _ _⟩,⟨0,0,Nat.le_refl _,Nat.le_refl _,M1.out,M2.out⟩⟩
 case round =>
  clear M1 M2
  obtain ⟨i,hi,hgk,rfl,HK,HM⟩:=hrel
  have h40:=HROW.out.sums.1
  by_cases hlt : i < l0.length
  ·obtain ⟨g',rfl⟩ : ∃ g',gk = g' + 1:=⟨gk - 1,by omega⟩
   have hltz : (i : Int) < (l0.length : Int):=by omega
   have h0z : (0 : Int) <= (i : Int):=by omega
   obtain ⟨adW,rfl,xw⟩:=Kd.at_bool (HCW.out wr HK.out) (i : Int) h0z (by omega)
   simp only [Int.toNat_natCast] at xw
   have hrdw : rdOf false (worksL l0) (i : Int) = Qbo l0 l0[i]:=by
    unfold rdOf worksL
    rw [Int.toNat_natCast,List.getD_eq_getElem?_getD,List.getElem?_map,List.getElem?_eq_getElem hlt]; rfl
   rw [hrdw] at xw
   cases hwk : Qbo l0 l0[i] with
   | false =>
    rw [hwk] at xw
    have HM2:=Zz.k (show ∃ n1 n2,n1 <= 200 * (i + 1) /\ n2 <= 12 * (i + 1) /\ MapE wr w.heap.size n1 (goneS l0 (l0.take (i + 1))) /\ MapE wr (w.heap.size + 1 + 1) n2 (theS l0 (l0.take (i + 1))) by
     obtain ⟨n1,n2,h1,h2,h3,h4⟩:=HM.out
     rw [List.take_succ_eq_append_getElem hlt,goneS_snoc,theS_snoc,hwk]
     exact ⟨n1,n2,by omega,by omega,h3,h4⟩)
    clear hwk hrdw HM
    go_wp2
    go_roundg g'
    case measure => omega
    case rel => exact ⟨i + 1,by omega,by omega,by go_num,HK,HM2⟩
   | true =>
    rw [hwk] at xw
    have hoi:=HROW.out.oks _ (List.getElem_mem hlt)
    have hSm:=smalls_Sm HSM.out _ (List.getElem_mem hlt)
    obtain ⟨ad,A7,c7,rfl,x0,x1,x2,x3,x4,x5,x6,x7,x8,x9,x10,l7,g7⟩:=Qcg HR0.out (i : Int) h0z hltz
    have LW1:=LW.out
    have hbr : Below w.heap.size w wr:=K2.toBelow HBW.out HK.out (by omega) (Nat.le_refl _) (by omega)
    simp only [Int.toNat_natCast,Qar _ _ hlt] at x0 x1 x2 x3 x4 x5 x6 x7 x8 x9 x10 l7 g7
    generalize hoe : l0[i] = o at x0 x1 x2 x3 x4 x5 x6 x7 x8 x9 x10 l7 g7 hwk hoi hSm
    have HOE:=Zz.k hoe
    have HWK:=Zz.k hwk
    have HOI:=Zz.k hoi
    have HSO:=Zz.k hSm
    have HG7:=Zz.k g7
    have HL7:=Zz.k l7
    have HX:=Zz.k (And.intro x0 (And.intro x1 (And.intro x2 (And.intro x3 (And.intro x4 (And.intro x5 (And.intro x6 (And.intro x7 (And.intro x8 (And.intro x9 x10))))))))))
    have e7:=Qab hbr x7
    have h200:=opOk_gone200 hoi
    clear x0 x1 x2 x3 x4 x5 x6 x7 x8 x9 x10 l7 g7 hwk hoi hSm hoe hrdw hbr
    go_wp2
    go_loopg [29] o.f5.length (fun gg s29 w' => ∃ j : Nat,j <= o.f5.length /\ o.f5.length - j <= gg /\ s29 = .int .i64 j /\ Zz (K2 w.heap.size (w.heap.size + 1 + 1) wW w') /\ Zz (∃ n1 n2,n1 <= 200 * i + j /\ n2 <= 12 * i /\ MapE w' w.heap.size n1 (addS (goneS l0 (l0.take i)) (o.f5.take j)) /\ MapE w' (w.heap.size + 1 + 1) n2 (theS l0 (l0.take i))))
    case atStart =>
     obtain ⟨n1,n2,h1,h2,h3,h4⟩:=HM.out
     exact ⟨0,Nat.zero_le _,by omega,rfl,HK,⟨n1,n2,by omega,by omega,by rw [List.take_zero,addS_nil]; exact h3,h4⟩⟩
    case round =>
     clear HM HK xw e7
     obtain ⟨j,hj,hgk2,rfl,HK,HM⟩:=hrel
     by_cases hjl : j < o.f5.length
     ·obtain ⟨g2,rfl⟩ : ∃ g2,gk = g2 + 1:=⟨gk - 1,by omega⟩
      have hjz : (j : Int) < (o.f5.length : Int):=by omega
      have hj0 : (0 : Int) <= (j : Int):=by omega
      have hbr : Below w.heap.size w wr:=K2.toBelow HBW.out HK.out (by omega) (Nat.le_refl _) (by omega)
      obtain ⟨ad7,rfl,y0,y1,y2⟩:=Qbd (Kd.C_below HG7.out hbr) (j : Int) hj0 hjz
      simp only [Int.toNat_natCast,Qat _ _ hjl] at y0 y1 y2
      have hxi:=gone_in HOI.out _ (List.getElem_mem hjl)
      have hsn:=addS_snoc (goneS l0 (l0.take i)) (o.f5.take j) o.f5[j]
      rw [<- List.take_succ_eq_append_getElem hjl] at hsn
      generalize o.f5[j] = x at y0 y1 y2 hxi hsn
      obtain ⟨n1,n2,h1,h2,h3,h4⟩:=HM.out
      have hal : Below wr.heap.size wr (wr.alloc (.cells #[.int .i64 x.f0, .int .i64 x.f1, .int .i64 x.f2] 32)):=Qag (Below.refl _ _) _
      obtain ⟨kl,hkl⟩:=keyE (x:=(x.f0,x.f1,x.f2)) hxi.1 hxi.2.1 hxi.2.2
      obtain ⟨w6,hrun,hm6,hg6⟩:=(h3.below hal h3.lt).store lawE Tryz.underlying107 Tryz.underlying4 (Nat.lt_of_le_of_lt (m:=10000) (by omega) (by decide)) encE_inj (x.f0,x.f1,x.f2) hkl
      rw [hsn] at hm6
      simp only [encE] at hrun
      have q1:=Qab hal (HK.out.cell HC1.out (by simp) (by simp))
      have HK6:=Zz.k ((HK.out.below hal).grown hg6 (.inl rfl))
      have HM6:=Zz.k (show ∃ n1 n2,n1 <= 200 * i + (j + 1) /\ n2 <= 12 * i /\ MapE w6 w.heap.size n1 (addS (goneS l0 (l0.take i)) (o.f5.take (j + 1))) /\ MapE w6 (w.heap.size + 1 + 1) n2 (theS l0 (l0.take i)) from
       ⟨n1 + 1,n2,by omega,h2,hm6,(h4.below hal h4.lt).kept hg6 (fun e => by injection e with e; omega)⟩)
      clear h1 h2 h3 h4 hm6 hg6 hsn hxi hkl hal hbr HM HK
      go_wp2
      go_roundg g2
      case measure => omega
      case rel => exact ⟨j + 1,by omega,by omega,by go_num,HK6,HM6⟩
     ·obtain rfl : j = o.f5.length:=by omega
      have hjz : ¬ (o.f5.length : Int) < (o.f5.length : Int):=by omega
      have hbr : Below w.heap.size w wr:=K2.toBelow HBW.out HK.out (by omega) (Nat.le_refl _) (by omega)
      obtain ⟨x0,x1,x2,x3,x4,x5,x6,x7,x8,x9,x10⟩:=HX.out
      replace x0:=Qab hbr x0
      replace x1:=Qab hbr x1
      replace x2:=Qab hbr x2
      replace x3:=Qab hbr x3
      replace x4:=Qab hbr x4
      replace x5:=Qab hbr x5
      replace x6:=Qab hbr x6
      replace x7:=Qab hbr x7
      replace x8:=Qab hbr x8
      replace x9:=Qab hbr x9
      replace x10:=Qab hbr x10
      have hsz:=(Qcr HOI.out).1
      obtain ⟨ka,hka⟩:=Ev.rounds (All_ev o HSO.out (by omega))
      have HAL:=Zz.k (op_All.calls ka o.f0 o.f1 o.f2 o.f3.f0 o.f3.f1 o.f3.f2 o.f4 A7 c7 o.f5 o.f6 o.f7 o.f8 (Qan o) wr (Kd.C_below HG7.out hbr) HL7.out hka)
      have HSZ:=Zz.k hsz
      clear hbr hka hsz
      go_wp2_with fail
      refine HAL.out.mono ?_
      rintro e wA ⟨vA,rfl,hRA,hbA⟩
      have hsr:=HK.out.size
      have hRA2:=Kd.R_mono (Kd.R_bound hRA) (ok':=fun k => k ≠ w.heap.size /\ k ≠ w.heap.size + 1 + 1) (fun k hk => by have:=hk.2.1; exact ⟨by omega,by omega⟩)
      have hlA : (Qan o).length = Qaj o:=Qcf o
      obtain ⟨AA,cA,rfl,hcA,_⟩:=Kd.R_reads hRA2
      have HCA:=Zz.k (fun (w' : World) (hk : K2 w.heap.size (w.heap.size + 1 + 1) wA w') => (Kd.R_reads' (Kd.R_step hRA2 (fun k ho hlt => hk.block k hlt ho.1 ho.2))).2.2)
      have HKA:=Zz.k (HK.out.below hbA)
      have HMA:=Zz.k (show ∃ n1 n2,n1 <= 200 * i + o.f5.length /\ n2 <= 12 * i /\ MapE wA w.heap.size n1 (addS (goneS l0 (l0.take i)) o.f5) /\ MapE wA (w.heap.size + 1 + 1) n2 (theS l0 (l0.take i)) by
       obtain ⟨n1,n2,h1,h2,h3,h4⟩:=HM.out
       rw [List.take_length] at h3
       exact ⟨n1,n2,h1,h2,h3.below hbA h3.lt,h4.below hbA h4.lt⟩)
      have HLA:=Zz.k (show (Qan o).length <= 12 by rw [hlA]; exact HSZ.out)
      clear hRA hRA2 hlA hcA hbA HAL HK HM x0 x1 x2 x3 x4 x5 x6 x7 x8 x9 x10 hsr
      go_wp2
      go_loopg [42] (Qan o).length (fun gg s42 w' => ∃ j : Nat,j <= (Qan o).length /\ (Qan o).length - j <= gg /\ s42 = .int .i64 j /\ Zz (K2 w.heap.size (w.heap.size + 1 + 1) wA w') /\ Zz (∃ n1 n2,n1 <= 200 * (i + 1) /\ n2 <= 12 * i + j /\ MapE w' w.heap.size n1 (addS (goneS l0 (l0.take i)) o.f5) /\ MapE w' (w.heap.size + 1 + 1) n2 (addS (theS l0 (l0.take i)) ((Qan o).take j))))
      case atStart =>
       obtain ⟨n1,n2,h1,h2,h3,h4⟩:=HMA.out
       exact ⟨0,Nat.zero_le _,by omega,rfl,⟨K2.refl _ _ _⟩,⟨n1,n2,by omega,by omega,h3,by rw [List.take_zero,addS_nil]; exact h4⟩⟩
      case round =>
       clear HMA
       obtain ⟨j,hj,hgk2,rfl,HK,HM⟩:=hrel
       have hcl:=HLA.out
       by_cases hjl : j < (Qan o).length
       ·obtain ⟨g2,rfl⟩ : ∃ g2,gk = g2 + 1:=⟨gk - 1,by omega⟩
        have hjz : (j : Int) < ((Qan o).length : Int):=by omega
        have hj0 : (0 : Int) <= (j : Int):=by omega
        obtain ⟨ad7,rfl,y0,y1,y2⟩:=Qbd (HCA.out wr HK.out) (j : Int) hj0 hjz
        simp only [Int.toNat_natCast,Qat _ _ hjl] at y0 y1 y2
        have hxi:=chain_in HOI.out _ (List.getElem_mem hjl)
        have hsn:=addS_snoc (theS l0 (l0.take i)) ((Qan o).take j) (Qan o)[j]
        rw [<- List.take_succ_eq_append_getElem hjl] at hsn
        generalize (Qan o)[j] = x at y0 y1 y2 hxi hsn
        obtain ⟨n1,n2,h1,h2,h3,h4⟩:=HM.out
        have hal : Below wr.heap.size wr (wr.alloc (.cells #[.int .i64 x.f0, .int .i64 x.f1, .int .i64 x.f2] 32)):=Qag (Below.refl _ _) _
        obtain ⟨kl,hkl⟩:=keyE (x:=(x.f0,x.f1,x.f2)) hxi.1 hxi.2.1 hxi.2.2
        obtain ⟨w6,hrun,hm6,hg6⟩:=(h4.below hal h4.lt).store lawE Tryz.underlying107 Tryz.underlying4 (Nat.lt_of_le_of_lt (m:=10000) (by omega) (by decide)) encE_inj (x.f0,x.f1,x.f2) hkl
        rw [hsn] at hm6
        simp only [encE] at hrun
        have q1:=Qab hal (HK.out.cell (HKA.out.cell HC2.out (by show w.heap.size + 1 + 1 + 1 ≠ _; omega) (by show w.heap.size + 1 + 1 + 1 ≠ _; omega)) (by show w.heap.size + 1 + 1 + 1 ≠ _; omega) (by show w.heap.size + 1 + 1 + 1 ≠ _; omega))
        have HK6:=Zz.k ((HK.out.below hal).grown hg6 (.inr rfl))
        have HM6:=Zz.k (show ∃ n1 n2,n1 <= 200 * (i + 1) /\ n2 <= 12 * i + (j + 1) /\ MapE w6 w.heap.size n1 (addS (goneS l0 (l0.take i)) o.f5) /\ MapE w6 (w.heap.size + 1 + 1) n2 (addS (theS l0 (l0.take i)) ((Qan o).take (j + 1))) from
         ⟨n1,n2 + 1,h1,by omega,(h3.below hal h3.lt).kept hg6 (fun e => by injection e with e; omega),hm6⟩)
        clear h1 h2 h3 h4 hm6 hg6 hsn hxi hkl hal HM HK
        go_wp2
        go_roundg g2
        case measure => omega
        case rel => exact ⟨j + 1,by omega,by omega,by go_num,HK6,HM6⟩
       ·obtain rfl : j = (Qan o).length:=by omega
        have hjz : ¬ ((Qan o).length : Int) < ((Qan o).length : Int):=by omega
        have HK8:=Zz.k (K2.trans HKA.out HK.out)
        have HM8:=Zz.k (show ∃ n1 n2,n1 <= 200 * (i + 1) /\ n2 <= 12 * (i + 1) /\ MapE wr w.heap.size n1 (goneS l0 (l0.take (i + 1))) /\ MapE wr (w.heap.size + 1 + 1) n2 (theS l0 (l0.take (i + 1))) by
         obtain ⟨n1,n2,h1,h2,h3,h4⟩:=HM.out
         rw [List.take_length] at h4
         rw [List.take_succ_eq_append_getElem hlt,HOE.out,goneS_snoc,theS_snoc,HWK.out]
         exact ⟨n1,n2,h1,by omega,h3,h4⟩)
        clear HK HM
        go_wp2
        go_roundg g'
        case measure => omega
        case rel => exact ⟨i + 1,by omega,by omega,by go_num,HK8,HM8⟩
  ·obtain rfl : i = l0.length:=by omega
   have hltz : ¬ (l0.length : Int) < (l0.length : Int):=by omega
   have LW1:=LW.out
   have hbr : Below w.heap.size w wr:=K2.toBelow HBW.out HK.out (by omega) (Nat.le_refl _) (by omega)
   have HAL:=Zz.k (tree_All.calls A0 c0 l0 (ordL l0) wr (Kd.C_below HR0.out hbr) HC0.out (tree_All_f HSM.out HROW.out))
   have HBR:=Zz.k hbr
   clear hbr
   go_wp2_with fail
   refine HAL.out.mono ?_
   rintro e wA ⟨vA,rfl,hRA,hbA⟩
   obtain ⟨AA,cA,rfl⟩:=Kd.R_slice hRA
   have hsr:=HK.out.size
   have hlen : (ordL l0).length <= 200:=by rw [(Qda HROW.out).2]; exact HROW.out.sums.2
   have hown:=Kd.R_base hRA
   have hD:=DeleteFuncElem 82 #[.pointer (some ⟨w.heap.size + 1,0,none⟩), .pointer (some ⟨w.heap.size + 1 + 1 + 1,0,none⟩)] wr.heap.size cA AA (ordL l0) (fun x => goneS l0 l0 (x.f0,x.f1,x.f2) || !theS l0 l0 (x.f0,x.f1,x.f2)) wA
    (enters_at Tryz.func82 (by kernel_rfl) rfl) (by omega) hRA (fun W x hx hg => by
     obtain ⟨n1,n2,h1,h2,h3,h4⟩:=HM.out
     rw [List.take_length] at h3 h4
     have a3:=(h3.below hbA h3.lt).kept hg (fun e => by have:=hown _ e.symm; omega)
     have a4:=(h4.below hbA h4.lt).kept hg (fun e => by have:=hown _ e.symm; omega)
     have k1:=Qab hbA (HK.out.cell HC1.out (by show w.heap.size + 1 ≠ _; omega) (by show w.heap.size + 1 ≠ _; omega))
     have k2:=Qab hbA (HK.out.cell HC2.out (by show w.heap.size + 1 + 1 + 1 ≠ _; omega) (by show w.heap.size + 1 + 1 + 1 ≠ _; omega))
     have k1':=Qaz hg (fun e => by have:=hown _ e.symm; simp only at this; omega) k1
     have k2':=Qaz hg (fun e => by have:=hown _ e.symm; simp only at this; omega) k2
     exact seen1_calls _ _ _ _ n1 n2 x _ _ W k1' k2' a3 a4 (ord_in HROW.out x hx))
   have HD:=Zz.k hD
   have HBA:=Zz.k (Qas HBR.out hbA)
   have HOWN:=Zz.k hown
   have HSZ:=Zz.k hbA.size
   clear hD hRA hbA hown
   go_wp2_with fail
   refine HD.out.mono ?_
   rintro e w2 ⟨v,rfl,hRv,hgv⟩
   have HRV:=Zz.k hRv
   have HGV:=Zz.k hgv
   clear hRv hgv
   go_wp2
   go_ret
   have hz:=HBR.out.size
   have hzA:=HSZ.out
   refine ⟨_,rfl,Kd.R_lower HRV.out hz,pw_below_grown HBA.out _ HBA.out.size HGV.out (fun k hk => by have:=HOWN.out k hk; omega)⟩
end
section
def t_op_Compare.T1 : Bool × List (List Nat × List Nat):=(true,[([],[]),([0],[0]),([],[]),([2],[2]),([1,3],[1,3]),([],[]),([5],[5]),([],[]),([7],[7]),([6,8,4],[6,8]),([],[]),([10],[10]),([],[]),([12],[12]),([11,13,9],[11,13]),([4,9,14],[4,9,14]),([15,14],[15]),([16,16,0,1,2,3,4,5,6,7,8,9,10,11,12,13,14,15,16],[16])])
def t_op_Compare.B1 : List Nat:=[0,1,0,4,15,0,32,0,128,511,0,1024,0,4096,16383,32767,65535,131071]
theorem t_op_Compare.tab1 : rtab .any (Qdb Tryz.f52 1) = t_op_Compare.T1:=by kernel_rfl
theorem t_op_Compare.bits1 : Qay t_op_Compare.T1.2 t_op_Compare.B1 = true:=by kernel_rfl
end
end Go.Proofs.YtlllghajjamdpaaGreatDoor.L
end

section
namespace Go.Proofs
open Go.Shelf
set_option linter.unusedVariables false
set_option linter.unusedSimpArgs false
set_option maxHeartbeats 40000000
set_option maxRecDepth 1000000
section
def Tryz.sortEl_ren : Go.Shelf.Ren:=⟨fun | 6 => 51 | 15 => 84 | 14 => 83 | 28 => 121 | 29 => 122 | 20 => 113 | 21 => 114 | 22 => 115 | 23 => 116 | 24 => 117 | 25 => 118 | 26 => 119 | 27 => 120 | 46 => 133 | 47 => 134 | 48 => 135 | 49 => 136 | 50 => 137 | 57 => 145 | n => n,fun | 22 => 23 | 24 => 32 | 25 => 82 | 3 => 3 | 39 => 90 | 0 => 0 | 53 => 140 | 55 => 142 | 4 => 4 | 46 => 134 | 45 => 133 | 50 => 120 | 5 => 5 | 9 => 9 | 66 => 153 | 70 => 157 | 76 => 165 | 77 => 166 | n => n,fun | n => n⟩
theorem Tryz.sortEl : Go.Proofs.SlLaysF0.n6 Tryz.prog Tryz.sortEl_ren:={
 mixed:=by kernel_rfl
 f6:=⟨Tryz.f51.name,by decide,Tryz.func51.trans (congrArg some (by kernel_rfl))⟩
 f14:=⟨Tryz.f83.name,by decide,Tryz.func83.trans (congrArg some (by kernel_rfl))⟩
 f15:=Tryz.func84.trans (congrArg some (by kernel_rfl))
 f20:=⟨Tryz.f113.name,by decide,Tryz.func113.trans (congrArg some (by kernel_rfl))⟩
 f21:=⟨Tryz.f114.name,by decide,Tryz.func114.trans (congrArg some (by kernel_rfl))⟩
 f22:=⟨Tryz.f115.name,by decide,Tryz.func115.trans (congrArg some (by kernel_rfl))⟩
 f23:=⟨Tryz.f116.name,by decide,Tryz.func116.trans (congrArg some (by kernel_rfl))⟩
 f24:=⟨Tryz.f117.name,by decide,Tryz.func117.trans (congrArg some (by kernel_rfl))⟩
 f25:=⟨Tryz.f118.name,by decide,Tryz.func118.trans (congrArg some (by kernel_rfl))⟩
 f26:=⟨Tryz.f119.name,by decide,Tryz.func119.trans (congrArg some (by kernel_rfl))⟩
 f27:=⟨Tryz.f120.name,by decide,Tryz.func120.trans (congrArg some (by kernel_rfl))⟩
 f28:=Tryz.func121.trans (congrArg some (by kernel_rfl))
 f29:=Tryz.func122.trans (congrArg some (by kernel_rfl))
 f46:=⟨Tryz.f133.name,by decide,Tryz.func133.trans (congrArg some (by kernel_rfl))⟩
 f47:=Tryz.func134.trans (congrArg some (by kernel_rfl))
 f48:=Tryz.func135.trans (congrArg some (by kernel_rfl))
 f49:=⟨Tryz.f136.name,by decide,Tryz.func136.trans (congrArg some (by kernel_rfl))⟩
 f50:=⟨Tryz.f137.name,by decide,Tryz.func137.trans (congrArg some (by kernel_rfl))⟩
 f57:=⟨Tryz.f145.name,by decide,Tryz.func145.trans (congrArg some (by kernel_rfl))⟩
 t0:=Tryz.underlying0
 a0:=Tryz.isAgg0
 z0:=Tryz.sizeOf0
 v0:=Tryz.zeroValue0
 t3:=Tryz.underlying3
 a3:=Tryz.isAgg3
 z3:=Tryz.sizeOf3
 v3:=Tryz.zeroValue3
 t4:=Tryz.underlying4
 a4:=Tryz.isAgg4
 z4:=Tryz.sizeOf4
 v4:=Tryz.zeroValue4
 t5:=Tryz.underlying5
 a5:=Tryz.isAgg5
 z5:=Tryz.sizeOf5
 v5:=Tryz.zeroValue5
 t9:=Tryz.underlying9
 a9:=Tryz.isAgg9
 z9:=Tryz.sizeOf9
 v9:=Tryz.zeroValue9
 t22:=Tryz.underlying23
 a22:=Tryz.isAgg23
 z22:=Tryz.sizeOf23
 v22:=Tryz.zeroValue23
 t25:=Tryz.underlying82
 a25:=Tryz.isAgg82
 z25:=Tryz.sizeOf82
 v25:=Tryz.zeroValue82
 t39:=Tryz.underlying90
 a39:=Tryz.isAgg90
 z39:=Tryz.sizeOf90
 v39:=Tryz.zeroValue90
 t45:=Tryz.underlying133
 a45:=Tryz.isAgg133
 z45:=Tryz.sizeOf133
 v45:=Tryz.zeroValue133
 t46:=Tryz.underlying134
 a46:=Tryz.isAgg134
 z46:=Tryz.sizeOf134
 v46:=Tryz.zeroValue134
 t50:=Tryz.underlying120
 a50:=Tryz.isAgg120
 z50:=Tryz.sizeOf120
 v50:=Tryz.zeroValue120
 t53:=Tryz.underlying140
 a53:=Tryz.isAgg140
 z53:=Tryz.sizeOf140
 v53:=Tryz.zeroValue140
 t55:=Tryz.underlying142
 a55:=Tryz.isAgg142
 z55:=Tryz.sizeOf142
 v55:=Tryz.zeroValue142
 t66:=Tryz.underlying153
 a66:=Tryz.isAgg153
 z66:=Tryz.sizeOf153
 v66:=Tryz.zeroValue153
 t70:=Tryz.underlying157
 a70:=Tryz.isAgg157
 z70:=Tryz.sizeOf157
 v70:=Tryz.zeroValue157
 t76:=Tryz.underlying165
 a76:=Tryz.isAgg165
 z76:=Tryz.sizeOf165
 v76:=Tryz.zeroValue165
 t77:=Tryz.underlying166
 a77:=Tryz.isAgg166
 z77:=Tryz.sizeOf166
 v77:=Tryz.zeroValue166 }
end
end Go.Proofs
end

section
namespace Go.Proofs.YtlllghajjamdpaaGreatDoor.L
open Go.RowKit Go.Sort Go.Proofs.YtlllghajjamdpaaGreatDoorW.PrintWords Go.Proofs.YtlllghajjamdpaaGreatDoorW.PrintLast Go.Proofs.YtlllghajjamdpaaGreatDoorW.PrintMore
set_option linter.unusedVariables false
set_option linter.unusedSimpArgs false
set_option maxHeartbeats 40000000
set_option maxRecDepth 1000000
section
def GD (w w' : World) : Prop:=∃ q os,w' = grow (w.drewN q) os
theorem GD.refl (w : World) : GD w w:=⟨0,#[],by rw [grow_empty]; rfl⟩
theorem GD.drawn {w w1 : World} (h : GD w w1) (n : Nat) : GD w (w1.drewN n):=by
 obtain ⟨q,os,rfl⟩:=h
 exact ⟨q + n,os,by rw [<- World.drewN_drewN]; rfl⟩
theorem GD.drew {w w1 : World} (h : GD w w1) : GD w w1.drew:=by
 obtain ⟨q,os,rfl⟩:=h
 exact ⟨q + 1,os,by rw [<- World.drewN_drewN]; rfl⟩
theorem GD.alloc {w w1 : World} (h : GD w w1) (o : Obj) : GD w (w1.alloc o):=by
 obtain ⟨q,os,rfl⟩:=h
 exact ⟨q,os ++ #[o],by rw [alloc_eq_grow,grow_grow]⟩
theorem tp_cell (w : World) (cs : Array Value) (t : TypeId) (g j : Nat) (hg : w.heap.size = g) : (w.alloc (.cells cs t)).cell? ⟨g,j,none⟩ = cs[j]?:=by subst hg; simp
abbrev S6 (W : World) (g : Nat) (x y : SElem) : Prop:=W.cell? ⟨g,0,none⟩ = some (.int .i64 x.f0) /\ W.cell? ⟨g,1,none⟩ = some (.int .i64 x.f1) /\ W.cell? ⟨g,2,none⟩ = some (.int .i64 x.f2) /\ W.cell? ⟨g + 1,0,none⟩ = some (.int .i64 y.f0) /\ W.cell? ⟨g + 1,1,none⟩ = some (.int .i64 y.f1) /\ W.cell? ⟨g + 1,2,none⟩ = some (.int .i64 y.f2)
theorem S6.below {W W' : World} {g : Nat} {x y : SElem} (h : S6 W g x y) (hb : Below W.heap.size W W') : S6 W' g x y :=
 ⟨Qab hb h.1,Qab hb h.2.1,Qab hb h.2.2.1,Qab hb h.2.2.2.1,Qab hb h.2.2.2.2.1,Qab hb h.2.2.2.2.2⟩
theorem S6.boxed (w : World) (x y : SElem) (t : TypeId) : S6 ((w.alloc (.cells #[.int .i64 x.f0, .int .i64 x.f1, .int .i64 x.f2] t)).alloc (.cells #[.int .i64 y.f0, .int .i64 y.f1, .int .i64 y.f2] t)) w.heap.size x y:=by
 have hz : (w.alloc (.cells #[.int .i64 x.f0, .int .i64 x.f1, .int .i64 x.f2] t)).heap.size = w.heap.size + 1:=by simp
 have hb:=Qag (Below.refl _ (w.alloc (.cells #[.int .i64 x.f0, .int .i64 x.f1, .int .i64 x.f2] t))) (.cells #[.int .i64 y.f0, .int .i64 y.f1, .int .i64 y.f2] t)
 refine ⟨Qab hb (by simp),Qab hb (by simp),Qab hb (by simp), ?_, ?_, ?_⟩
 ·rw [<- hz]; exact (tp_cell _ _ _ _ 0 rfl).trans rfl
 ·rw [<- hz]; exact (tp_cell _ _ _ _ 1 rfl).trans rfl
 ·rw [<- hz]; exact (tp_cell _ _ _ _ 2 rfl).trans rfl
theorem three_C (w : World) (a b c : Int) (t : TypeId) : Kd.C (Kd.int .i64) (w.alloc (.cells #[.int .i64 a, .int .i64 b, .int .i64 c] t)) (some ⟨w.heap.size,0,none⟩) 3 [a,b,c]:=by
 refine ⟨rfl,by omega,fun _ => ⟨_,rfl,fun j p hp => ?_⟩⟩
 have hc : ∀ i,(w.alloc (.cells #[.int .i64 a, .int .i64 b, .int .i64 c] t)).cell? ⟨w.heap.size,i,none⟩ = (#[Value.int .i64 a, .int .i64 b, .int .i64 c] : Array Value)[i]?:=fun i => tp_cell _ _ _ _ i rfl
 refine ⟨[.int .i64 p],rfl,rfl,fun i u hu => ?_⟩
 have hi : i = 0:=by
  rcases i with _ | i
  ·rfl
  ·simp at hu
 subst hi
 have ea : (⟨w.heap.size,0,none⟩ : Addr).add (j * (Kd.int .i64).sz + 0) = ⟨w.heap.size,j,none⟩:=by rw [Addr.add_lit,Nat.zero_add,Nat.add_zero]; show (⟨w.heap.size,j * 1,none⟩ : Addr) = _; rw [Nat.mul_one]
 rw [ea,hc]
 rcases j with _ | _ | _ | j
 ·simp at hp hu; rw [<- hu,<- hp]; rfl
 ·simp at hp hu; rw [<- hu,<- hp]; rfl
 ·simp at hp hu; rw [<- hu,<- hp]; rfl
 ·simp at hp
theorem compare_calls (x y : SElem) (W : World) : Calls Tryz.prog 52 #[elV x,elV y] W fun e w' => e = .returned (.int .i64 (cmpE x y)) /\ GD W w':=by
 have HC0:=Zz.k (fun w => cmp_Compare_int.calls x.f0 y.f0 (cmpI x.f0 y.f0) w (Qde _ _))
 have HC1:=Zz.k (fun w => cmp_Compare_int.calls x.f1 y.f1 (cmpI x.f1 y.f1) w (Qde _ _))
 have HC2:=Zz.k (fun w => cmp_Compare_int.calls x.f2 y.f2 (cmpI x.f2 y.f2) w (Qde _ _))
 have HOR:=Zz.k (fun w => cmp_Or_int.calls 5 (some ⟨w.heap.size,0,none⟩) 3 [cmpI x.f0 y.f0,cmpI x.f1 y.f1,cmpI x.f2 y.f2] (cmpE x y) (w.alloc (.cells #[.int .i64 (cmpI x.f0 y.f0), .int .i64 (cmpI x.f1 y.f1), .int .i64 (cmpI x.f2 y.f2)] 3)) (three_C w _ _ _ _) (Nat.le_refl _) (cmp_Or_three _ _ _))
 have HG:=Zz.k (((GD.refl W).alloc (.cells #[.int .i64 x.f0, .int .i64 x.f1, .int .i64 x.f2] 32)).alloc (.cells #[.int .i64 y.f0, .int .i64 y.f1, .int .i64 y.f2] 32))
 have HS:=Zz.k (S6.boxed W x y 32)
 generalize hr : cmpE x y = r at HOR
 generalize cmpI x.f0 y.f0 = r0 at HC0 HOR
 generalize cmpI x.f1 y.f1 = r1 at HC1 HOR
 generalize cmpI x.f2 y.f2 = r2 at HC2 HOR
 unfold elV
 go_enter Tryz.func52,Tryz.ntmps52
 go_upto_region 1 with (fail)
 refine stR (S:=fun w' => S6 w' W.heap.size x y) 18 t_op_Compare.bits1 t_op_Compare.tab1 (hS:=HS.out) (h:=fun hS HT HW => ?_)
 have HG2:=Zz.k HG.out.drew
 generalize ((W.alloc (.cells #[.int .i64 x.f0, .int .i64 x.f1, .int .i64 x.f2] 32)).alloc (.cells #[.int .i64 y.f0, .int .i64 y.f1, .int .i64 y.f2] 32)).drew = w1 at HG2 hS ⊢
 clear HG HS
 refine pu HT 0 5 1 (h := ?_)
 refine pu HT 2 7 5 (h := ?_)
 refine pu HT 5 10 37 (h := ?_)
 refine pu HT 7 12 165 (h := ?_)
 refine pu HT 10 15 1189 (h := ?_)
 refine pu HT 12 17 5285 (h := ?_)
 refine tk HT HW hS 1 6 5287 (h := ?_)
 refine tk HT HW hS 3 8 5295 (h := ?_)
 refine tk HT HW hS 6 11 5359 (h := ?_)
 refine tk HT HW hS 8 13 5615 (h := ?_)
 refine tk HT HW hS 11 16 7663 (h := ?_)
 refine tk HT HW hS 13 18 15855 (h := ?_)
 refine ca HT 4 (some 9) 15871 #[.int .i64 x.f0, .int .i64 y.f0] Tryz.func86 (h:=fun K hK => ?_)
 refine (HC0.out w1).mono ?_
 rintro e w2 ⟨rfl,⟨n0,rfl⟩⟩
 refine ⟨_,rfl, ?_⟩
 refine hK.out _ _ hS (fun _ => ?_)
 clear hK
 refine nm (h := ?_)
 refine ca HT 9 (some 14) 16383 #[.int .i64 x.f1, .int .i64 y.f1] Tryz.func86 (h:=fun K hK => ?_)
 refine (HC1.out _).mono ?_
 rintro e w2 ⟨rfl,⟨n1,rfl⟩⟩
 refine ⟨_,rfl, ?_⟩
 refine hK.out _ _ hS (fun _ => ?_)
 clear hK
 refine nm (h := ?_)
 refine ca HT 14 (some 19) 32767 #[.int .i64 x.f2, .int .i64 y.f2] Tryz.func86 (h:=fun K hK => ?_)
 refine (HC2.out _).mono ?_
 rintro e w2 ⟨rfl,⟨n2,rfl⟩⟩
 refine ⟨_,rfl, ?_⟩
 have HG3:=Zz.k (((HG2.out.drawn n0).drawn n1).drawn n2)
 refine hK.out _ _ hS (fun hS' => ?_)
 clear hK
 refine nm (h := ?_)
 generalize (((w1.drewN n0).drewN n1).drewN n2) = w3 at HG3 hS' ⊢
 refine exS HT 15 (some 20) 65535 (.slice (some ⟨w3.heap.size,0,none⟩) 3 3) (w3.alloc (.cells #[.int .i64 r0, .int .i64 r1, .int .i64 r2] 3)) (hrun := ?_) (hS:=S6.below hS' (Qag (Below.refl _ _) _)) (h:=fun hS2 => ?_)
 ·clear HT HW hS hS'
  go_simp
 refine nm (h := ?_)
 refine ca HT 16 (some 21) 131071 #[.slice (some ⟨w3.heap.size,0,none⟩) 3 3] Tryz.func85 (h:=fun K hK => ?_)
 refine (HOR.out w3).mono ?_
 rintro e w2 ⟨rfl,⟨n3,rfl⟩⟩
 refine ⟨_,rfl, ?_⟩
 have HG4:=Zz.k ((HG3.out.alloc (.cells #[.int .i64 r0, .int .i64 r1, .int .i64 r2] 3)).drawn n3)
 refine hK.out _ _ hS2 (fun _ => ?_)
 clear hK
 refine nm (h := ?_)
 refine pu HT 17 4 262143 (h := ?_)
 refine dn HT (h := ?_)
 clear HT HW hS hS' hS2
 go_wp2
 go_ret
 exact ⟨re,HG4.out⟩
end
end Go.Proofs.YtlllghajjamdpaaGreatDoor.L
end
