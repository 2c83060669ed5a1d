/- Part 7 of the proof that for every argument the law DocTells answers true: which elements of any row are visible, its text, how many toggles of any edit count, whether it is effective, any element's rune, and whether any op would be idle, are the page's, or the error is. -/
import Derived.Test.YtonoaflfobajcaaGreatDoorZDO6
import Derived.Lib.SliceRun
section
namespace Go.Proofs.YtonoaflfobajcaaGreatDoor.L
open Go.RowKit Go.Proofs.YtonoaflfobajcaaGreatDoorW.PrintWords Go.Proofs.YtonoaflfobajcaaGreatDoorW.PrintLast Go.Proofs.YtonoaflfobajcaaGreatDoorW.PrintMore
set_option linter.unusedVariables false
set_option linter.unusedSimpArgs false
set_option maxHeartbeats 40000000
set_option maxRecDepth 1000000
section
attribute [local go_sem] Qbl Qbj Qbp Qbo Qba Qaz Qbk Qbi
def r4_Fits.l0 : Nat -> List (SOp) -> Int -> Int -> Option (Bool)
 | 0,_,_,_ => none
 | k + 1,x0,x3,x4 => if x4 < (x0.length : Int) then (if x4 <= 40 then (if 0 <= x4 then ((r4_Runes.f k ((Qad x0 x4).f0) ((Qad x0 x4).f1) ((Qad x0 x4).f2) ((Qad x0 x4).f3.f0) ((Qad x0 x4).f3.f1) ((Qad x0 x4).f3.f2) ((Qad x0 x4).f4) ((Qad x0 x4).f5) ((Qad x0 x4).f6) ((Qad x0 x4).f7) ((Qad x0 x4).f8)).bind fun t249 => (r4_Fits.l0 k x0 (wrap64 (x3 + t249)) (wrap64 (x4 + 1)))) else (none)) else (if (x0.length : Int) <= 40 then (some (decide (x3 <= 200))) else (some false))) else (if (x0.length : Int) <= 40 then (some (decide (x3 <= 200))) else (some false))
def r4_Fits.f (k : Nat) (l0 : List (SOp)) : Option (Bool):=r4_Fits.l0 k l0 0 0
theorem r4_Fits.calls (k : Nat) (A0 : Option Addr) (c0 : Nat) (l0 : List (SOp)) (r : Bool) (w : World) (hr0 : Kd.C kOp w A0 l0.length l0) (hc0 : l0.length <= c0) (hT : GT w) (h : r4_Fits.f k l0 = some r) :
  Calls Tryz.prog 41 #[.slice A0 l0.length c0] w fun e w' => e = .returned (.bool r) /\ Below w.heap.size w w':=by
 have hu64:=Tryz.underlying64
 have HR0:=Zz.k hr0
 have HC0:=Zz.k hc0
 clear hr0 hc0
 have HB:=Zz.k (Below.refl w.heap.size w)
 unfold r4_Fits.f at h; have H:=h
 clear h
 have H':=Zz.k H
 clear H
 go_enter Tryz.func41,Tryz.ntmps41
 go_wp2
 go_loopg [3,4] k (fun kq v3 v4 w' => ∃ (x3_1 : Int) (x4_1 : Int),v3 = .int .i64 x3_1 /\ v4 = .int .i64 x4_1 /\ Zz (r4_Fits.l0 kq l0 x3_1 x4_1 = some r) /\ Zz (kq <= k) /\ Zz (Below w.heap.size w w'))
 case atStart => exact ⟨(0),(0),rf,rf,H',⟨Nat.le_refl _⟩,⟨bw HB⟩⟩
 case round =>
  clear H'
  obtain ⟨x3_1,x4_1,rfl,rfl,HA,HK1,HB⟩:=hrel
  cases gk with
  | zero => exact absurd HA.out (by simp [r4_Fits.l0])
  | succ k1 =>
   have H:=HA.out
   clear HA
   simp only [r4_Fits.l0] at H
   by_cases c2 : x4_1 < (l0.length : Int); rotate_left
   ·rw [if_neg c2] at H
    have c2b0:=Ze c2
    clear c2
    by_cases c8 : (l0.length : Int) <= 40
    ·rw [if_pos c8] at H
     have c8b0:=Zd c8
     have c8b1 : decide (l0.length <= 40) = true:=Zd (by omega)
     clear c8
     obtain rfl:=Zo H
     go_wp2
     go_ret
     exact ⟨re,bw HB⟩
    rw [if_neg c8] at H
    have c8b0:=Ze c8
    have c8b1 : decide (l0.length <= 40) = false:=Ze (by omega)
    clear c8
    obtain rfl:=Zo H
    go_wp2
    go_ret
    exact ⟨re,bw HB⟩
   rw [if_pos c2] at H
   have c2b0:=Zd c2
   clear c2
   by_cases c3 : x4_1 <= 40; rotate_left
   ·rw [if_neg c3] at H
    have c3b0:=Ze c3
    clear c3
    by_cases c7 : (l0.length : Int) <= 40
    ·rw [if_pos c7] at H
     have c7b0:=Zd c7
     have c7b1 : decide (l0.length <= 40) = true:=Zd (by omega)
     clear c7
     obtain rfl:=Zo H
     go_wp2
     go_ret
     exact ⟨re,bw HB⟩
    rw [if_neg c7] at H
    have c7b0:=Ze c7
    have c7b1 : decide (l0.length <= 40) = false:=Ze (by omega)
    clear c7
    obtain rfl:=Zo H
    go_wp2
    go_ret
    exact ⟨re,bw HB⟩
   rw [if_pos c3] at H
   have c3b0:=Zd c3
   clear c3
   by_cases c4 : 0 <= x4_1; rotate_left
   ·rw [if_neg c4] at H
    exact absurd H (by simp)
   rw [if_pos c4] at H
   have c4b0:=Zd c4
   clear c4
   obtain ⟨t249,A5,H⟩:=bE H
   have H':=Zz.k H
   clear H
   have p248 : 0 <= (x4_1 : Int):=od
   have q248 : x4_1 < (l0.length : Int):=od
   obtain ⟨ad248,A248_7,c248_7,e248,hx248_0,hx248_1,hx248_2,hx248_3,hx248_4,hx248_5,hx248_6,hx248_7,hx248_8,hx248_9,hx248_10,hl248_7,hi248_7⟩:=Qby HR0.out x4_1 p248 q248
   cases e248
   replace hx248_0:=cl HB hx248_0
   replace hx248_1:=cl HB hx248_1
   replace hx248_2:=cl HB hx248_2
   replace hx248_3:=cl HB hx248_3
   replace hx248_4:=cl HB hx248_4
   replace hx248_5:=cl HB hx248_5
   replace hx248_6:=cl HB hx248_6
   replace hx248_7:=cl HB hx248_7
   replace hx248_8:=cl HB hx248_8
   replace hx248_9:=cl HB hx248_9
   replace hx248_10:=cl HB hx248_10
   have HR248_7:=Zz.k hi248_7
   have HC248_7:=Zz.k hl248_7
   clear hi248_7 hl248_7
   replace p248:=eq_true p248
   replace q248:=eq_true q248
   go_wp2_with (first | ((with_reducible refine Qac (f:=65) rfl ?_); refine gl (some 20) Tryz.func65 #[.agg #[.int .i64 ((Qad l0 x4_1).f0), .int .i64 ((Qad l0 x4_1).f1), .int .i64 ((Qad l0 x4_1).f2), .int .i64 ((Qad l0 x4_1).f3.f0), .int .i64 ((Qad l0 x4_1).f3.f1), .int .i64 ((Qad l0 x4_1).f3.f2), .string ((Qad l0 x4_1).f4), .slice A248_7 ((Qad l0 x4_1).f5).length c248_7, .int .i64 ((Qad l0 x4_1).f6), .int .i64 ((Qad l0 x4_1).f7), .int .i64 ((Qad l0 x4_1).f8)]] (h := ?_); (with_reducible refine (r4_Runes.calls k1 ((Qad l0 x4_1).f0) ((Qad l0 x4_1).f1) ((Qad l0 x4_1).f2) ((Qad l0 x4_1).f3.f0) ((Qad l0 x4_1).f3.f1) ((Qad l0 x4_1).f3.f2) ((Qad l0 x4_1).f4) _ _ ((Qad l0 x4_1).f5) ((Qad l0 x4_1).f6) ((Qad l0 x4_1).f7) ((Qad l0 x4_1).f8) t249 _ ?side1 ?side2 ?side3 A5.out).mono ?_); (case side1 => exact cb HR248_7 HB); (case side2 => exact HC248_7.out); (case side3 => exact (hT.below (bw HB))); rintro e w6 ⟨rfl,hb⟩; refine ⟨_,rfl, ?_⟩; replace HB:=bs HB hb; clear hb))
   go_roundg k1
   case measure => have:=HK1.out; omega
   case rel => exact ⟨(wrap64 (x3_1 + t249)),(wrap64 (x4_1 + 1)),rf,rf,H',⟨by have:=HK1.out; omega⟩,⟨bw HB⟩⟩
def r4_Row.l0 : Nat -> List (SOp) -> Int -> Option (Bool)
 | 0,_,_ => none
 | k + 1,x0,x3 => if x3 < (x0.length : Int) then (if 0 <= x3 then (if x3 <= (x0.length : Int) then ((r4_Goes.f k (x0.take (x3 : Int).toNat) ((Qad x0 x3).f0) ((Qad x0 x3).f1) ((Qad x0 x3).f2) ((Qad x0 x3).f3.f0) ((Qad x0 x3).f3.f1) ((Qad x0 x3).f3.f2) ((Qad x0 x3).f4) ((Qad x0 x3).f5) ((Qad x0 x3).f6) ((Qad x0 x3).f7) ((Qad x0 x3).f8)).bind fun t255 => (if t255 = true then (r4_Row.l0 k x0 (wrap64 (x3 + 1))) else (some false))) else (none)) else (none)) else ((r4_Fits.f k x0).bind fun t256 => (some t256))
def r4_Row.f (k : Nat) (l0 : List (SOp)) : Option (Bool):=if (l0.length : Int) > 40 then (some false) else (r4_Row.l0 k l0 0)
def r4_Row.T6 : Bool × List (List Nat × List Nat):=(true,[([],[]),([],[]),([0,1],[0,1]),([],[]),([],[]),([3,4],[3,4]),([5],[5]),([2,6],[2,6]),([7],[7])])
def r4_Row.B6 : List Nat:=[0,0,3,0,0,24,56,127,255]
theorem r4_Row.tab6 : rtab .any (Qcj Tryz.f7 6) = r4_Row.T6:=by kernel_rfl
theorem r4_Row.bits6 : Qau r4_Row.T6.2 r4_Row.B6 = true:=by kernel_rfl
theorem r4_Row.calls (k : Nat) (A0 : Option Addr) (c0 : Nat) (l0 : List (SOp)) (r : Bool) (w : World) (hr0 : Kd.C kOp w A0 l0.length l0) (hc0 : l0.length <= c0) (hT : GT w) (h : r4_Row.f k l0 = some r) :
  Calls Tryz.prog 7 #[.slice A0 l0.length c0] w fun e w' => e = .returned (.bool r) /\ Below w.heap.size w w':=by
 have hu64:=Tryz.underlying64
 have HR0:=Zz.k hr0
 have HC0:=Zz.k hc0
 clear hr0 hc0
 have HB:=Zz.k (Below.refl w.heap.size w)
 unfold r4_Row.f at h; have H:=h
 clear h
 by_cases c2 : (l0.length : Int) > 40
 ·rw [if_pos c2] at H
  have c2b0:=Zd c2
  have c2b1 : decide (40 < l0.length) = true:=Zd (by omega)
  clear c2
  obtain rfl:=Zo H
  go_enter Tryz.func7,Tryz.ntmps7
  go_wp2
  go_ret
  exact ⟨re,bw HB⟩
 rw [if_neg c2] at H
 have c2b0:=Ze c2
 have c2b1 : decide (40 < l0.length) = false:=Ze (by omega)
 clear c2
 have H':=Zz.k H
 clear H
 go_enter Tryz.func7,Tryz.ntmps7
 go_wp2
 go_loopg [3] k (fun kq v3 w' => ∃ (x3_1 : Int),v3 = .int .i64 x3_1 /\ Zz (r4_Row.l0 kq l0 x3_1 = some r) /\ Zz (kq <= k) /\ Zz (Below w.heap.size w w'))
 case atStart => exact ⟨(0),rf,H',⟨Nat.le_refl _⟩,⟨bw HB⟩⟩
 case round =>
  clear H'
  try clear c2b0; try clear c2b1
  obtain ⟨x3_1,rfl,HA,HK1,HB⟩:=hrel
  cases gk with
  | zero => exact absurd HA.out (by simp [r4_Row.l0])
  | succ k1 =>
   have H:=HA.out
   clear HA
   simp only [r4_Row.l0] at H
   by_cases c3 : x3_1 < (l0.length : Int); rotate_left
   ·rw [if_neg c3] at H
    have c3b0:=Ze c3
    clear c3
    obtain ⟨t256,A14,H⟩:=bE H
    obtain rfl:=Zo H
    go_wp2_with (first | ((with_reducible refine Qac (f:=41) rfl ?_); refine gl (some 23) Tryz.func41 #[.slice A0 l0.length c0] (h := ?_); (with_reducible refine (r4_Fits.calls k1 _ _ l0 t256 _ ?side1 ?side2 ?side3 A14.out).mono ?_); (case side1 => exact cb HR0 HB); (case side2 => exact HC0.out); (case side3 => exact (hT.below (bw HB))); rintro e w15 ⟨rfl,hb⟩; refine ⟨_,rfl, ?_⟩; replace HB:=bs HB hb; clear hb))
    go_ret
    exact ⟨re,bw HB⟩
   rw [if_pos c3] at H
   have c3b0:=Zd c3
   clear c3
   by_cases c4 : 0 <= x3_1; rotate_left
   ·rw [if_neg c4] at H
    exact absurd H (by simp)
   rw [if_pos c4] at H
   have c4b0:=eq_true c4
   have c4b1:=Zd c4
   clear c4
   by_cases c5 : x3_1 <= (l0.length : Int); rotate_left
   ·rw [if_neg c5] at H
    exact absurd H (by simp)
   rw [if_pos c5] at H
   have c5b0:=eq_true c5
   have c5b1:=Zd c5
   clear c5
   obtain ⟨y250,hy250⟩ : ∃ y_ : List (SOp),y_ = (l0.take (x3_1 : Int).toNat):=⟨_,rfl⟩
   first | rw [Option.bind_some,<- hy250] at H | rw [<- hy250] at H
   have Ny250:=Zz.k hy250
   clear hy250
   obtain ⟨t255,A6,H⟩:=bE H
   by_cases c7 : t255 = true
   ·subst c7
    rw [if_pos rfl] at H
    have H':=Zz.k H
    clear H
    try go_wp2
    have n0_:=Zz.k (Qae HB.out)
    clear HB
    have HB:=n0_
    clear n0_
    have q9 : (x3_1 : Int) <= ((l0.length : Int) : Int):=od
    obtain ⟨i09,hi09,_,hsz9,_⟩:=info_parts info64
    have hroom9 : l0.length <= c0:=HC0.out
    have hC9 : Kd.C kOp _ A0 l0.length l0:=HR0.out
    have hcut9:=cut_to (P:=Tryz.prog) 24 64 .i64 Tryz.underlying24 hi09 A0 l0.length c0 x3_1 (od) q9 hroom9
    have hr9:=Kd.C_take (m:=(x3_1 : Int).toNat) hC9 (by omega)
    have hy9 : y250.length = (x3_1 : Int).toNat:=(by rw [Ny250.out,List.length_take]; omega)
    rw [<- Ny250.out] at hr9
    rw [<- hy9] at hcut9
    have HR253:=Zz.k hr9
    have HC253:=Zz.k (show y250.length <= c0 from by omega)
    clear hr9 hC9 hroom9 hi09 hsz9
    have KY9:=Zz.k hy9
    clear hy9
    replace q9:=eq_true q9
    have p254 : 0 <= (x3_1 : Int):=od
    have q254 : x3_1 < (l0.length : Int):=od
    obtain ⟨ad254,A254_7,c254_7,e254,hx254_0,hx254_1,hx254_2,hx254_3,hx254_4,hx254_5,hx254_6,hx254_7,hx254_8,hx254_9,hx254_10,hl254_7,hi254_7⟩:=Qby HR0.out x3_1 p254 q254
    have hw254_10:=hx254_10
    have hw254_9:=hx254_9
    have hw254_8:=hx254_8
    have hw254_7:=hx254_7
    have hw254_6:=hx254_6
    have hw254_5:=hx254_5
    have hw254_4:=hx254_4
    have hw254_3:=hx254_3
    have hw254_2:=hx254_2
    have hw254_1:=hx254_1
    have hw254_0:=hx254_0
    cases e254
    replace hx254_0:=cl HB hx254_0
    replace hx254_1:=cl HB hx254_1
    replace hx254_2:=cl HB hx254_2
    replace hx254_3:=cl HB hx254_3
    replace hx254_4:=cl HB hx254_4
    replace hx254_5:=cl HB hx254_5
    replace hx254_6:=cl HB hx254_6
    replace hx254_7:=cl HB hx254_7
    replace hx254_8:=cl HB hx254_8
    replace hx254_9:=cl HB hx254_9
    replace hx254_10:=cl HB hx254_10
    have HR254_7:=Zz.k hi254_7
    have HC254_7:=Zz.k hl254_7
    clear hi254_7 hl254_7
    replace p254:=eq_true p254
    replace q254:=eq_true q254
    refine stP (fun w' => Q11 w' (ad254.add ((x3_1).toNat * 11)) (Qad l0 x3_1) A254_7 c254_7) 9 ⟨(cW HB hw254_0),(cW HB hw254_1),(cW HB hw254_2),(cW HB hw254_3),(cW HB hw254_4),(cW HB hw254_5),(cW HB hw254_6),(cW HB hw254_7),(cW HB hw254_8),(cW HB hw254_9),(cW HB hw254_10)⟩ (h:=fun hHeld => ?_); refine Qap r4_Row.tab6 r4_Row.bits6 (fun HT_ HW_ => ?_)
    generalize wr.drew = w8 at HB HR253 HR254_7 hx254_0 hx254_1 hx254_10 hx254_2 hx254_3 hx254_4 hx254_5 hx254_6 hx254_7 hx254_8 hx254_9 hHeld ⊢
    refine pu HT_ 0 13 1 (h := ?_)
    refine pu HT_ 1 14 3 (h := ?_)
    refine pu HT_ 2 15 7 (h := ?_)
    refine pu HT_ 3 16 15 (h := ?_)
    refine pu HT_ 4 17 31 (h := ?_)
    refine pu HT_ 5 18 63 (h := ?_)
    refine tk HT_ HW_ hHeld 6 19 127 (h := ?_)
    refine on HT_ 7 (some 20) 255 (h:=fun K hK => ?_)
    refine gS Tryz.func40 #[.slice (some ad254) y250.length c0, .agg #[.int .i64 ((Qad l0 x3_1).f0), .int .i64 ((Qad l0 x3_1).f1), .int .i64 ((Qad l0 x3_1).f2), .int .i64 ((Qad l0 x3_1).f3.f0), .int .i64 ((Qad l0 x3_1).f3.f1), .int .i64 ((Qad l0 x3_1).f3.f2), .string ((Qad l0 x3_1).f4), .slice A254_7 ((Qad l0 x3_1).f5).length c254_7, .int .i64 ((Qad l0 x3_1).f6), .int .i64 ((Qad l0 x3_1).f7), .int .i64 ((Qad l0 x3_1).f8)]] (h := ?_)
    with_reducible refine (r4_Goes.calls k1 _ _ y250 ((Qad l0 x3_1).f0) ((Qad l0 x3_1).f1) ((Qad l0 x3_1).f2) ((Qad l0 x3_1).f3.f0) ((Qad l0 x3_1).f3.f1) ((Qad l0 x3_1).f3.f2) ((Qad l0 x3_1).f4) _ _ ((Qad l0 x3_1).f5) ((Qad l0 x3_1).f6) ((Qad l0 x3_1).f7) ((Qad l0 x3_1).f8) true _ ?side1 ?side2 ?side3 ?side4 ?side5 A6.out).mono ?_
    (case side1 => exact cb HR253 HB)
    (case side2 => exact HC253.out)
    (case side3 => exact cb HR254_7 HB)
    (case side4 => exact HC254_7.out)
    (case side5 => exact (hT.below (bw HB)))
    rintro e w10 ⟨rfl,hb⟩
    refine ⟨_,rfl, ?_⟩
    have n0_:=bs HB hb
    clear HB
    have HB:=n0_
    clear n0_
    (try clear hb)
    (try clear hb2)
    (try clear hk)
    (try clear hi)
    refine hK.out _ _ ⟨(cW HB hw254_0),(cW HB hw254_1),(cW HB hw254_2),(cW HB hw254_3),(cW HB hw254_4),(cW HB hw254_5),(cW HB hw254_6),(cW HB hw254_7),(cW HB hw254_8),(cW HB hw254_9),(cW HB hw254_10)⟩ (fun hHeld => ?_)
    clear hK K
    refine nn 20 (h := ?_)
    refine pu HT_ 8 21 511 (h := ?_)
    refine dn HT_ (h := ?_)
    try go_wp2
    go_roundg k1
    case measure => have:=HK1.out; omega
    case rel => exact ⟨(wrap64 (x3_1 + 1)),rf,H',⟨by have:=HK1.out; omega⟩,⟨bw HB⟩⟩
   replace c7:=Zf c7
   subst c7
   rw [if_neg nft] at H
   obtain rfl:=Zo H
   try go_wp2
   have n0_:=Zz.k (Qae HB.out)
   clear HB
   have HB:=n0_
   clear n0_
   have q12 : (x3_1 : Int) <= ((l0.length : Int) : Int):=od
   obtain ⟨i012,hi012,_,hsz12,_⟩:=info_parts info64
   have hroom12 : l0.length <= c0:=HC0.out
   have hC12 : Kd.C kOp _ A0 l0.length l0:=HR0.out
   have hcut12:=cut_to (P:=Tryz.prog) 24 64 .i64 Tryz.underlying24 hi012 A0 l0.length c0 x3_1 (od) q12 hroom12
   have hr12:=Kd.C_take (m:=(x3_1 : Int).toNat) hC12 (by omega)
   have hy12 : y250.length = (x3_1 : Int).toNat:=(by rw [Ny250.out,List.length_take]; omega)
   rw [<- Ny250.out] at hr12
   rw [<- hy12] at hcut12
   have HR253:=Zz.k hr12
   have HC253:=Zz.k (show y250.length <= c0 from by omega)
   clear hr12 hC12 hroom12 hi012 hsz12
   have KY12:=Zz.k hy12
   clear hy12
   replace q12:=eq_true q12
   have p254 : 0 <= (x3_1 : Int):=od
   have q254 : x3_1 < (l0.length : Int):=od
   obtain ⟨ad254,A254_7,c254_7,e254,hx254_0,hx254_1,hx254_2,hx254_3,hx254_4,hx254_5,hx254_6,hx254_7,hx254_8,hx254_9,hx254_10,hl254_7,hi254_7⟩:=Qby HR0.out x3_1 p254 q254
   have hw254_10:=hx254_10
   have hw254_9:=hx254_9
   have hw254_8:=hx254_8
   have hw254_7:=hx254_7
   have hw254_6:=hx254_6
   have hw254_5:=hx254_5
   have hw254_4:=hx254_4
   have hw254_3:=hx254_3
   have hw254_2:=hx254_2
   have hw254_1:=hx254_1
   have hw254_0:=hx254_0
   cases e254
   replace hx254_0:=cl HB hx254_0
   replace hx254_1:=cl HB hx254_1
   replace hx254_2:=cl HB hx254_2
   replace hx254_3:=cl HB hx254_3
   replace hx254_4:=cl HB hx254_4
   replace hx254_5:=cl HB hx254_5
   replace hx254_6:=cl HB hx254_6
   replace hx254_7:=cl HB hx254_7
   replace hx254_8:=cl HB hx254_8
   replace hx254_9:=cl HB hx254_9
   replace hx254_10:=cl HB hx254_10
   have HR254_7:=Zz.k hi254_7
   have HC254_7:=Zz.k hl254_7
   clear hi254_7 hl254_7
   replace p254:=eq_true p254
   replace q254:=eq_true q254
   refine stP (fun w' => Q11 w' (ad254.add ((x3_1).toNat * 11)) (Qad l0 x3_1) A254_7 c254_7) 9 ⟨(cW HB hw254_0),(cW HB hw254_1),(cW HB hw254_2),(cW HB hw254_3),(cW HB hw254_4),(cW HB hw254_5),(cW HB hw254_6),(cW HB hw254_7),(cW HB hw254_8),(cW HB hw254_9),(cW HB hw254_10)⟩ (h:=fun hHeld => ?_); refine Qap r4_Row.tab6 r4_Row.bits6 (fun HT_ HW_ => ?_)
   generalize wr.drew = w11 at HB HR253 HR254_7 hx254_0 hx254_1 hx254_10 hx254_2 hx254_3 hx254_4 hx254_5 hx254_6 hx254_7 hx254_8 hx254_9 hHeld ⊢
   refine pu HT_ 0 13 1 (h := ?_)
   refine pu HT_ 1 14 3 (h := ?_)
   refine pu HT_ 2 15 7 (h := ?_)
   refine pu HT_ 3 16 15 (h := ?_)
   refine pu HT_ 4 17 31 (h := ?_)
   refine pu HT_ 5 18 63 (h := ?_)
   refine tk HT_ HW_ hHeld 6 19 127 (h := ?_)
   refine on HT_ 7 (some 20) 255 (h:=fun K hK => ?_)
   refine gS Tryz.func40 #[.slice (some ad254) y250.length c0, .agg #[.int .i64 ((Qad l0 x3_1).f0), .int .i64 ((Qad l0 x3_1).f1), .int .i64 ((Qad l0 x3_1).f2), .int .i64 ((Qad l0 x3_1).f3.f0), .int .i64 ((Qad l0 x3_1).f3.f1), .int .i64 ((Qad l0 x3_1).f3.f2), .string ((Qad l0 x3_1).f4), .slice A254_7 ((Qad l0 x3_1).f5).length c254_7, .int .i64 ((Qad l0 x3_1).f6), .int .i64 ((Qad l0 x3_1).f7), .int .i64 ((Qad l0 x3_1).f8)]] (h := ?_)
   with_reducible refine (r4_Goes.calls k1 _ _ y250 ((Qad l0 x3_1).f0) ((Qad l0 x3_1).f1) ((Qad l0 x3_1).f2) ((Qad l0 x3_1).f3.f0) ((Qad l0 x3_1).f3.f1) ((Qad l0 x3_1).f3.f2) ((Qad l0 x3_1).f4) _ _ ((Qad l0 x3_1).f5) ((Qad l0 x3_1).f6) ((Qad l0 x3_1).f7) ((Qad l0 x3_1).f8) false _ ?side1 ?side2 ?side3 ?side4 ?side5 A6.out).mono ?_
   (case side1 => exact cb HR253 HB)
   (case side2 => exact HC253.out)
   (case side3 => exact cb HR254_7 HB)
   (case side4 => exact HC254_7.out)
   (case side5 => exact (hT.below (bw HB)))
   rintro e w13 ⟨rfl,hb⟩
   refine ⟨_,rfl, ?_⟩
   have n0_:=bs HB hb
   clear HB
   have HB:=n0_
   clear n0_
   (try clear hb)
   (try clear hb2)
   (try clear hk)
   (try clear hi)
   refine hK.out _ _ ⟨(cW HB hw254_0),(cW HB hw254_1),(cW HB hw254_2),(cW HB hw254_3),(cW HB hw254_4),(cW HB hw254_5),(cW HB hw254_6),(cW HB hw254_7),(cW HB hw254_8),(cW HB hw254_9),(cW HB hw254_10)⟩ (fun hHeld => ?_)
   clear hK K
   refine nn 20 (h := ?_)
   refine pu HT_ 8 21 511 (h := ?_)
   refine dn HT_ (h := ?_)
   try go_wp2
   go_ret
   exact ⟨re,bw HB⟩
end
section
abbrev RE (w : World) (base : Nat) (v : Value) (xs : List SElem) : Prop:=Qao.R 32 w base (fun _ => True) v xs
theorem RE_set {w : World} {base g n c : Nat} {xs : List SElem} (h : RE w base (.slice (some ⟨g,0,none⟩) n c) xs) (i : Nat) (hi : i < n) (x : SElem) :
  RE (((w.setCell ⟨g,i * 3,none⟩ (.int .i64 x.f0)).setCell ⟨g,i * 3 + 1,none⟩ (.int .i64 x.f1)).setCell ⟨g,i * 3 + 2,none⟩ (.int .i64 x.f2)) base (.slice (some ⟨g,0,none⟩) n c) (xs.set i x) /\
   w.grownBy (((w.setCell ⟨g,i * 3,none⟩ (.int .i64 x.f0)).setCell ⟨g,i * 3 + 1,none⟩ (.int .i64 x.f1)).setCell ⟨g,i * 3 + 2,none⟩ (.int .i64 x.f2)) (some g):=by
 obtain ⟨cs,hl,hM,hc,hf⟩:=Kd.R_elem h zElem (i : Int) (by omega) (by omega)
 have hl3 : cs.length = 3:=hl
 have:=Kd.R_seg h (i : Int) (by omega) (by omega) (c:=cs) (seg:=[.int .i64 x.f0, .int .i64 x.f1, .int .i64 x.f2]) (j:=0) (x':=x) (okp:=fun k => True /\ k ≠ g) hl hc (by show 0 + 3 <= 3; omega) (by
  have : cs.take 0 ++ [Value.int .i64 x.f0, .int .i64 x.f1, .int .i64 x.f2] ++ cs.drop (0 + [Value.int .i64 x.f0, .int .i64 x.f1, .int .i64 x.f2].length) = [.int .i64 x.f0, .int .i64 x.f1, .int .i64 x.f2]:=by
   rw [List.take_zero,List.nil_append,List.drop_eq_nil_of_le (by simp; omega),List.append_nil]
  rw [this]; exact Qcc _ _ _ x) (fun k hk => hk)
 exact this
theorem grown_then {w w1 w2 : World} {row : Option Nat} (h : w.grownBy w1 row) (k : Below w1.heap.size w1 w2) : w.grownBy w2 row :=
 ⟨k.os.trans h.os,k.tape.trans h.tape,k.output.trans h.output,Nat.le_trans h.size k.size,fun i hi hne => (k.block i (Nat.lt_of_lt_of_le hi h.size)).trans (h.block i hi hne)⟩
theorem grown_grown {w w1 w2 : World} {row : Option Nat} (h : w.grownBy w1 row) (k : w1.grownBy w2 row) : w.grownBy w2 row :=
 ⟨k.os.trans h.os,k.tape.trans h.tape,k.output.trans h.output,Nat.le_trans h.size k.size,fun i hi hne => (k.block i (Nat.lt_of_lt_of_le hi h.size) hne).trans (h.block i hi hne)⟩
theorem filter_first (l : List SElem) (p : SElem -> Bool) {i : Nat} (hi : i < l.length) (hpi : p (Qaa l (i : Int)) = true) (hlt : ∀ j,j < i -> p (Qaa l (j : Int)) = false) : l.take i = (l.take (i + 1)).filter (fun x => !p x):=by
 rw [List.take_succ_eq_append_getElem hi,List.filter_append]
 rw [Qaq _ _ hi] at hpi
 have h1 : (l.take i).filter (fun x => !p x) = l.take i:=by
  rw [List.filter_eq_self]
  intro x hx
  obtain ⟨j,hj,rfl⟩:=List.mem_take_iff_getElem.1 hx
  have:=hlt j (by omega)
  rw [Qaq _ _ (by omega)] at this
  simp [this]
 rw [h1]; simp [hpi]
def zs (n : Nat) : List Value:=(Builtin.zeroCells #[.int .i64 0, .int .i64 0, .int .i64 0] n).toList
theorem zs_len (n : Nat) : (zs n).length = n * 3:=by simp [zs,Builtin.zeroCells]
theorem zs_one (n : Nat) : ∀ v ∈ zs n,v.oneCell' = true:=by
 intro v hv
 unfold zs Builtin.zeroCells at hv
 simp only [Array.toList_map,List.mem_map] at hv
 obtain ⟨i,_,rfl⟩:=hv
 have h : i % 3 = 0 \/ i % 3 = 1 \/ i % 3 = 2:=by omega
 show (#[Value.int .i64 0, .int .i64 0, .int .i64 0][i % 3]!).oneCell' = true
 rcases h with h | h | h <;> rw [h] <;> rfl
theorem run_clear_elem (w : World) (ty : TypeId) (b o n c : Nat) (hn : 0 < n) (hc : ∀ j,j < n * 3 -> (w.cell? ⟨b,o + j,none⟩).isSome = true) (hf : ∀ j,j < n * 3 -> w.frozen? ⟨b,o + j,none⟩ = false) :
  (Builtin.clear_ #[23] ty #[.slice (some ⟨b,o,none⟩) n c]).run Tryz.prog w = .ok (.tuple #[]) (w.setCells b o (zs n)):=by
 have hst:=run_storeCells_cells (P:=Tryz.prog) b o (zs n) 0 w (by rw [zs_len]; simpa using hc) (by rw [zs_len]; simpa using hf) (zs_one n)
 simp only [Nat.add_zero] at hst
 have hv:=Tryz.zeroValue32
 obtain ⟨m,rfl⟩ : ∃ m,n = m + 1:=⟨n - 1,by omega⟩
 simp only [Builtin.clear_]
 unfold zs at hst ⊢
 simp [run_underlying Tryz.underlying23,hv,Value.cells,hst]
theorem RE_clear {w : World} {base g n c : Nat} {xs : List SElem} (h : RE w base (.slice (some ⟨g,0,none⟩) n c) xs) (a : Nat) (ha : a <= n) (seg : List Value) (hs : a * 3 + seg.length <= n * 3) :
  RE (w.setCells g (a * 3) seg) base (.slice (some ⟨g,0,none⟩) a c) (xs.take a) /\ w.grownBy (w.setCells g (a * 3) seg) (some g) /\ (∀ j,j < n * 3 -> (w.cell? ⟨g,j,none⟩).isSome = true) /\ ∀ j,w.frozen? ⟨g,j,none⟩ = false:=by
 have hn:=(Kd.R_reads' h).1
 obtain ⟨_,inner0,own0,hr0⟩:=h
 have hT:=Kd.R_take (m:=a) (show RE w base (.slice (some ⟨g,0,none⟩) n c) xs from ⟨fun _ _ => trivial,inner0,own0,hr0⟩) (by omega)
 obtain ⟨hok,inner,ho,hr⟩:=hT
 obtain ⟨ho1,ho2⟩:=ho
 obtain ⟨_,ho02⟩:=own0
 rcases ho02 with ⟨hv,_⟩ | ⟨g0,cap0,cur0,hv0,hb0,hh0,hnc0,hcm0,hcs0,ht0⟩
 ·cases hv
 rcases ho2 with ⟨hv,_⟩ | ⟨g',cap',cur,hv,hb,hh,hnc',hcm,hcs,ht⟩
 ·cases hv
 injection hv with hA _ hc
 injection hA with hA
 injection hA with hg
 subst hg; subst hc
 injection hv0 with hA _ hc
 injection hA with hA
 injection hA with hg
 subst hg; subst hc
 have e : cur0 = cur:=by
  rw [hh] at hh0; injection hh0 with hh0; injection hh0 with hh0; exact hh0.symm
 subst e
 have hfit : a * 3 + seg.length <= cur0.size:=by
  have h3 : Qao.sz = 3:=rfl
  rw [hcs0,h3]; omega
 obtain ⟨cur',h3,h4,h5⟩:=setCells_row seg (a * 3) w cur0 hh hfit
 obtain ⟨s1,s2,s3,s4⟩:=setCells_same g seg (a * 3) w
 refine ⟨⟨hok,inner,⟨ho1, .inr ⟨g,c,cur',by rw [List.length_take,Nat.min_eq_left (by omega)],hb,h3,hnc',hcm,by rw [h4,hcs], ?_⟩⟩,hr⟩,⟨s1,s2,s3,by rw [s4]; exact Nat.le_refl _,fun k _ hk => setCells_far seg _ k (fun he => hk (by rw [he]))⟩,fun j hj => ?_,fun j => blk_frozen hh j⟩
 ·rw [<- ht,h5]
  have hl : (cur0.toList.take (a * 3)).length = a * 3:=by rw [List.length_take,Array.length_toList]; omega
  have h33 : (xs.take a).length * 3 = a * 3:=by rw [List.length_take]; omega
  show List.take ((xs.take a).length * 3) _ = List.take ((xs.take a).length * 3) _
  rw [h33,List.append_assoc,List.take_append_of_le_length (by omega),List.take_take,Nat.min_self]
 ·rw [cell_of_row w g j cur0 _ (0,0) hh,Array.getElem?_eq_getElem (by have h3 : Qao.sz = 3:=rfl; rw [hcs0,h3]; omega)]
  rfl
theorem DeleteFuncElem (gf : Nat) (lb : Array Value) (base c : Nat) (A : Option Addr) (l : List SElem) (p : SElem -> Bool) (w : World) (eg : ∀ args w,(callFunc gf args).run Tryz.prog w = .ok (.enter gf args) w)
  (hm : l.length <= 1000000000) (h0 : RE w base (.slice A l.length c) l)
  (hs : ∀ W x,x ∈ l -> w.grownBy W (Value.slice A l.length c).ownBlock -> Calls Tryz.prog gf (#[elV x] ++ lb) W fun e w' => e = .returned (.bool (p x)) /\ Below W.heap.size W w') :
  Calls Tryz.prog 71 #[.slice A l.length c, .func (.func gf) #[] lb] w fun e w' => ∃ v,e = .returned v /\ RE w' base v (l.filter fun x => !p x) /\ w.grownBy w' (Value.slice A l.length c).ownBlock:=by
 have hu1:=Tryz.underlying23
 have hu2:=Tryz.underlying32
 have cI:=IndexFuncElem gf lb A c l (fun i => p (Qaa l (i : Int))) (fun _ W => Below w.heap.size w W) (fun _ W => Below w.heap.size w W) w eg (by omega) (Below.refl _ _) (fun i W hb => (Kd.R_reads' (Kd.R_below h0 hb)).2.2) (fun i W hi hb => by
  refine (hs W (Qaa l (i : Int)) (by rw [Qaq _ _ hi]; exact List.getElem_mem hi) (grown_of_below hb _)).mono ?_
  rintro e w' ⟨rfl,hb'⟩
  have : Below w.heap.size w w':=Qas hb hb'
  exact ⟨rfl,fun _ => this,fun _ => this⟩)
 have HI:=Zz.k (firstAt_cases (fun i : Nat => p (Qaa l (i : Int))) l.length)
 generalize Qbd (fun i : Nat => p (Qaa l (i : Int))) l.length l.length 0 = i0 at cI HI
 have CI:=Zz.k cI
 have HS:=Zz.k hs
 have H0:=Zz.k h0
 clear cI hs h0
 go_enter Tryz.func71,Tryz.ntmps71
 go_wp2_with fail
 refine CI.out.mono ?_
 rintro e w1 ⟨rfl,hpost⟩
 have HP:=Zz.k hpost
 clear hpost CI
 rcases HI.out with ⟨i,hi,hpi,hlt,rfl⟩ | ⟨hno,rfl⟩
 ·have hne : ((i : Int) == -1) = false:=by simp
  obtain ⟨g,cap,hv,hbg,hgl,_⟩:=Kd.R_form H0.out (by omega)
  injection hv with ha _ hcap
  subst ha; subst hcap
  have hb1 : Below w.heap.size w w1:=by rcases HP.out with ⟨_,_,_,_,h⟩ | ⟨_,h⟩ <;> exact h
  have HG1:=Zz.k (grown_of_below hb1 (some g))
  have HR1:=Zz.k (Kd.R_below H0.out hb1)
  have HFT:=Zz.k (filter_first l p hi hpi hlt)
  clear HP HI hb1 H0
  go_wp2
  go_loopg [5,6,7] l.length (fun gg s5 s6 _ wr => ∃ (a b : Nat) (xs : List SElem),a < b /\ b <= l.length /\ l.length - b <= gg /\ s5 = .int .i64 a /\ s6 = .int .i64 b /\ Zz (xs.length = l.length) /\ Zz (xs.take a = (l.take b).filter (fun x => !p x)) /\ Zz (xs.drop b = l.drop b) /\ Zz (RE wr base (.slice (some ⟨g,0,none⟩) l.length c) xs) /\ Zz (w.grownBy wr (some g)))
  case atStart => exact ⟨i,i + 1,l,by omega,by omega,by omega,rfl,by go_num,⟨rfl⟩,HFT,⟨rfl⟩,HR1,HG1⟩
  case round =>
   clear HFT HR1 HG1
   obtain ⟨a,b,xs,hab,hbn,hgk,rfl,rfl,HL,HF,HD,HR,HG⟩:=hrel
   by_cases hlt2 : b < l.length
   ·obtain ⟨g',rfl⟩ : ∃ g',gk = g' + 1:=⟨gk - 1,by omega⟩
    have hltz : (b : Int) < (l.length : Int):=by omega
    have h0z : (0 : Int) <= (b : Int):=by omega
    obtain ⟨hn,_,hC⟩:=Kd.R_reads' HR.out
    obtain ⟨ad,hA,x0,x1,x2⟩:=Qat hC (b : Int) h0z (by omega)
    injection hA with hA
    subst hA
    clear hC hn
    simp only [Int.toNat_natCast,Qct] at x0 x1 x2
    have hx : Qaa xs (b : Int) = Qaa l (b : Int):=by
     have hb2 : b < xs.length:=by rw [HL.out]; exact hlt2
     rw [Qaq _ _ hb2,Qaq _ _ hlt2]
     have:=HD.out
     rw [List.drop_eq_getElem_cons hb2,List.drop_eq_getElem_cons hlt2] at this
     injection this
    rw [hx] at x0 x1 x2
    have HM:=Zz.k (show Qaa l (b : Int) ∈ l by rw [Qaq _ _ hlt2]; exact List.getElem_mem hlt2)
    generalize hxe : Qaa l (b : Int) = x at x0 x1 x2 HM
    have HXE:=Zz.k hxe
    clear hxe hx
    have hal : Below wr.heap.size wr (wr.alloc (.cells #[.int .i64 x.f0, .int .i64 x.f1, .int .i64 x.f2] 32)):=Qag (Below.refl _ _) _
    have HC:=Zz.k (HS.out _ x HM.out (grown_then HG.out hal))
    have HG2:=Zz.k (grown_then HG.out hal)
    have HR2:=Zz.k (Kd.R_below HR.out hal)
    have HLT : xs.length = l.length:=HL.out
    have ha1 : a < xs.length:=by omega
    clear hal HG HR
    go_wp2_with fail
    refine HC.out.mono ?_
    rintro e w2 ⟨rfl,hb2⟩
    have d0:=Qab hb2 (show (wr.alloc (.cells #[.int .i64 x.f0, .int .i64 x.f1, .int .i64 x.f2] 32)).cell? ⟨wr.heap.size,0,none⟩ = some (.int .i64 x.f0) by simp)
    have d1:=Qab hb2 (show (wr.alloc (.cells #[.int .i64 x.f0, .int .i64 x.f1, .int .i64 x.f2] 32)).cell? ⟨wr.heap.size,1,none⟩ = some (.int .i64 x.f1) by simp)
    have d2:=Qab hb2 (show (wr.alloc (.cells #[.int .i64 x.f0, .int .i64 x.f1, .int .i64 x.f2] 32)).cell? ⟨wr.heap.size,2,none⟩ = some (.int .i64 x.f2) by simp)
    have HG3:=Zz.k (grown_then HG2.out hb2)
    have HR3:=Zz.k (Kd.R_below HR2.out hb2)
    clear hb2 HG2 HR2 x0 x1 x2 HC
    have hxl : l[b] = x:=by rw [<- Qaq _ _ hlt2]; exact HXE.out
    have hD2 : xs.drop (b + 1) = l.drop (b + 1):=by
     have:=HD.out
     rw [List.drop_eq_getElem_cons (show b < xs.length by omega),List.drop_eq_getElem_cons hlt2] at this
     injection this
    have HD2:=Zz.k hD2
    have hF2:=HF.out
    cases hp : p x with
    | true =>
     have hF3 : xs.take a = (l.take (b + 1)).filter (fun x => !p x):=by
      rw [List.take_succ_eq_append_getElem hlt2,List.filter_append,hxl,<- hF2]; simp [hp]
     have HF3:=Zz.k hF3
     clear hF3 hF2 hD2 hp HF HD hxl
     go_wp2
     go_roundg g'
     case measure => omega
     case rel => exact ⟨a,b + 1,xs,by omega,by omega,by omega,rfl,by go_num,HL,HF3,HD2,HR3,HG3⟩
    | false =>
     have hF3 : (xs.set a x).take (a + 1) = (l.take (b + 1)).filter (fun x => !p x):=by
      rw [List.take_succ_eq_append_getElem hlt2,List.filter_append,hxl,<- hF2,List.take_succ_eq_append_getElem (by simp; omega),List.take_set_of_le (Nat.le_refl a)]; simp [hp]
     have HF3:=Zz.k hF3
     have HL3:=Zz.k (show (xs.set a x).length = l.length by rw [List.length_set]; exact HLT)
     have HD3:=Zz.k (show (xs.set a x).drop (b + 1) = l.drop (b + 1) by rw [List.drop_set_of_lt (by omega)]; exact hD2)
     obtain ⟨cs,hcl,_,hcc,hff⟩:=Kd.R_elem HR3.out zElem (a : Int) (by omega) (by omega)
     have hcl3 : cs.length = 3:=hcl
     have hR4:=RE_set HR3.out a (by omega) x
     have HR4:=Zz.k hR4.1
     have HG4:=Zz.k (grown_grown HG3.out hR4.2)
     obtain ⟨q0,q1,q2,rfl⟩ : ∃ q0 q1 q2,cs = [q0,q1,q2]:=by
      match cs,hcl3 with
      | [q0,q1,q2],_ => exact ⟨q0,q1,q2,rfl⟩
     have e0 : w2.cell? ⟨g,a * 3,none⟩ = some q0:=hcc 0 _ rfl
     have e1 : w2.cell? ⟨g,a * 3 + 1,none⟩ = some q1:=hcc 1 _ rfl
     have e2 : w2.cell? ⟨g,a * 3 + 2,none⟩ = some q2:=hcc 2 _ rfl
     have f0 : w2.frozen? ⟨g,a * 3,none⟩ = false:=hff 0
     have f1 : w2.frozen? ⟨g,a * 3 + 1,none⟩ = false:=hff 1
     have f2 : w2.frozen? ⟨g,a * 3 + 2,none⟩ = false:=hff 2
     clear hF3 hF2 hD2 hp HF HD hxl hR4 hcc hff hcl hcl3 HG3 HR3
     go_wp2
     go_roundg g'
     case measure => omega
     case rel => exact ⟨a + 1,b + 1,xs.set a x,by omega,by omega,by omega,by go_num,by go_num,HL3,HF3,HD3,HR4,HG4⟩
   ·obtain rfl : b = l.length:=by omega
    have hltz : ¬ (l.length : Int) < (l.length : Int):=by omega
    obtain ⟨r1,r2,r3,r4⟩:=RE_clear HR.out a (by omega) (zs (l.length - a)) (by rw [zs_len]; omega)
    have HR5:=Zz.k r1
    have HG5:=Zz.k (grown_grown HG.out r2)
    have hcl : ∀ ty,(Builtin.clear_ #[23] ty #[.slice (some ⟨g,a * 3,none⟩) (l.length - a) (c - a)]).run Tryz.prog wr = .ok (.tuple #[]) (wr.setCells g (a * 3) (zs (l.length - a))) :=
     fun ty => run_clear_elem wr ty g (a * 3) _ _ (by omega) (fun j hj => r3 _ (by omega)) (fun j hj => r4 _)
    have hF5:=HF.out
    rw [List.take_length] at hF5
    have HF5:=Zz.k hF5
    have hnc:=(Kd.R_reads' HR.out).2.1
    have hac : c ≠ a:=by omega
    have hac1 : (a : Int) <= (c : Int):=by omega
    have hac2 : ¬ (c : Int) < (a : Int):=by omega
    clear r1 r2 r3 r4 HR HG HD HF hF5
    go_wp2
    go_ret
    exact ⟨_,rfl,by rw [<- HF5.out]; exact HR5.out,HG5.out⟩
 ·go_wp2
  go_ret
  have hb1 : Below w.heap.size w w1:=by rcases HP.out with ⟨_,_,_,_,h⟩ | ⟨_,h⟩ <;> exact h
  refine ⟨_,rfl, ?_,grown_of_below hb1 _⟩
  have : l.filter (fun x => !p x) = l:=by
   rw [List.filter_eq_self]
   intro x hx
   obtain ⟨j,hj,rfl⟩:=List.getElem_of_mem hx
   have:=hno j hj
   rw [Qaq _ _ hj] at this
   simp [this]
  rw [this]
  exact Kd.R_below H0.out hb1
end
section
abbrev MapE (w : World) (b n : Nat) (S : Int × Int × Int -> Bool) : Prop:=MapB encE 32 4 w b n S
theorem seen1_calls (c1 c2 b1 b2 n1 n2 : Nat) (x : SElem) (G T : Int × Int × Int -> Bool) (W : World) (h1 : W.cell? ⟨c1,0,none⟩ = some (.map (some b1))) (h2 : W.cell? ⟨c2,0,none⟩ = some (.map (some b2)))
  (hG : MapE W b1 n1 G) (hT : MapE W b2 n2 T) (hx : inI x.f0 /\ inI x.f1 /\ inI x.f2) :
  Calls Tryz.prog 73 #[elV x, .pointer (some ⟨c1,0,none⟩), .pointer (some ⟨c2,0,none⟩)] W fun e w' => e = .returned (.bool (G (x.f0,x.f1,x.f2) || !T (x.f0,x.f1,x.f2))) /\ Below W.heap.size W w':=by
 have l1:=World.block_lt_of_cell? W _ h1
 have l2:=World.block_lt_of_cell? W _ h2
 simp only at l1 l2
 obtain ⟨kl,hkl⟩:=keyE (x:=(x.f0,x.f1,x.f2)) hx.1 hx.2.1 hx.2.2
 have hal : Below W.heap.size W (W.alloc (.cells #[.int .i64 x.f0, .int .i64 x.f1, .int .i64 x.f2] 32)):=Qag (Below.refl _ _) _
 have k1:=(hG.below hal hG.lt).look lawE Tryz.underlying93 Tryz.underlying4 zeroB (x.f0,x.f1,x.f2) hkl
 have k2:=(hT.below hal hT.lt).look lawE Tryz.underlying93 Tryz.underlying4 zeroB (x.f0,x.f1,x.f2) hkl
 have d1:=Qab hal h1
 have d2:=Qab hal h2
 simp only [encE] at k1 k2
 have HAL:=Zz.k hal
 unfold elV
 generalize hg : G (x.f0,x.f1,x.f2) = gq at k1 ⊢
 generalize ht : T (x.f0,x.f1,x.f2) = tq at k2 ⊢
 clear hG hT hx hkl hal h1 h2 hg ht
 cases gq
 ·go_enter Tryz.func73,Tryz.ntmps73
  go_wp2
  go_ret
  exact ⟨rfl,HAL.out⟩
 ·go_enter Tryz.func73,Tryz.ntmps73
  go_wp2
  go_ret
  exact ⟨rfl,HAL.out⟩
end
section
attribute [local go_sem] Qbl Qbj Qbp Qbo Qba Qaz Qbk Qbi
def doc_Counts.l0 : Nat -> List (SOp) -> List Int -> List (SOp) -> Int -> Int -> Option (List Int)
 | 0,_,_,_,_,_ => none
 | k + 1,x0,x3,x10,x11,x12 => if x12 < x11 then (if 0 <= x12 then (if x12 < (x10.length : Int) then (if ((Qad x10 x12).f2) = 2 then ((tree_Find.f x0 ((Qad x10 x12).f6) ((Qad x10 x12).f7)).bind fun t262 => (if 0 <= t262 then (if t262 < (x3.length : Int) then (if ((Qad x10 x12).f8) = (rd x3 t262) then (doc_Counts.l0 k x0 (x3.set (t262 : Int).toNat (wrap64 ((rd x3 t262) + 1))) x10 x11 (wrap64 (x12 + 1))) else (doc_Counts.l0 k x0 x3 x10 x11 (wrap64 (x12 + 1)))) else (none)) else (none))) else (doc_Counts.l0 k x0 x3 x10 x11 (wrap64 (x12 + 1)))) else (none)) else (none)) else (some x3)
def doc_Counts.f (k : Nat) (l0 : List (SOp)) : Option (List Int):=if 0 <= (l0.length : Int) then (if ((l0.length : Int) : Int).toNat <= 35184372088832 then (doc_Counts.l0 k l0 (List.replicate ((l0.length : Int) : Int).toNat 0) l0 (l0.length : Int) 0) else (none)) else (none)
theorem doc_Counts.calls (k : Nat) (A0 : Option Addr) (c0 : Nat) (l0 : List (SOp)) (r : List Int) (w : World) (hr0 : Kd.C kOp w A0 l0.length l0) (hc0 : l0.length <= c0) (h : doc_Counts.f k l0 = some r) :
  Calls Tryz.prog 56 #[.slice A0 l0.length c0] w fun e w' => ∃ v0_ : Value,e = .returned (v0_) /\ Kd.R (Kd.int .i64) 3 w' w.heap.size (fun _ => True) v0_ r /\ Below w.heap.size w w':=by
 have hu64:=Tryz.underlying64
 have HR0:=Zz.k hr0
 have HC0:=Zz.k hc0
 clear hr0 hc0
 have HB:=Zz.k (Below.refl w.heap.size w)
 unfold doc_Counts.f at h; have H:=h
 clear h
 by_cases c2 : 0 <= (l0.length : Int); rotate_left
 ·rw [if_neg c2] at H
  exact absurd H (by simp)
 rw [if_pos c2] at H
 have c2b0:=eq_true c2
 have c2b1:=Zd c2
 clear c2
 by_cases c3 : ((l0.length : Int) : Int).toNat <= 35184372088832; rotate_left
 ·rw [if_neg c3] at H
  exact absurd H (by simp)
 rw [if_pos c3] at H
 have c3b0:=eq_true c3
 have c3b1:=Zd c3
 clear c3
 obtain ⟨y257,hy257⟩ : ∃ y_ : List Int,y_ = (List.replicate ((l0.length : Int) : Int).toNat 0):=⟨_,rfl⟩
 first | rw [Option.bind_some,<- hy257] at H | rw [<- hy257] at H
 have Ny257:=Zz.k hy257
 clear hy257
 have H':=Zz.k H
 clear H
 go_enter Tryz.func56,Tryz.ntmps56
 go_wp2_with (first | ((with_reducible refine Qaf (N:=9) rfl ?_); refine Kd.R_make (Kd.int .i64) _ 3 rfl (N:=9) rfl 25 _ _ rfl (l0.length : Int) rfl rfl Tryz.underlying25 (.int .i64 0) 8 info3 rfl (by decide) (by omega) 0 (ok:=fun _ => True) (okp:=fun _ => True) rfl (fun _ hk => hk) trivial (od) (Nat.le_trans (Nat.mul_le_mul_right _ (od : (l0.length : Int).toNat <= 35184372088832)) (by omega)) (Below.refl _ _) (Nat.le_refl _) ?_; intro v258 w4 ho5 hb hg_ hnew_; clear hg_ hnew_; (first | rw [<- Ny257.out] at ho5 | (simp only [Int.reduceToNat] at ho5; rw [<- Ny257.out] at ho5)); have HO259:=Zz.k (Kd.R_lower ho5 (Qaj (bw HB))); replace HB:=bs HB hb; clear hb ho5))
 repeat (go_quiet (first | ((with_reducible refine Qaf (N:=9) rfl ?_); refine Kd.R_make (Kd.int .i64) _ 3 rfl (N:=9) rfl 25 _ _ rfl (l0.length : Int) rfl rfl Tryz.underlying25 (.int .i64 0) 8 info3 rfl (by decide) (by omega) 0 (ok:=fun _ => True) (okp:=fun _ => True) rfl (fun _ hk => hk) trivial (od) (Nat.le_trans (Nat.mul_le_mul_right _ (od : (l0.length : Int).toNat <= 35184372088832)) (by omega)) (Below.refl _ _) (Nat.le_refl _) ?_; intro v258 w4 ho5 hb hg_ hnew_; clear hg_ hnew_; (first | rw [<- Ny257.out] at ho5 | (simp only [Int.reduceToNat] at ho5; rw [<- Ny257.out] at ho5)); have HO259:=Zz.k (Kd.R_lower ho5 (Qaj (bw HB))); replace HB:=bs HB hb; clear hb ho5)); try go_wp2_with (first | ((with_reducible refine Qaf (N:=9) rfl ?_); refine Kd.R_make (Kd.int .i64) _ 3 rfl (N:=9) rfl 25 _ _ rfl (l0.length : Int) rfl rfl Tryz.underlying25 (.int .i64 0) 8 info3 rfl (by decide) (by omega) 0 (ok:=fun _ => True) (okp:=fun _ => True) rfl (fun _ hk => hk) trivial (od) (Nat.le_trans (Nat.mul_le_mul_right _ (od : (l0.length : Int).toNat <= 35184372088832)) (by omega)) (Below.refl _ _) (Nat.le_refl _) ?_; intro v258 w4 ho5 hb hg_ hnew_; clear hg_ hnew_; (first | rw [<- Ny257.out] at ho5 | (simp only [Int.reduceToNat] at ho5; rw [<- Ny257.out] at ho5)); have HO259:=Zz.k (Kd.R_lower ho5 (Qaj (bw HB))); replace HB:=bs HB hb; clear hb ho5)))
 go_loopg [12] k (fun kq v12 w' => ∃ (x3_1 : List Int) (x12_1 : Int),v12 = .int .i64 x12_1 /\ Zz (doc_Counts.l0 kq l0 x3_1 l0 (l0.length : Int) x12_1 = some r) /\ Zz (kq <= k) /\ Zz (Kd.R (Kd.int .i64) 3 w' w.heap.size (fun _ => True) v258 x3_1) /\ Zz (Below w.heap.size w w'))
 case atStart => exact ⟨(y257),(0),rf,H',⟨Nat.le_refl _⟩,⟨rk HO259⟩,⟨bw HB⟩⟩
 case round =>
  clear H'
  try clear c2b0; try clear c2b1; try clear c3b0; try clear c3b1
  obtain ⟨x3_1,x12_1,rfl,HA,HK1,HO_3,HB⟩:=hrel
  cases gk with
  | zero => exact absurd HA.out (by simp [doc_Counts.l0])
  | succ k1 =>
   have H:=HA.out
   clear HA
   simp only [doc_Counts.l0] at H
   by_cases c6 : x12_1 < (l0.length : Int); rotate_left
   ·rw [if_neg c6] at H
    have c6b0:=Ze c6
    clear c6
    obtain rfl:=Zo H
    go_wp2
    repeat (go_quiet (fail); try go_wp2)
    go_ret
    exact ⟨_,re,by (with_reducible repeat (first | apply Kd.R_alloc | apply Kd.R_drewN | apply Kd.R_drew)); exact HO_3.out,bw HB⟩
   rw [if_pos c6] at H
   have c6b0:=Zd c6
   clear c6
   by_cases c7 : 0 <= x12_1; rotate_left
   ·rw [if_neg c7] at H
    exact absurd H (by simp)
   rw [if_pos c7] at H
   have c7b0:=Zd c7
   clear c7
   by_cases c8 : x12_1 < (l0.length : Int); rotate_left
   ·rw [if_neg c8] at H
    exact absurd H (by simp)
   rw [if_pos c8] at H
   have c8b0:=Zd c8
   clear c8
   by_cases c9 : ((Qad l0 x12_1).f2) = 2; rotate_left
   ·rw [if_neg c9] at H
    obtain ⟨c9b0,c9b1⟩:=bF c9
    have H':=Zz.k H
    clear H
    have p260 : 0 <= (x12_1 : Int):=od
    have q260 : x12_1 < (l0.length : Int):=od
    obtain ⟨ad260,A260_7,c260_7,e260,hx260_0,hx260_1,hx260_2,hx260_3,hx260_4,hx260_5,hx260_6,hx260_7,hx260_8,hx260_9,hx260_10,hl260_7,hi260_7⟩:=Qby HR0.out x12_1 p260 q260
    cases e260
    replace hx260_0:=cl HB hx260_0
    replace hx260_1:=cl HB hx260_1
    replace hx260_2:=cl HB hx260_2
    replace hx260_3:=cl HB hx260_3
    replace hx260_4:=cl HB hx260_4
    replace hx260_5:=cl HB hx260_5
    replace hx260_6:=cl HB hx260_6
    replace hx260_7:=cl HB hx260_7
    replace hx260_8:=cl HB hx260_8
    replace hx260_9:=cl HB hx260_9
    replace hx260_10:=cl HB hx260_10
    have HR260_7:=Zz.k hi260_7
    have HC260_7:=Zz.k hl260_7
    clear hi260_7 hl260_7
    replace p260:=eq_true p260
    replace q260:=eq_true q260
    go_wp2_with (first | ((with_reducible refine Qaf (N:=5) rfl ?_); refine bx 5 #[.int .i64 0, .int .i64 0, .int .i64 0, .int .i64 0, .int .i64 0, .int .i64 0, .string (⟨#[]⟩ : ByteArray), .slice none 0 0, .int .i64 0, .int .i64 0, .int .i64 0] 64 (h := ?_); intro gb261 hg w27 hbox hb; have BK261:=Zz.k (hbox); have GW261:=bz HB hg; have GE261:=bz HB hg; replace HO_3:=rb HO_3 hb; replace HB:=bs HB hb; clear hb hbox hg; obtain ⟨_,_,_,_,_,_,_,_,_,_,_,_,_,_,_,_,_,_,_,_,_,_⟩:=kc11 BK261))
    repeat (go_quiet (first | ((with_reducible refine Qaf (N:=5) rfl ?_); refine bx 5 #[.int .i64 0, .int .i64 0, .int .i64 0, .int .i64 0, .int .i64 0, .int .i64 0, .string (⟨#[]⟩ : ByteArray), .slice none 0 0, .int .i64 0, .int .i64 0, .int .i64 0] 64 (h := ?_); intro gb261 hg w27 hbox hb; have BK261:=Zz.k (hbox); have GW261:=bz HB hg; have GE261:=bz HB hg; replace HO_3:=rb HO_3 hb; replace HB:=bs HB hb; clear hb hbox hg; obtain ⟨_,_,_,_,_,_,_,_,_,_,_,_,_,_,_,_,_,_,_,_,_,_⟩:=kc11 BK261)); try go_wp2_with (first | ((with_reducible refine Qaf (N:=5) rfl ?_); refine bx 5 #[.int .i64 0, .int .i64 0, .int .i64 0, .int .i64 0, .int .i64 0, .int .i64 0, .string (⟨#[]⟩ : ByteArray), .slice none 0 0, .int .i64 0, .int .i64 0, .int .i64 0] 64 (h := ?_); intro gb261 hg w27 hbox hb; have BK261:=Zz.k (hbox); have GW261:=bz HB hg; have GE261:=bz HB hg; replace HO_3:=rb HO_3 hb; replace HB:=bs HB hb; clear hb hbox hg; obtain ⟨_,_,_,_,_,_,_,_,_,_,_,_,_,_,_,_,_,_,_,_,_,_⟩:=kc11 BK261)))
    go_roundg k1
    case measure => have:=HK1.out; omega
    case rel => exact ⟨(x3_1),(wrap64 (x12_1 + 1)),rf,H',⟨by have:=HK1.out; omega⟩,⟨by (with_reducible repeat (first | apply Kd.R_alloc | apply Kd.R_drewN | apply Kd.R_drew)); exact Kd.R_mono (rf11 (Kd.R_types HO_3.out BK261.out (by decide))) (fun _ hk => trivial)⟩,⟨bw HB⟩⟩
   rw [if_pos c9] at H
   obtain ⟨c9b0,c9b1⟩:=bT c9
   clear c9
   obtain ⟨t262,A10,H⟩:=bE H
   by_cases c11 : 0 <= t262; rotate_left
   ·rw [if_neg c11] at H
    exact absurd H (by simp)
   rw [if_pos c11] at H
   have c11b0:=Zd c11
   clear c11
   by_cases c12 : t262 < (x3_1.length : Int); rotate_left
   ·rw [if_neg c12] at H
    exact absurd H (by simp)
   rw [if_pos c12] at H
   have c12b0:=Zd c12
   clear c12
   by_cases c13 : ((Qad l0 x12_1).f8) = (rd x3_1 t262); rotate_left
   ·rw [if_neg c13] at H
    obtain ⟨c13b0,c13b1⟩:=bF c13
    have H':=Zz.k H
    clear H
    have p260 : 0 <= (x12_1 : Int):=od
    have q260 : x12_1 < (l0.length : Int):=od
    obtain ⟨ad260,A260_7,c260_7,e260,hx260_0,hx260_1,hx260_2,hx260_3,hx260_4,hx260_5,hx260_6,hx260_7,hx260_8,hx260_9,hx260_10,hl260_7,hi260_7⟩:=Qby HR0.out x12_1 p260 q260
    cases e260
    replace hx260_0:=cl HB hx260_0
    replace hx260_1:=cl HB hx260_1
    replace hx260_2:=cl HB hx260_2
    replace hx260_3:=cl HB hx260_3
    replace hx260_4:=cl HB hx260_4
    replace hx260_5:=cl HB hx260_5
    replace hx260_6:=cl HB hx260_6
    replace hx260_7:=cl HB hx260_7
    replace hx260_8:=cl HB hx260_8
    replace hx260_9:=cl HB hx260_9
    replace hx260_10:=cl HB hx260_10
    have HR260_7:=Zz.k hi260_7
    have HC260_7:=Zz.k hl260_7
    clear hi260_7 hl260_7
    replace p260:=eq_true p260
    replace q260:=eq_true q260
    go_wp2_with (first | ((with_reducible refine Qaf (N:=5) rfl ?_); refine bx 5 #[.int .i64 0, .int .i64 0, .int .i64 0, .int .i64 0, .int .i64 0, .int .i64 0, .string (⟨#[]⟩ : ByteArray), .slice none 0 0, .int .i64 0, .int .i64 0, .int .i64 0] 64 (h := ?_); intro gb261 hg w22 hbox hb; have BK261:=Zz.k (hbox); have GW261:=bz HB hg; have GE261:=bz HB hg; replace HO_3:=rb HO_3 hb; replace HB:=bs HB hb; clear hb hbox hg; obtain ⟨_,_,_,_,_,_,_,_,_,_,_,_,_,_,_,_,_,_,_,_,_,_⟩:=kc11 BK261) | (go_at_call 62; (with_reducible refine (tree_Find.calls _ _ l0 ((Qad l0 x12_1).f6) ((Qad l0 x12_1).f7) t262 _ ?side1 ?side2 A10.out).mono ?_); (case side1 => exact Kd.C_below HR0.out (bw HB)); (case side2 => exact HC0.out); rintro e w24 ⟨rfl,hb⟩; replace HO_3:=Zz.k (Kd.R_below (by (with_reducible repeat (first | apply Kd.R_alloc | apply Kd.R_drewN | apply Kd.R_drew)); exact (Kd.R_mono (rf11 (Kd.R_types HO_3.out BK261.out (by decide))) (fun _ h_ => h_.1))) hb); replace BK261:=Zz.k (Qcz (bp11 (kk BK261)) hb); replace HB:=bs HB hb; clear hb; obtain ⟨_,_,_,_,_,_,_,_,_,_,_,_,_,_,_,_,_,_,_,_,_,_⟩:=kc11 BK261; obtain ⟨Ao26,co26,eo26⟩:=Kd.R_slice HO_3.out; subst eo26; have p263 : 0 <= (t262 : Int):=od; have q263 : t262 < (x3_1.length : Int):=od; obtain ⟨ad263,e263,hx263_0⟩:=Kd.at_int (Kd.R_reads' HO_3.out).2.2 t262 p263 q263; cases e263; replace p263:=eq_true p263; replace q263:=eq_true q263))
    repeat (go_quiet (first | ((with_reducible refine Qaf (N:=5) rfl ?_); refine bx 5 #[.int .i64 0, .int .i64 0, .int .i64 0, .int .i64 0, .int .i64 0, .int .i64 0, .string (⟨#[]⟩ : ByteArray), .slice none 0 0, .int .i64 0, .int .i64 0, .int .i64 0] 64 (h := ?_); intro gb261 hg w22 hbox hb; have BK261:=Zz.k (hbox); have GW261:=bz HB hg; have GE261:=bz HB hg; replace HO_3:=rb HO_3 hb; replace HB:=bs HB hb; clear hb hbox hg; obtain ⟨_,_,_,_,_,_,_,_,_,_,_,_,_,_,_,_,_,_,_,_,_,_⟩:=kc11 BK261) | (go_at_call 62; (with_reducible refine (tree_Find.calls _ _ l0 ((Qad l0 x12_1).f6) ((Qad l0 x12_1).f7) t262 _ ?side1 ?side2 A10.out).mono ?_); (case side1 => exact Kd.C_below HR0.out (bw HB)); (case side2 => exact HC0.out); rintro e w24 ⟨rfl,hb⟩; replace HO_3:=Zz.k (Kd.R_below (by (with_reducible repeat (first | apply Kd.R_alloc | apply Kd.R_drewN | apply Kd.R_drew)); exact (Kd.R_mono (rf11 (Kd.R_types HO_3.out BK261.out (by decide))) (fun _ h_ => h_.1))) hb); replace BK261:=Zz.k (Qcz (bp11 (kk BK261)) hb); replace HB:=bs HB hb; clear hb; obtain ⟨_,_,_,_,_,_,_,_,_,_,_,_,_,_,_,_,_,_,_,_,_,_⟩:=kc11 BK261; obtain ⟨Ao26,co26,eo26⟩:=Kd.R_slice HO_3.out; subst eo26; have p263 : 0 <= (t262 : Int):=od; have q263 : t262 < (x3_1.length : Int):=od; obtain ⟨ad263,e263,hx263_0⟩:=Kd.at_int (Kd.R_reads' HO_3.out).2.2 t262 p263 q263; cases e263; replace p263:=eq_true p263; replace q263:=eq_true q263)); try go_wp2_with (first | ((with_reducible refine Qaf (N:=5) rfl ?_); refine bx 5 #[.int .i64 0, .int .i64 0, .int .i64 0, .int .i64 0, .int .i64 0, .int .i64 0, .string (⟨#[]⟩ : ByteArray), .slice none 0 0, .int .i64 0, .int .i64 0, .int .i64 0] 64 (h := ?_); intro gb261 hg w22 hbox hb; have BK261:=Zz.k (hbox); have GW261:=bz HB hg; have GE261:=bz HB hg; replace HO_3:=rb HO_3 hb; replace HB:=bs HB hb; clear hb hbox hg; obtain ⟨_,_,_,_,_,_,_,_,_,_,_,_,_,_,_,_,_,_,_,_,_,_⟩:=kc11 BK261) | (go_at_call 62; (with_reducible refine (tree_Find.calls _ _ l0 ((Qad l0 x12_1).f6) ((Qad l0 x12_1).f7) t262 _ ?side1 ?side2 A10.out).mono ?_); (case side1 => exact Kd.C_below HR0.out (bw HB)); (case side2 => exact HC0.out); rintro e w24 ⟨rfl,hb⟩; replace HO_3:=Zz.k (Kd.R_below (by (with_reducible repeat (first | apply Kd.R_alloc | apply Kd.R_drewN | apply Kd.R_drew)); exact (Kd.R_mono (rf11 (Kd.R_types HO_3.out BK261.out (by decide))) (fun _ h_ => h_.1))) hb); replace BK261:=Zz.k (Qcz (bp11 (kk BK261)) hb); replace HB:=bs HB hb; clear hb; obtain ⟨_,_,_,_,_,_,_,_,_,_,_,_,_,_,_,_,_,_,_,_,_,_⟩:=kc11 BK261; obtain ⟨Ao26,co26,eo26⟩:=Kd.R_slice HO_3.out; subst eo26; have p263 : 0 <= (t262 : Int):=od; have q263 : t262 < (x3_1.length : Int):=od; obtain ⟨ad263,e263,hx263_0⟩:=Kd.at_int (Kd.R_reads' HO_3.out).2.2 t262 p263 q263; cases e263; replace p263:=eq_true p263; replace q263:=eq_true q263)))
    go_roundg k1
    case measure => have:=HK1.out; omega
    case rel => exact ⟨(x3_1),(wrap64 (x12_1 + 1)),rf,H',⟨by have:=HK1.out; omega⟩,⟨rk HO_3⟩,⟨bw HB⟩⟩
   rw [if_pos c13] at H
   obtain ⟨c13b0,c13b1⟩:=bT c13
   clear c13
   obtain ⟨y265,hy265⟩ : ∃ y_ : List Int,y_ = (x3_1.set (t262 : Int).toNat (wrap64 ((rd x3_1 t262) + 1))):=⟨_,rfl⟩
   first | rw [Option.bind_some,<- hy265] at H | rw [<- hy265] at H
   have Ny265:=Zz.k hy265
   clear hy265
   have H':=Zz.k H
   clear H
   have p260 : 0 <= (x12_1 : Int):=od
   have q260 : x12_1 < (l0.length : Int):=od
   obtain ⟨ad260,A260_7,c260_7,e260,hx260_0,hx260_1,hx260_2,hx260_3,hx260_4,hx260_5,hx260_6,hx260_7,hx260_8,hx260_9,hx260_10,hl260_7,hi260_7⟩:=Qby HR0.out x12_1 p260 q260
   cases e260
   replace hx260_0:=cl HB hx260_0
   replace hx260_1:=cl HB hx260_1
   replace hx260_2:=cl HB hx260_2
   replace hx260_3:=cl HB hx260_3
   replace hx260_4:=cl HB hx260_4
   replace hx260_5:=cl HB hx260_5
   replace hx260_6:=cl HB hx260_6
   replace hx260_7:=cl HB hx260_7
   replace hx260_8:=cl HB hx260_8
   replace hx260_9:=cl HB hx260_9
   replace hx260_10:=cl HB hx260_10
   have HR260_7:=Zz.k hi260_7
   have HC260_7:=Zz.k hl260_7
   clear hi260_7 hl260_7
   replace p260:=eq_true p260
   replace q260:=eq_true q260
   go_wp2_with (first | ((with_reducible refine Qaf (N:=5) rfl ?_); refine bx 5 #[.int .i64 0, .int .i64 0, .int .i64 0, .int .i64 0, .int .i64 0, .int .i64 0, .string (⟨#[]⟩ : ByteArray), .slice none 0 0, .int .i64 0, .int .i64 0, .int .i64 0] 64 (h := ?_); intro gb261 hg w15 hbox hb; have BK261:=Zz.k (hbox); have GW261:=bz HB hg; have GE261:=bz HB hg; replace HO_3:=rb HO_3 hb; replace HB:=bs HB hb; clear hb hbox hg; obtain ⟨_,_,_,_,_,_,_,_,_,_,_,_,_,_,_,_,_,_,_,_,_,_⟩:=kc11 BK261) | (go_at_call 62; (with_reducible refine (tree_Find.calls _ _ l0 ((Qad l0 x12_1).f6) ((Qad l0 x12_1).f7) t262 _ ?side1 ?side2 A10.out).mono ?_); (case side1 => exact Kd.C_below HR0.out (bw HB)); (case side2 => exact HC0.out); rintro e w17 ⟨rfl,hb⟩; replace HO_3:=Zz.k (Kd.R_below (by (with_reducible repeat (first | apply Kd.R_alloc | apply Kd.R_drewN | apply Kd.R_drew)); exact (Kd.R_mono (rf11 (Kd.R_types HO_3.out BK261.out (by decide))) (fun _ h_ => h_.1))) hb); replace BK261:=Zz.k (Qcz (bp11 (kk BK261)) hb); replace HB:=bs HB hb; clear hb; obtain ⟨_,_,_,_,_,_,_,_,_,_,_,_,_,_,_,_,_,_,_,_,_,_⟩:=kc11 BK261; obtain ⟨Ao19,co19,eo19⟩:=Kd.R_slice HO_3.out; subst eo19; have p263 : 0 <= (t262 : Int):=od; have q263 : t262 < (x3_1.length : Int):=od; obtain ⟨ad263,e263,hx263_0⟩:=Kd.at_int (Kd.R_reads' HO_3.out).2.2 t262 p263 q263; cases e263; replace p263:=eq_true p263; replace q263:=eq_true q263; have p264 : 0 <= (t262 : Int):=od; have q264 : t262 < (x3_1.length : Int):=od; obtain ⟨ad264,e264,hx264_0⟩:=Kd.at_int (Kd.R_reads' HO_3.out).2.2 t262 p264 q264; obtain rfl : ad263 = ad264:=(by injection e264); replace p264:=eq_true p264; replace q264:=eq_true q264; have p14 : 0 <= (t262 : Int):=od; have q14 : (t262 : Int) < ((x3_1.length : Int) : Int):=od; obtain ⟨go14,co14,eo14,gb14,gl14,cl14,HG14⟩:=Kd.R_form HO_3.out (by omega); (first | cases eo14 | (injection eo14 with ea_ en_ ec_; (first | subst ea_ | (injection ea_ with ea_; subst ea_)); subst ec_; clear en_)); have GB14:=Zz.k gb14; have GG14:=Zz.k HG14; clear gb14 gl14 HG14; (first | simp only [Qct] at hx263_0 | skip); (first | simp only [Qct] at hx264_0 | skip); obtain ⟨hx14_0,hf14_0⟩:=Kd.R_celln 0 HO_3.out (t262 : Int) p14 q14; replace p14:=eq_true p14; replace q14:=eq_true q14; obtain ⟨hy20_,hz20_⟩:=Kd.R_celln 0 HO_3.out (t262 : Int) (od) (od); have HP20:=Kd.R_putg HO_3.out (t262 : Int) (wrap64 ((rd x3_1 t262) + 1))) | ((with_reducible refine gate_store (t:=3) (p:=37) rfl ?_); (try (rw [drewN_self w17]; generalize hq_ : World.drewN w17 _ = w17; have n0_:=Zz.k (Kd.R_at hq_ HO_3.out); have n1_:=Zz.k (blk_at hq_ BK261.out); have n2_:=Zz.k (below_at hq_ HB.out); clear hq_ HO_3 BK261 HB; have HO_3:=n0_; have BK261:=n1_; have HB:=n2_; clear n0_ n1_ n2_; (try (obtain ⟨hy20_,hz20_⟩:=Kd.R_celln 0 HO_3.out (t262 : Int) (od) (od))); (try (have HP20:=Kd.R_putg HO_3.out (t262 : Int) (wrap64 ((rd x3_1 t262) + 1)))))); refine Qdd (t:=3) (p:=37) (v := ?vo_w21) (w1:=(w17.setCell ⟨go14,(t262 : Int).toNat,none⟩ (.int .i64 (wrap64 ((rd x3_1 t262) + 1))))) ?hg ?ho ?hn ?hr ?_; (case ho => rfl); (case hg => rfl); (case hn => rfl); (case hr => first | (go_simp; done) | (go_simp; rfl)); intro w21 hw; have hg : w17.grownBy w21 (some go14):=(by rw [hw]; exact HP20.2); have hp_ : Kd.R (Kd.int .i64) 3 w21 w.heap.size (fun _ => True) (.slice (some ⟨go14,0,none⟩) x3_1.length co19) y265:=(by rw [hw,Ny265.out]; exact HP20.1); clear HP20; replace BK261:=Zz.k (Qcm (kk BK261) hg (Kd.R_ne HO_3.out BK261.out (by decide))); replace HO_3:=Zz.k (hp_); replace HB:=Zz.k ((by rw [hw]; exact Qbw (HB.out) GB14.out : Below w.heap.size w w21)); clear hg hw hp_))
   repeat (go_quiet (first | ((with_reducible refine Qaf (N:=5) rfl ?_); refine bx 5 #[.int .i64 0, .int .i64 0, .int .i64 0, .int .i64 0, .int .i64 0, .int .i64 0, .string (⟨#[]⟩ : ByteArray), .slice none 0 0, .int .i64 0, .int .i64 0, .int .i64 0] 64 (h := ?_); intro gb261 hg w15 hbox hb; have BK261:=Zz.k (hbox); have GW261:=bz HB hg; have GE261:=bz HB hg; replace HO_3:=rb HO_3 hb; replace HB:=bs HB hb; clear hb hbox hg; obtain ⟨_,_,_,_,_,_,_,_,_,_,_,_,_,_,_,_,_,_,_,_,_,_⟩:=kc11 BK261) | (go_at_call 62; (with_reducible refine (tree_Find.calls _ _ l0 ((Qad l0 x12_1).f6) ((Qad l0 x12_1).f7) t262 _ ?side1 ?side2 A10.out).mono ?_); (case side1 => exact Kd.C_below HR0.out (bw HB)); (case side2 => exact HC0.out); rintro e w17 ⟨rfl,hb⟩; replace HO_3:=Zz.k (Kd.R_below (by (with_reducible repeat (first | apply Kd.R_alloc | apply Kd.R_drewN | apply Kd.R_drew)); exact (Kd.R_mono (rf11 (Kd.R_types HO_3.out BK261.out (by decide))) (fun _ h_ => h_.1))) hb); replace BK261:=Zz.k (Qcz (bp11 (kk BK261)) hb); replace HB:=bs HB hb; clear hb; obtain ⟨_,_,_,_,_,_,_,_,_,_,_,_,_,_,_,_,_,_,_,_,_,_⟩:=kc11 BK261; obtain ⟨Ao19,co19,eo19⟩:=Kd.R_slice HO_3.out; subst eo19; have p263 : 0 <= (t262 : Int):=od; have q263 : t262 < (x3_1.length : Int):=od; obtain ⟨ad263,e263,hx263_0⟩:=Kd.at_int (Kd.R_reads' HO_3.out).2.2 t262 p263 q263; cases e263; replace p263:=eq_true p263; replace q263:=eq_true q263; have p264 : 0 <= (t262 : Int):=od; have q264 : t262 < (x3_1.length : Int):=od; obtain ⟨ad264,e264,hx264_0⟩:=Kd.at_int (Kd.R_reads' HO_3.out).2.2 t262 p264 q264; obtain rfl : ad263 = ad264:=(by injection e264); replace p264:=eq_true p264; replace q264:=eq_true q264; have p14 : 0 <= (t262 : Int):=od; have q14 : (t262 : Int) < ((x3_1.length : Int) : Int):=od; obtain ⟨go14,co14,eo14,gb14,gl14,cl14,HG14⟩:=Kd.R_form HO_3.out (by omega); (first | cases eo14 | (injection eo14 with ea_ en_ ec_; (first | subst ea_ | (injection ea_ with ea_; subst ea_)); subst ec_; clear en_)); have GB14:=Zz.k gb14; have GG14:=Zz.k HG14; clear gb14 gl14 HG14; (first | simp only [Qct] at hx263_0 | skip); (first | simp only [Qct] at hx264_0 | skip); obtain ⟨hx14_0,hf14_0⟩:=Kd.R_celln 0 HO_3.out (t262 : Int) p14 q14; replace p14:=eq_true p14; replace q14:=eq_true q14; obtain ⟨hy20_,hz20_⟩:=Kd.R_celln 0 HO_3.out (t262 : Int) (od) (od); have HP20:=Kd.R_putg HO_3.out (t262 : Int) (wrap64 ((rd x3_1 t262) + 1))) | ((with_reducible refine gate_store (t:=3) (p:=37) rfl ?_); (try (rw [drewN_self w17]; generalize hq_ : World.drewN w17 _ = w17; have n0_:=Zz.k (Kd.R_at hq_ HO_3.out); have n1_:=Zz.k (blk_at hq_ BK261.out); have n2_:=Zz.k (below_at hq_ HB.out); clear hq_ HO_3 BK261 HB; have HO_3:=n0_; have BK261:=n1_; have HB:=n2_; clear n0_ n1_ n2_; (try (obtain ⟨hy20_,hz20_⟩:=Kd.R_celln 0 HO_3.out (t262 : Int) (od) (od))); (try (have HP20:=Kd.R_putg HO_3.out (t262 : Int) (wrap64 ((rd x3_1 t262) + 1)))))); refine Qdd (t:=3) (p:=37) (v := ?vo_w21) (w1:=(w17.setCell ⟨go14,(t262 : Int).toNat,none⟩ (.int .i64 (wrap64 ((rd x3_1 t262) + 1))))) ?hg ?ho ?hn ?hr ?_; (case ho => rfl); (case hg => rfl); (case hn => rfl); (case hr => first | (go_simp; done) | (go_simp; rfl)); intro w21 hw; have hg : w17.grownBy w21 (some go14):=(by rw [hw]; exact HP20.2); have hp_ : Kd.R (Kd.int .i64) 3 w21 w.heap.size (fun _ => True) (.slice (some ⟨go14,0,none⟩) x3_1.length co19) y265:=(by rw [hw,Ny265.out]; exact HP20.1); clear HP20; replace BK261:=Zz.k (Qcm (kk BK261) hg (Kd.R_ne HO_3.out BK261.out (by decide))); replace HO_3:=Zz.k (hp_); replace HB:=Zz.k ((by rw [hw]; exact Qbw (HB.out) GB14.out : Below w.heap.size w w21)); clear hg hw hp_)); try go_wp2_with (first | ((with_reducible refine Qaf (N:=5) rfl ?_); refine bx 5 #[.int .i64 0, .int .i64 0, .int .i64 0, .int .i64 0, .int .i64 0, .int .i64 0, .string (⟨#[]⟩ : ByteArray), .slice none 0 0, .int .i64 0, .int .i64 0, .int .i64 0] 64 (h := ?_); intro gb261 hg w15 hbox hb; have BK261:=Zz.k (hbox); have GW261:=bz HB hg; have GE261:=bz HB hg; replace HO_3:=rb HO_3 hb; replace HB:=bs HB hb; clear hb hbox hg; obtain ⟨_,_,_,_,_,_,_,_,_,_,_,_,_,_,_,_,_,_,_,_,_,_⟩:=kc11 BK261) | (go_at_call 62; (with_reducible refine (tree_Find.calls _ _ l0 ((Qad l0 x12_1).f6) ((Qad l0 x12_1).f7) t262 _ ?side1 ?side2 A10.out).mono ?_); (case side1 => exact Kd.C_below HR0.out (bw HB)); (case side2 => exact HC0.out); rintro e w17 ⟨rfl,hb⟩; replace HO_3:=Zz.k (Kd.R_below (by (with_reducible repeat (first | apply Kd.R_alloc | apply Kd.R_drewN | apply Kd.R_drew)); exact (Kd.R_mono (rf11 (Kd.R_types HO_3.out BK261.out (by decide))) (fun _ h_ => h_.1))) hb); replace BK261:=Zz.k (Qcz (bp11 (kk BK261)) hb); replace HB:=bs HB hb; clear hb; obtain ⟨_,_,_,_,_,_,_,_,_,_,_,_,_,_,_,_,_,_,_,_,_,_⟩:=kc11 BK261; obtain ⟨Ao19,co19,eo19⟩:=Kd.R_slice HO_3.out; subst eo19; have p263 : 0 <= (t262 : Int):=od; have q263 : t262 < (x3_1.length : Int):=od; obtain ⟨ad263,e263,hx263_0⟩:=Kd.at_int (Kd.R_reads' HO_3.out).2.2 t262 p263 q263; cases e263; replace p263:=eq_true p263; replace q263:=eq_true q263; have p264 : 0 <= (t262 : Int):=od; have q264 : t262 < (x3_1.length : Int):=od; obtain ⟨ad264,e264,hx264_0⟩:=Kd.at_int (Kd.R_reads' HO_3.out).2.2 t262 p264 q264; obtain rfl : ad263 = ad264:=(by injection e264); replace p264:=eq_true p264; replace q264:=eq_true q264; have p14 : 0 <= (t262 : Int):=od; have q14 : (t262 : Int) < ((x3_1.length : Int) : Int):=od; obtain ⟨go14,co14,eo14,gb14,gl14,cl14,HG14⟩:=Kd.R_form HO_3.out (by omega); (first | cases eo14 | (injection eo14 with ea_ en_ ec_; (first | subst ea_ | (injection ea_ with ea_; subst ea_)); subst ec_; clear en_)); have GB14:=Zz.k gb14; have GG14:=Zz.k HG14; clear gb14 gl14 HG14; (first | simp only [Qct] at hx263_0 | skip); (first | simp only [Qct] at hx264_0 | skip); obtain ⟨hx14_0,hf14_0⟩:=Kd.R_celln 0 HO_3.out (t262 : Int) p14 q14; replace p14:=eq_true p14; replace q14:=eq_true q14; obtain ⟨hy20_,hz20_⟩:=Kd.R_celln 0 HO_3.out (t262 : Int) (od) (od); have HP20:=Kd.R_putg HO_3.out (t262 : Int) (wrap64 ((rd x3_1 t262) + 1))) | ((with_reducible refine gate_store (t:=3) (p:=37) rfl ?_); (try (rw [drewN_self w17]; generalize hq_ : World.drewN w17 _ = w17; have n0_:=Zz.k (Kd.R_at hq_ HO_3.out); have n1_:=Zz.k (blk_at hq_ BK261.out); have n2_:=Zz.k (below_at hq_ HB.out); clear hq_ HO_3 BK261 HB; have HO_3:=n0_; have BK261:=n1_; have HB:=n2_; clear n0_ n1_ n2_; (try (obtain ⟨hy20_,hz20_⟩:=Kd.R_celln 0 HO_3.out (t262 : Int) (od) (od))); (try (have HP20:=Kd.R_putg HO_3.out (t262 : Int) (wrap64 ((rd x3_1 t262) + 1)))))); refine Qdd (t:=3) (p:=37) (v := ?vo_w21) (w1:=(w17.setCell ⟨go14,(t262 : Int).toNat,none⟩ (.int .i64 (wrap64 ((rd x3_1 t262) + 1))))) ?hg ?ho ?hn ?hr ?_; (case ho => rfl); (case hg => rfl); (case hn => rfl); (case hr => first | (go_simp; done) | (go_simp; rfl)); intro w21 hw; have hg : w17.grownBy w21 (some go14):=(by rw [hw]; exact HP20.2); have hp_ : Kd.R (Kd.int .i64) 3 w21 w.heap.size (fun _ => True) (.slice (some ⟨go14,0,none⟩) x3_1.length co19) y265:=(by rw [hw,Ny265.out]; exact HP20.1); clear HP20; replace BK261:=Zz.k (Qcm (kk BK261) hg (Kd.R_ne HO_3.out BK261.out (by decide))); replace HO_3:=Zz.k (hp_); replace HB:=Zz.k ((by rw [hw]; exact Qbw (HB.out) GB14.out : Below w.heap.size w w21)); clear hg hw hp_)))
   go_roundg k1
   case measure => have:=HK1.out; omega
   case rel => exact ⟨(y265),(wrap64 (x12_1 + 1)),rf,H',⟨by have:=HK1.out; omega⟩,⟨rk HO_3⟩,⟨bw HB⟩⟩
def doc_Works.l0 : Nat -> List (SOp) -> List Bool -> List Int -> Int -> Int -> Option (List Bool)
 | 0,_,_,_,_,_ => none
 | k + 1,x0,x3,x10,x11,x12 => if x12 < x11 then (if 0 <= x12 then (if x12 < (x10.length : Int) then (if x12 < (x0.length : Int) then (if ((Qad x0 x12).f2) = 1 then (if x12 < (x3.length : Int) then (doc_Works.l0 k x0 (x3.set (x12 : Int).toNat ((Int.tmod (rd x10 x12) 2) == 0)) x10 x11 (wrap64 (x12 + 1))) else (none)) else (if x12 < (x3.length : Int) then (doc_Works.l0 k x0 (x3.set (x12 : Int).toNat false) x10 x11 (wrap64 (x12 + 1))) else (none))) else (none)) else (none)) else (none)) else (some x3)
def doc_Works.f (k : Nat) (l0 : List (SOp)) : Option (List Bool):=if 0 <= (l0.length : Int) then (if ((l0.length : Int) : Int).toNat <= 281474976710656 then ((doc_Counts.f k l0).bind fun t269 => (doc_Works.l0 k l0 (List.replicate ((l0.length : Int) : Int).toNat false) t269 (t269.length : Int) 0)) else (none)) else (none)
theorem doc_Works.calls (k : Nat) (A0 : Option Addr) (c0 : Nat) (l0 : List (SOp)) (r : List Bool) (w : World) (hr0 : Kd.C kOp w A0 l0.length l0) (hc0 : l0.length <= c0) (h : doc_Works.f k l0 = some r) :
  Calls Tryz.prog 69 #[.slice A0 l0.length c0] w fun e w' => ∃ v0_ : Value,e = .returned (v0_) /\ Kd.R Kd.bool 4 w' w.heap.size (fun _ => True) v0_ r /\ Below w.heap.size w w':=by
 have HR0:=Zz.k hr0
 have HC0:=Zz.k hc0
 clear hr0 hc0
 have HB:=Zz.k (Below.refl w.heap.size w)
 unfold doc_Works.f at h; have H:=h
 clear h
 by_cases c2 : 0 <= (l0.length : Int); rotate_left
 ·rw [if_neg c2] at H
  exact absurd H (by simp)
 rw [if_pos c2] at H
 have c2b0:=eq_true c2
 have c2b1:=Zd c2
 clear c2
 by_cases c3 : ((l0.length : Int) : Int).toNat <= 281474976710656; rotate_left
 ·rw [if_neg c3] at H
  exact absurd H (by simp)
 rw [if_pos c3] at H
 have c3b0:=eq_true c3
 have c3b1:=Zd c3
 clear c3
 obtain ⟨y266,hy266⟩ : ∃ y_ : List Bool,y_ = (List.replicate ((l0.length : Int) : Int).toNat false):=⟨_,rfl⟩
 first | rw [Option.bind_some,<- hy266] at H | rw [<- hy266] at H
 have Ny266:=Zz.k hy266
 clear hy266
 obtain ⟨t269,A4,H⟩:=bE H
 have H':=Zz.k H
 clear H
 go_enter Tryz.func69,Tryz.ntmps69
 go_wp2_with (first | ((with_reducible refine Qaf (N:=8) rfl ?_); refine Kd.R_make Kd.bool _ 4 rfl (N:=8) rfl 78 _ _ rfl (l0.length : Int) rfl rfl Tryz.underlying78 (.bool false) 1 info4 rfl (by decide) (by omega) false (ok:=fun _ => True) (okp:=fun _ => True) rfl (fun _ hk => hk) trivial (od) (Nat.le_trans (Nat.mul_le_mul_right _ (od : (l0.length : Int).toNat <= 281474976710656)) (by omega)) (Below.refl _ _) (Nat.le_refl _) ?_; intro v267 w5 ho6 hb hg_ hnew_; clear hg_ hnew_; (first | rw [<- Ny266.out] at ho6 | (simp only [Int.reduceToNat] at ho6; rw [<- Ny266.out] at ho6)); have HO268:=Zz.k (Kd.R_lower ho6 (Qaj (bw HB))); replace HB:=bs HB hb; clear hb ho6) | ((with_reducible refine Qac (f:=56) rfl ?_); refine gl (some 10) Tryz.func56 #[.slice A0 l0.length c0] (h := ?_); (with_reducible refine (doc_Counts.calls k _ _ l0 t269 _ ?side1 ?side2 A4.out).mono ?_); (case side1 => exact cb HR0 HB); (case side2 => exact HC0.out); rintro e w7 ⟨v270,rfl,ho0,hb⟩; refine ⟨_,rfl, ?_⟩; have HO271:=Zz.k (Kd.R_lower ho0 (Qaj (bw HB))); replace HO268:=rb HO268 hb; replace HB:=bs HB hb; clear hb; clear ho0; obtain ⟨Ao8,co8,eo8⟩:=Kd.R_slice HO271.out; subst eo8))
 go_loopg [12] k (fun kq v12 w' => ∃ (x3_1 : List Bool) (x12_1 : Int),v12 = .int .i64 x12_1 /\ Zz (doc_Works.l0 kq l0 x3_1 t269 (t269.length : Int) x12_1 = some r) /\ Zz (kq <= k) /\ Zz (Kd.R Kd.bool 4 w' w.heap.size (fun _ => True) v267 x3_1) /\ Zz (Kd.R (Kd.int .i64) 3 w' w.heap.size (fun _ => True) (.slice Ao8 t269.length co8) t269) /\ Zz (Below w.heap.size w w'))
 case atStart => exact ⟨(y266),(0),rf,H',⟨Nat.le_refl _⟩,⟨rk HO268⟩,⟨rk HO271⟩,⟨bw HB⟩⟩
 case round =>
  clear H'
  try clear c2b0; try clear c2b1; try clear c3b0; try clear c3b1
  obtain ⟨x3_1,x12_1,rfl,HA,HK1,HO_3,HO_10,HB⟩:=hrel
  cases gk with
  | zero => exact absurd HA.out (by simp [doc_Works.l0])
  | succ k1 =>
   have H:=HA.out
   clear HA
   simp only [doc_Works.l0] at H
   by_cases c9 : x12_1 < (t269.length : Int); rotate_left
   ·rw [if_neg c9] at H
    have c9b0:=Ze c9
    clear c9
    obtain rfl:=Zo H
    go_wp2
    go_ret
    exact ⟨_,re,by (with_reducible repeat (first | apply Kd.R_alloc | apply Kd.R_drewN | apply Kd.R_drew)); exact HO_3.out,bw HB⟩
   rw [if_pos c9] at H
   have c9b0:=Zd c9
   clear c9
   by_cases c10 : 0 <= x12_1; rotate_left
   ·rw [if_neg c10] at H
    exact absurd H (by simp)
   rw [if_pos c10] at H
   have c10b0:=Zd c10
   clear c10
   by_cases c11 : x12_1 < (t269.length : Int); rotate_left
   ·rw [if_neg c11] at H
    exact absurd H (by simp)
   rw [if_pos c11] at H
   have c11b0:=Zd c11
   clear c11
   by_cases c12 : x12_1 < (l0.length : Int); rotate_left
   ·rw [if_neg c12] at H
    exact absurd H (by simp)
   rw [if_pos c12] at H
   have c12b0:=Zd c12
   clear c12
   by_cases c13 : ((Qad l0 x12_1).f2) = 1
   ·rw [if_pos c13] at H
    obtain ⟨c13b0,c13b1⟩:=bT c13
    clear c13
    by_cases c14 : x12_1 < (x3_1.length : Int); rotate_left
    ·rw [if_neg c14] at H
     exact absurd H (by simp)
    rw [if_pos c14] at H
    have c14b0:=Zd c14
    clear c14
    obtain ⟨y274,hy274⟩ : ∃ y_ : List Bool,y_ = (x3_1.set (x12_1 : Int).toNat ((Int.tmod (rd t269 x12_1) 2) == 0)):=⟨_,rfl⟩
    first | rw [Option.bind_some,<- hy274] at H | rw [<- hy274] at H
    have Ny274:=Zz.k hy274
    clear hy274
    have H':=Zz.k H
    clear H
    have p272 : 0 <= (x12_1 : Int):=od
    have q272 : x12_1 < (t269.length : Int):=od
    obtain ⟨ad272,e272,hx272_0⟩:=Kd.at_int (Kd.R_reads' HO_10.out).2.2 x12_1 p272 q272
    cases e272
    replace p272:=eq_true p272
    replace q272:=eq_true q272
    have p273 : 0 <= (x12_1 : Int):=od
    have q273 : x12_1 < (l0.length : Int):=od
    obtain ⟨ad273,A273_7,c273_7,e273,hx273_0,hx273_1,hx273_2,hx273_3,hx273_4,hx273_5,hx273_6,hx273_7,hx273_8,hx273_9,hx273_10,hl273_7,hi273_7⟩:=Qby HR0.out x12_1 p273 q273
    cases e273
    replace hx273_0:=cl HB hx273_0
    replace hx273_1:=cl HB hx273_1
    replace hx273_2:=cl HB hx273_2
    replace hx273_3:=cl HB hx273_3
    replace hx273_4:=cl HB hx273_4
    replace hx273_5:=cl HB hx273_5
    replace hx273_6:=cl HB hx273_6
    replace hx273_7:=cl HB hx273_7
    replace hx273_8:=cl HB hx273_8
    replace hx273_9:=cl HB hx273_9
    replace hx273_10:=cl HB hx273_10
    have HR273_7:=Zz.k hi273_7
    have HC273_7:=Zz.k hl273_7
    clear hi273_7 hl273_7
    replace p273:=eq_true p273
    replace q273:=eq_true q273
    have p15 : 0 <= (x12_1 : Int):=od
    have q15 : (x12_1 : Int) < ((x3_1.length : Int) : Int):=od
    obtain ⟨go15,co15,eo15,gb15,gl15,cl15,HG15⟩:=Kd.R_form HO_3.out (by omega)
    (first | cases eo15 | (injection eo15 with ea_ en_ ec_; (first | subst ea_ | (injection ea_ with ea_; subst ea_)); subst ec_; clear en_))
    have GB15:=Zz.k gb15
    have GG15:=Zz.k HG15
    clear gb15 gl15 HG15
    obtain ⟨hx15_0,hf15_0⟩:=Kd.R_celln false HO_3.out (x12_1 : Int) p15 q15
    replace p15:=eq_true p15
    replace q15:=eq_true q15
    have HP16:=Kd.R_putg HO_3.out (x12_1 : Int) ((Int.tmod (rd t269 x12_1) 2) == 0)
    go_wp2_with (first | ((with_reducible refine gate_store (t:=4) (p:=30) rfl ?_); refine Qdd (t:=4) (p:=30) (v := ?vo_w17) (w1:=(wr.setCell ⟨go15,(x12_1 : Int).toNat,none⟩ (.bool ((Int.tmod (rd t269 x12_1) 2) == 0)))) ?hg ?ho ?hn ?hr ?_; (case ho => rfl); (case hg => rfl); (case hn => rfl); (case hr => first | (go_simp; done) | (go_simp; rfl)); intro w17 hw; have hg : wr.grownBy w17 (some go15):=(by rw [hw]; exact HP16.2); have hp_ : Kd.R Kd.bool 4 w17 w.heap.size (fun _ => True) (.slice (some ⟨go15,0,none⟩) x3_1.length co15) y274:=(by rw [hw,Ny274.out]; exact HP16.1); clear HP16; replace HO_10:=Zz.k (Kd.R_over' (v:=(.slice (some ⟨go15,0,none⟩) x3_1.length co15)) (rk HO_10) (Kd.R_typed HO_3.out) (by decide) hg); replace HO_3:=Zz.k (hp_); replace HB:=Zz.k ((by rw [hw]; exact Qbw (HB.out) GB15.out : Below w.heap.size w w17)); clear hg hw hp_))
    go_roundg k1
    case measure => have:=HK1.out; omega
    case rel => exact ⟨(y274),(wrap64 (x12_1 + 1)),rf,H',⟨by have:=HK1.out; omega⟩,⟨rk HO_3⟩,⟨rk HO_10⟩,⟨bw HB⟩⟩
   rw [if_neg c13] at H
   obtain ⟨c13b0,c13b1⟩:=bF c13
   by_cases c18 : x12_1 < (x3_1.length : Int); rotate_left
   ·rw [if_neg c18] at H
    exact absurd H (by simp)
   rw [if_pos c18] at H
   have c18b0:=Zd c18
   clear c18
   obtain ⟨y275,hy275⟩ : ∃ y_ : List Bool,y_ = (x3_1.set (x12_1 : Int).toNat false):=⟨_,rfl⟩
   first | rw [Option.bind_some,<- hy275] at H | rw [<- hy275] at H
   have Ny275:=Zz.k hy275
   clear hy275
   have H':=Zz.k H
   clear H
   have p272 : 0 <= (x12_1 : Int):=od
   have q272 : x12_1 < (t269.length : Int):=od
   obtain ⟨ad272,e272,hx272_0⟩:=Kd.at_int (Kd.R_reads' HO_10.out).2.2 x12_1 p272 q272
   cases e272
   replace p272:=eq_true p272
   replace q272:=eq_true q272
   have p273 : 0 <= (x12_1 : Int):=od
   have q273 : x12_1 < (l0.length : Int):=od
   obtain ⟨ad273,A273_7,c273_7,e273,hx273_0,hx273_1,hx273_2,hx273_3,hx273_4,hx273_5,hx273_6,hx273_7,hx273_8,hx273_9,hx273_10,hl273_7,hi273_7⟩:=Qby HR0.out x12_1 p273 q273
   cases e273
   replace hx273_0:=cl HB hx273_0
   replace hx273_1:=cl HB hx273_1
   replace hx273_2:=cl HB hx273_2
   replace hx273_3:=cl HB hx273_3
   replace hx273_4:=cl HB hx273_4
   replace hx273_5:=cl HB hx273_5
   replace hx273_6:=cl HB hx273_6
   replace hx273_7:=cl HB hx273_7
   replace hx273_8:=cl HB hx273_8
   replace hx273_9:=cl HB hx273_9
   replace hx273_10:=cl HB hx273_10
   have HR273_7:=Zz.k hi273_7
   have HC273_7:=Zz.k hl273_7
   clear hi273_7 hl273_7
   replace p273:=eq_true p273
   replace q273:=eq_true q273
   have p19 : 0 <= (x12_1 : Int):=od
   have q19 : (x12_1 : Int) < ((x3_1.length : Int) : Int):=od
   obtain ⟨go19,co19,eo19,gb19,gl19,cl19,HG19⟩:=Kd.R_form HO_3.out (by omega)
   (first | cases eo19 | (injection eo19 with ea_ en_ ec_; (first | subst ea_ | (injection ea_ with ea_; subst ea_)); subst ec_; clear en_))
   have GB19:=Zz.k gb19
   have GG19:=Zz.k HG19
   clear gb19 gl19 HG19
   obtain ⟨hx19_0,hf19_0⟩:=Kd.R_celln false HO_3.out (x12_1 : Int) p19 q19
   replace p19:=eq_true p19
   replace q19:=eq_true q19
   have HP20:=Kd.R_putg HO_3.out (x12_1 : Int) false
   go_wp2_with (first | ((with_reducible refine gate_store (t:=4) (p:=30) rfl ?_); refine Qdd (t:=4) (p:=30) (v := ?vo_w21) (w1:=(wr.setCell ⟨go19,(x12_1 : Int).toNat,none⟩ (.bool false))) ?hg ?ho ?hn ?hr ?_; (case ho => rfl); (case hg => rfl); (case hn => rfl); (case hr => first | (go_simp; done) | (go_simp; rfl)); intro w21 hw; have hg : wr.grownBy w21 (some go19):=(by rw [hw]; exact HP20.2); have hp_ : Kd.R Kd.bool 4 w21 w.heap.size (fun _ => True) (.slice (some ⟨go19,0,none⟩) x3_1.length co19) y275:=(by rw [hw,Ny275.out]; exact HP20.1); clear HP20; replace HO_10:=Zz.k (Kd.R_over' (v:=(.slice (some ⟨go19,0,none⟩) x3_1.length co19)) (rk HO_10) (Kd.R_typed HO_3.out) (by decide) hg); replace HO_3:=Zz.k (hp_); replace HB:=Zz.k ((by rw [hw]; exact Qbw (HB.out) GB19.out : Below w.heap.size w w21)); clear hg hw hp_))
   go_roundg k1
   case measure => have:=HK1.out; omega
   case rel => exact ⟨(y275),(wrap64 (x12_1 + 1)),rf,H',⟨by have:=HK1.out; omega⟩,⟨rk HO_3⟩,⟨rk HO_10⟩,⟨bw HB⟩⟩
def op_All.l0 : Nat -> List (SElem) -> Int -> Int -> Int -> Int -> Int -> Int -> Int -> Int -> ByteArray -> List (SElem) -> Int -> Int -> Int -> Option ((List (SElem)))
 | 0,_,_,_,_,_,_,_,_,_,_,_,_,_,_ => none
 | k + 1,x2,x5,x6,x277000,x277001,x277002,x277003,x277004,x277005,x277006,x277007,x277008,x277009,x277010 => if x6 < x5 then ((op_At.f x277000 x277001 x277002 x277003 x277004 x277005 x277006 x277007 x277008 x277009 x277010 x6).bind fun bt278 => (if x2.length < 5864062014805 then (op_All.l0 k (x2 ++ [(⟨bt278.1,bt278.2.1,bt278.2.2⟩ : SElem)]) x5 (wrap64 (x6 + 1)) x277000 x277001 x277002 x277003 x277004 x277005 x277006 x277007 x277008 x277009 x277010) else (none))) else (some x2)
def op_All.f (k : Nat) (a0_0 : Int) (a0_1 : Int) (a0_2 : Int) (a0_3 : Int) (a0_4 : Int) (a0_5 : Int) (a0_6 : ByteArray) (l0_7 : List (SElem)) (a0_8 : Int) (a0_9 : Int) (a0_10 : Int) : Option ((List (SElem))):=(op_Size.f a0_0 a0_1 a0_2 a0_3 a0_4 a0_5 a0_6 l0_7 a0_8 a0_9 a0_10).bind fun t277 => (op_All.l0 k ([] : List (SElem)) t277 0 a0_0 a0_1 a0_2 a0_3 a0_4 a0_5 a0_6 l0_7 a0_8 a0_9 a0_10)
theorem op_All.calls (k : Nat) (a0_0 : Int) (a0_1 : Int) (a0_2 : Int) (a0_3 : Int) (a0_4 : Int) (a0_5 : Int) (a0_6 : ByteArray) (A0_7 : Option Addr) (c0_7 : Nat) (l0_7 : List (SElem)) (a0_8 : Int) (a0_9 : Int) (a0_10 : Int) (r : List (SElem)) (w : World) (hr0_7 : Kd.C Qao w A0_7 l0_7.length l0_7) (hc0_7 : l0_7.length <= c0_7) (h : op_All.f k a0_0 a0_1 a0_2 a0_3 a0_4 a0_5 a0_6 l0_7 a0_8 a0_9 a0_10 = some r) :
  Calls Tryz.prog 70 #[.agg #[.int .i64 a0_0, .int .i64 a0_1, .int .i64 a0_2, .int .i64 a0_3, .int .i64 a0_4, .int .i64 a0_5, .string a0_6, .slice A0_7 l0_7.length c0_7, .int .i64 a0_8, .int .i64 a0_9, .int .i64 a0_10]] w fun e w' => ∃ v0_ : Value,e = .returned (v0_) /\ Kd.R Qao 32 w' w.heap.size (fun _ => True) v0_ r /\ Below w.heap.size w w':=by
 have hu64:=Tryz.underlying64
 have HR0_7:=Zz.k hr0_7
 have HC0_7:=Zz.k hc0_7
 clear hr0_7 hc0_7
 have HB:=Zz.k (Below.refl w.heap.size w)
 unfold op_All.f at h; have H:=h
 clear h
 obtain ⟨t277,A2,H⟩:=bE H
 have H':=Zz.k H
 clear H
 go_enter Tryz.func70,Tryz.ntmps70
 go_wp2_with (first | ((with_reducible refine Qaf (N:=1) rfl ?_); refine bx 1 #[.int .i64 a0_0, .int .i64 a0_1, .int .i64 a0_2, .int .i64 a0_3, .int .i64 a0_4, .int .i64 a0_5, .string a0_6, .slice A0_7 l0_7.length c0_7, .int .i64 a0_8, .int .i64 a0_9, .int .i64 a0_10] 64 (h := ?_); intro gb276 hg w3 hbox hb; have BK276:=Zz.k (hbox); have GW276:=bz HB hg; have GE276:=bz HB hg; replace HB:=bs HB hb; clear hb hbox hg; obtain ⟨_,_,_,_,_,_,_,_,_,_,_,_,_,_,_,_,_,_,_,_,_,_⟩:=kc11 BK276) | ((with_reducible refine Qac (f:=78) rfl ?_); refine gl (some 5) Tryz.func78 #[.agg #[.int .i64 a0_0, .int .i64 a0_1, .int .i64 a0_2, .int .i64 a0_3, .int .i64 a0_4, .int .i64 a0_5, .string a0_6, .slice A0_7 l0_7.length c0_7, .int .i64 a0_8, .int .i64 a0_9, .int .i64 a0_10]] (h := ?_); (with_reducible refine (op_Size.calls a0_0 a0_1 a0_2 a0_3 a0_4 a0_5 a0_6 _ _ l0_7 a0_8 a0_9 a0_10 t277 _ ?side1 ?side2 A2.out).mono ?_); (case side1 => exact cb HR0_7 HB); (case side2 => exact HC0_7.out); rintro e w5 ⟨rfl,hb⟩; refine ⟨_,rfl, ?_⟩; replace BK276:=bl BK276 hb; replace HB:=bs HB hb; clear hb))
 go_loopg [2,6] k (fun kq v2 v6 w' => ∃ (x2_1 : List (SElem)) (x6_1 : Int),v6 = .int .i64 x6_1 /\ Zz (op_All.l0 kq x2_1 t277 x6_1 a0_0 a0_1 a0_2 a0_3 a0_4 a0_5 a0_6 l0_7 a0_8 a0_9 a0_10 = some r) /\ Zz (kq <= k) /\ Zz (Kd.R Qao 32 w' w.heap.size (fun _ => True) v2 x2_1) /\ Zz (w'.heap[gb276]? = some (.cells #[.int .i64 a0_0, .int .i64 a0_1, .int .i64 a0_2, .int .i64 a0_3, .int .i64 a0_4, .int .i64 a0_5, .string a0_6,(.slice A0_7 l0_7.length c0_7), .int .i64 a0_8, .int .i64 a0_9, .int .i64 a0_10] 64 (0,0))) /\ Zz (Below w.heap.size w w'))
 case atStart => exact ⟨(([] : List (SElem))),(0),rf,H',⟨Nat.le_refl _⟩,⟨by first | exact Kd.R_nil _ _ _ _ _ | exact Kd.N_nil _ _ _ _ _ | exact Kd.V_nil _ _ _ _ _ | exact Kd.Q_nil _ _ _ _ _ | exact Kd.S_nil _ _ _ _ _⟩,⟨kk BK276⟩,⟨bw HB⟩⟩
 case round =>
  clear H'
  obtain ⟨x2_1,x6_1,rfl,HA,HK1,HO_2,BK276,HB⟩:=hrel
  cases gk with
  | zero => exact absurd HA.out (by simp [op_All.l0])
  | succ k1 =>
   have H:=HA.out
   clear HA
   simp only [op_All.l0] at H
   by_cases c6 : x6_1 < t277; rotate_left
   ·rw [if_neg c6] at H
    have c6b0:=Ze c6
    clear c6
    obtain rfl:=Zo H
    go_wp2
    go_ret
    exact ⟨_,re,by (with_reducible repeat (first | apply Kd.R_alloc | apply Kd.R_drewN | apply Kd.R_drew)); exact HO_2.out,bw HB⟩
   rw [if_pos c6] at H
   have c6b0:=Zd c6
   clear c6
   obtain ⟨⟨t278,t279,t280⟩,A7,H⟩:=bE H
   try dsimp only at H
   by_cases c8 : x2_1.length < 5864062014805; rotate_left
   ·rw [if_neg c8] at H
    exact absurd H (by simp)
   rw [if_pos c8] at H
   have LMc8:=Zz.k c8
   clear c8
   obtain ⟨y281,hy281⟩ : ∃ y_ : List (SElem),y_ = (x2_1 ++ [(⟨t278,t279,t280⟩ : SElem)]):=⟨_,rfl⟩
   first | rw [Option.bind_some,<- hy281] at H | rw [<- hy281] at H
   have Ny281:=Zz.k hy281
   clear hy281
   have H':=Zz.k H
   clear H
   obtain ⟨_,_,_,_,_,_,_,_,_,_,_,_,_,_,_,_,_,_,_,_,_,_⟩:=kc11 BK276
   go_wp2_with (first | ((with_reducible refine Qac (f:=92) rfl ?_); refine gl (some 12) Tryz.func92 #[.agg #[.int .i64 a0_0, .int .i64 a0_1, .int .i64 a0_2, .int .i64 a0_3, .int .i64 a0_4, .int .i64 a0_5, .string a0_6, .slice A0_7 l0_7.length c0_7, .int .i64 a0_8, .int .i64 a0_9, .int .i64 a0_10], .int .i64 x6_1] (h := ?_); (with_reducible refine (op_At.calls a0_0 a0_1 a0_2 a0_3 a0_4 a0_5 a0_6 _ _ l0_7 a0_8 a0_9 a0_10 x6_1 t278 t279 t280 _ ?side1 ?side2 A7.out).mono ?_); (case side1 => exact cb HR0_7 HB); (case side2 => exact HC0_7.out); rintro e w10 ⟨rfl,hb⟩; refine ⟨_,rfl, ?_⟩; replace HO_2:=rb HO_2 hb; replace BK276:=bl BK276 hb; replace HB:=bs HB hb; clear hb) | ((with_reducible refine Qbs (b:=.append) (xs:=#[.tmp 9, .tmp 13]) rfl ?_); at_builtin; refine Kd.R_append Qao (w0:=w) w.heap.size rfl (.tmp 9) (.tmp 13) 23 32 (.agg #[(.int .i64 0),(.int .i64 0),(.int .i64 0)]) 24 rfl Tryz.underlying23 info32 rfl (by decide) (by omega) u2 x2_1 (⟨t278,t279,t280⟩ : SElem) [.int .i64 t278, .int .i64 t279, .int .i64 t280] (fun _ => True) (fun _ => False) rfl rfl ?aP (fun _ hk => hk.elim) ?aF ?aO ?aB ?aS ?aL ?_; (case aP => exact Qcc _ _ _ (⟨t278,t279,t280⟩ : SElem)); (case aB => exact (bw HB)); (case aF => exact (fun _ _ => trivial)); (case aO => exact (rk HO_2)); (case aS => exact (Qaj (bw HB))); (case aL => have:=LMc8.out; omega); intro v282 w11 ho hb hg hat; rw [<- Ny281.out] at ho; have n0_:=Zz.k (Qcm (kk BK276) hg (Kd.R_ne HO_2.out BK276.out (by decide))); have n1_:=Zz.k (hb); have n2_:=Zz.k (ho); clear BK276; clear HB; clear HO_2; have BK276:=n0_; have HB:=n1_; have HO283:=n2_; clear n0_ n1_ n2_; clear ho hb hg hat))
   go_roundg k1
   case measure => have:=HK1.out; omega
   case rel => exact ⟨(y281),(wrap64 (x6_1 + 1)),rf,H',⟨by have:=HK1.out; omega⟩,⟨rk HO283⟩,⟨kk BK276⟩,⟨bw HB⟩⟩
end
section
def InB (n : List Int) (b : Int) : Prop:=∀ x ∈ n,0 <= x /\ x <= b
theorem cstep_bound (l : List SOp) {n : List Int} {b : Int} (h : InB n b) (hb : 0 <= b) (o : SOp) : InB (cstep l n o) (b + 1):=by
 have hd : 0 <= n.getD (Qbb l o.f6 o.f7).toNat 0 /\ n.getD (Qbb l o.f6 o.f7).toNat 0 <= b:=by
  rw [List.getD_eq_getElem?_getD]
  cases hq : n[(Qbb l o.f6 o.f7).toNat]? with
  | none => exact ⟨Int.le_refl _,hb⟩
  | some y => exact h y (List.mem_of_getElem? hq)
 unfold cstep
 split
 ·split
  ·intro x hx
   rcases List.mem_or_eq_of_mem_set hx with hx | rfl
   ·have:=h x hx; omega
   ·omega
  ·intro x hx; have:=h x hx; omega
 ·intro x hx; have:=h x hx; omega
theorem tree_Find_f {l : List SOp} (hl : l.length <= 1000000) (a b : Int) : tree_Find.f l a b = some (Qbb l a b):=by unfold tree_Find.f; rw [if_pos (by omega)]
theorem Counts_loop {l : List SOp} (h : RowOk l) : ∀ d i,i + d = l.length -> ∀ n : List Int,n.length = l.length -> InB n (i : Int) -> (l.take i).foldl (cstep l) (List.replicate l.length 0) = n -> Ev (fun k => doc_Counts.l0 k l n l (l.length : Int) (i : Int)) (Qcx l)
 | 0,i,hi,n,hn,hb,hf => by
  rw [List.take_of_length_le (by omega)] at hf
  have : Qcx l = n:=hf
  rw [this]
  refine Ev.step (f:=fun _ => some n) (fun k => ?_) (Ev.now _)
  simp only [doc_Counts.l0]
  rw [if_neg (by omega)]
 | d + 1,i,hi,n,hn,hb,hf => by
  have hlt : i < l.length:=by omega
  have h40:=h.sums.1
  have ih:=Counts_loop h d (i + 1) (by omega) (cstep l n l[i]) (by rw [cstep_length]; exact hn) (by have:=cstep_bound l hb (by omega) l[i]; simpa using this) (by
   rw [List.take_succ_eq_append_getElem hlt,List.foldl_append,hf]; rfl)
  refine Ev.step (fun k => ?_) ih
  simp only [doc_Counts.l0]
  rw [if_pos (by omega),if_pos (by omega),if_pos (by omega),Qam _ _ hlt,Qdc hlt (by omega)]
  by_cases h2 : l[i].f2 = 2
  ·obtain ⟨j,hj,_,_,_,e⟩:=tog_found h (List.getElem_mem hlt) h2
   have hd : 0 <= n.getD j 0 /\ n.getD j 0 <= (i : Int):=by
    rw [List.getD_eq_getElem?_getD]
    cases hq : n[j]? with
    | none => exact ⟨Int.le_refl _,by simp⟩
    | some y => exact hb y (List.mem_of_getElem? hq)
   rw [if_pos h2,tree_Find_f (by omega),Option.bind_some]
   unfold cstep
   rw [if_pos h2,e]
   rw [if_pos (by omega),if_pos (by omega)]
   have hrd : rd n (j : Int) = n.getD j 0:=by unfold rd; rw [Int.toNat_natCast]
   rw [hrd,Int.toNat_natCast,Qak (by omega) (by omega)]
   by_cases h8 : l[i].f8 = n.getD j 0
   ·rw [if_pos h8,if_pos h8]
   ·rw [if_neg h8,if_neg h8]
  ·rw [if_neg h2]
   unfold cstep
   rw [if_neg h2]
theorem Counts_ev {l : List SOp} (h : RowOk l) : Ev (fun k => doc_Counts.f k l) (Qcx l):=by
 have h40:=h.sums.1
 refine Ev.congr (fun k => ?_) (Counts_loop h l.length 0 (Nat.zero_add _) (List.replicate l.length 0) (by simp) (fun x hx => by rw [List.eq_of_mem_replicate hx]; exact ⟨Int.le_refl _,Int.le_refl _⟩) rfl)
 unfold doc_Counts.f
 rw [if_pos (by omega),if_pos (by omega),Int.toNat_natCast]
 rfl
theorem counts_bound {l : List SOp} : InB (Qcx l) (l.length : Int):=by
 have : ∀ i,i <= l.length -> InB ((l.take i).foldl (cstep l) (List.replicate l.length 0)) (i : Int):=by
  intro i
  induction i with
  | zero => intro _ x hx; rw [List.eq_of_mem_replicate hx]; exact ⟨Int.le_refl _,Int.le_refl _⟩
  | succ i ih =>
   intro hi
   rw [List.take_succ_eq_append_getElem (by omega),List.foldl_append]
   have:=cstep_bound l (ih (by omega)) (by omega) (l[i]'(by omega))
   simpa using this
 have:=this l.length (Nat.le_refl _)
 rwa [List.take_length] at this
def worksL (l : List SOp) : List Bool:=l.map (Qbr l)
theorem Works_loop {l : List SOp} (h : RowOk l) : ∀ d i,i + d = l.length -> Ev (fun k => doc_Works.l0 k l ((l.take i).map (Qbr l) ++ List.replicate (l.length - i) false) (Qcx l) (l.length : Int) (i : Int)) (worksL l)
 | 0,i,hi => by
  rw [List.take_of_length_le (by omega),show l.length - i = 0 by omega]
  simp only [List.replicate_zero,List.append_nil]
  refine Ev.step (f:=fun _ => some (worksL l)) (fun k => ?_) (Ev.now _)
  simp only [doc_Works.l0]
  rw [if_neg (by omega)]
  rfl
 | d + 1,i,hi => by
  have hlt : i < l.length:=by omega
  have h40:=h.sums.1
  have ih:=Works_loop h d (i + 1) (by omega)
  have hc:=counts_at h hlt
  have hcb : 0 <= (Qcx l).getD i 0:=by
   rw [List.getD_eq_getElem?_getD]
   cases hq : (Qcx l)[i]? with
   | none => exact Int.le_refl _
   | some y => exact (counts_bound y (List.mem_of_getElem? hq)).1
  have hset : ∀ b,b = Qbr l l[i] -> ((l.take i).map (Qbr l) ++ List.replicate (l.length - i) false).set i b = (l.take (i + 1)).map (Qbr l) ++ List.replicate (l.length - (i + 1)) false:=by
   intro b hb
   have hl : ((l.take i).map (Qbr l)).length = i:=by rw [List.length_map,List.length_take]; omega
   rw [List.set_append,if_neg (by omega),hl,Nat.sub_self,show l.length - i = (l.length - (i + 1)) + 1 by omega,List.replicate_succ,List.set_cons_zero,List.take_succ_eq_append_getElem hlt,List.map_append,hb]
   simp
  have hlen : (((l.take i).map (Qbr l) ++ List.replicate (l.length - i) false).length : Int) = l.length:=by
   rw [List.length_append,List.length_map,List.length_take,List.length_replicate]; omega
  refine Ev.step (fun k => ?_) ih
  simp only [doc_Works.l0]
  rw [hlen,if_pos (by omega),if_pos (by omega),if_pos (by rw [counts_length]; omega),if_pos (by omega),Qam _ _ hlt,Qdc hlt (by omega),Int.toNat_natCast]
  have hrd : rd (Qcx l) (i : Int) = cntR l l[i].f0 l[i].f1:=by unfold rd; rw [Int.toNat_natCast,hc]
  by_cases h1 : l[i].f2 = 1
  ·rw [if_pos h1,if_pos (by omega),hset _ ?_]
   rw [hrd]
   unfold Qbr
   rw [<- hc,Int.tmod_eq_emod_of_nonneg hcb,h1]
   simp
  ·rw [if_neg h1,if_pos (by omega),hset _ ?_]
   unfold Qbr
   simp [h1]
theorem Works_ev {l : List SOp} (h : RowOk l) : Ev (fun k => doc_Works.f k l) (worksL l):=by
 have h40:=h.sums.1
 refine Ev.congr (f:=fun k => (doc_Counts.f k l).bind fun t314 => doc_Works.l0 k l (List.replicate l.length false) t314 (t314.length : Int) 0) (fun k => ?_) (Ev.bind (f:=fun k t314 => doc_Works.l0 k l (List.replicate l.length false) t314 (t314.length : Int) 0) (Counts_ev h) ?_)
 ·unfold doc_Works.f
  rw [if_pos (by omega),if_pos (by omega),Int.toNat_natCast]
 ·rw [counts_length]
  have:=Works_loop h l.length 0 (Nat.zero_add _)
  simpa using this
theorem All_loop (o : SOp) (hs : Qai o <= 1000000) : ∀ d i,i + d = Qai o -> Ev (fun k => op_All.l0 k ((List.range i).map fun j : Nat => (⟨o.f0,o.f1,(j : Int)⟩ : SElem)) (Qai o : Int) (i : Int) o.f0 o.f1 o.f2 o.f3.f0 o.f3.f1 o.f3.f2 o.f4 o.f5 o.f6 o.f7 o.f8) (Qbe o)
 | 0,i,hi => by
  obtain rfl : i = Qai o:=by omega
  refine Ev.step (f:=fun _ => some (Qbe o)) (fun k => ?_) (Ev.now _)
  simp only [op_All.l0]
  rw [if_neg (by omega)]
  rfl
 | d + 1,i,hi => by
  have ih:=All_loop o hs d (i + 1) (by omega)
  rw [List.range_succ,List.map_append] at ih
  refine Ev.step (fun k => ?_) ih
  simp only [op_All.l0]
  unfold op_At.f
  rw [if_pos (by omega),Option.bind_some,if_pos (by simp; omega),Qdc (show i < Qai o by omega) (by omega)]
  rfl
theorem All_ev (o : SOp) (hs : Sm o) (h12 : Qai o <= 1000000) : Ev (fun k => op_All.f k o.f0 o.f1 o.f2 o.f3.f0 o.f3.f1 o.f3.f2 o.f4 o.f5 o.f6 o.f7 o.f8) (Qbe o):=by
 refine Ev.congr (fun k => ?_) (All_loop o h12 (Qai o) 0 (Nat.zero_add _))
 unfold op_All.f
 rw [op_Size_f o hs,Option.bind_some]
 rfl
end
section
def mkE (k : Int × Int × Int) : SElem:=⟨k.1,k.2.1,k.2.2⟩
def goneS (l ms : List SOp) : Int × Int × Int -> Bool:=fun k => ms.any fun o => Qbr l o && decide (mkE k ∈ o.f5)
def theS (l ms : List SOp) : Int × Int × Int -> Bool:=fun k => ms.any fun o => Qbr l o && decide (mkE k ∈ Qbe o)
def addS (S : Int × Int × Int -> Bool) (es : List SElem) : Int × Int × Int -> Bool:=fun k => S k || decide (mkE k ∈ es)
theorem addS_nil (S : Int × Int × Int -> Bool) : addS S [] = S:=by funext k; simp [addS]
theorem addS_snoc (S : Int × Int × Int -> Bool) (es : List SElem) (x : SElem) : updB (addS S es) (x.f0,x.f1,x.f2) = addS S (es ++ [x]):=by
 funext k
 unfold updB addS
 by_cases h : k = (x.f0,x.f1,x.f2)
 ·rw [if_pos h]
  have : mkE k = x:=by rw [h]; rfl
  simp [this]
 ·rw [if_neg h]
  have : mkE k ≠ x:=fun e => h (by rw [<- e]; rfl)
  simp [this]
theorem goneS_snoc (l ms : List SOp) (o : SOp) : goneS l (ms ++ [o]) = if Qbr l o = true then addS (goneS l ms) o.f5 else goneS l ms:=by
 funext k
 have h1 : ∀ b : Bool,(if b = true then (fun k => goneS l ms k || decide (mkE k ∈ o.f5)) else goneS l ms) k = (goneS l ms k || (b && decide (mkE k ∈ o.f5))):=by intro b; cases b <;> simp
 refine Eq.trans ?_ (h1 (Qbr l o)).symm
 unfold goneS
 rw [List.any_append]; simp
theorem theS_snoc (l ms : List SOp) (o : SOp) : theS l (ms ++ [o]) = if Qbr l o = true then addS (theS l ms) (Qbe o) else theS l ms:=by
 funext k
 have h1 : ∀ b : Bool,(if b = true then (fun k => theS l ms k || decide (mkE k ∈ Qbe o)) else theS l ms) k = (theS l ms k || (b && decide (mkE k ∈ Qbe o))):=by intro b; cases b <;> simp
 refine Eq.trans ?_ (h1 (Qbr l o)).symm
 unfold theS
 rw [List.any_append]; simp
structure K2 (b1 b2 : Nat) (w w' : World) : Prop where
 os : w'.os = w.os
 tape : w'.tape = w.tape
 output : w'.output = w.output
 size : w.heap.size <= w'.heap.size
 block : ∀ k,k < w.heap.size -> k ≠ b1 -> k ≠ b2 -> w'.heap[k]? = w.heap[k]?
theorem K2.refl (b1 b2 : Nat) (w : World) : K2 b1 b2 w w:=⟨rfl,rfl,rfl,Nat.le_refl _,fun _ _ _ _ => rfl⟩
theorem K2.below {b1 b2 : Nat} {w w1 w2 : World} (h : K2 b1 b2 w w1) (k : Below w1.heap.size w1 w2) : K2 b1 b2 w w2 :=
 ⟨k.os.trans h.os,k.tape.trans h.tape,k.output.trans h.output,Nat.le_trans h.size k.size,fun i hi h1 h2 => (k.block i (Nat.lt_of_lt_of_le hi h.size)).trans (h.block i hi h1 h2)⟩
theorem K2.grown {b1 b2 b : Nat} {w w1 w2 : World} (h : K2 b1 b2 w w1) (k : w1.grownBy w2 (some b)) (hb : b = b1 \/ b = b2) : K2 b1 b2 w w2 :=
 ⟨k.os.trans h.os,k.tape.trans h.tape,k.output.trans h.output,Nat.le_trans h.size k.size,fun i hi h1 h2 => (k.block i (Nat.lt_of_lt_of_le hi h.size) (fun e => by injection e with e; rcases hb with rfl | rfl; exact h1 e; exact h2 e)).trans (h.block i hi h1 h2)⟩
theorem K2.cell {b1 b2 : Nat} {w w' : World} (h : K2 b1 b2 w w') {a : Addr} {v : Value} (hc : w.cell? a = some v) (h1 : a.block ≠ b1) (h2 : a.block ≠ b2) : w'.cell? a = some v:=by
 have:=h.block a.block (World.block_lt_of_cell? w a hc) h1 h2
 simpa [World.cell?,this] using hc
theorem K2.toBelow {b1 b2 B : Nat} {w0 w w' : World} (hb : Below B w0 w) (h : K2 b1 b2 w w') (hB : B <= w.heap.size) (h1 : B <= b1) (h2 : B <= b2) : Below B w0 w' :=
 hb.trans ⟨h.os,h.tape,h.output,h.size,fun i hi => h.block i (Nat.lt_of_lt_of_le hi hB) (by omega) (by omega)⟩
theorem smalls_Sm {l : List SOp} (h : smalls l = true) : ∀ o ∈ l,Sm o:=by
 unfold smalls SmB at h
 simp only [Bool.and_eq_true,decide_eq_true_eq,List.all_eq_true] at h
 intro o ho
 have:=h.2 o ho
 exact ⟨by omega,by omega⟩
theorem opOk_gone200 {o : SOp} (h : opOk o = true) : o.f5.length <= 200:=by
 rcases Qcv h with ⟨_,h2⟩ | ⟨_,h2⟩
 ·unfold editOk goneOk at h2
  simp only [Bool.and_eq_true,decide_eq_true_eq] at h2
  omega
 ·unfold Qce at h2
  simp only [Bool.and_eq_true,List.isEmpty_iff] at h2
  rw [h2.2]; simp
theorem gone_in {o : SOp} (h : opOk o = true) : ∀ e ∈ o.f5,inI e.f0 /\ inI e.f1 /\ inI e.f2:=by
 intro e he
 obtain ⟨hb,hk,_⟩:=opOk_goneMem h e he
 obtain ⟨i0,i1⟩:=elemOk_in hk hb
 have:=elemOk_pos hk hb
 exact ⟨i0,i1,by unfold inI; omega⟩
theorem chain_in {o : SOp} (h : opOk o = true) : ∀ e ∈ Qbe o,inI e.f0 /\ inI e.f1 /\ inI e.f2:=by
 intro e he
 obtain ⟨e0,e1,h2,h3⟩:=(mem_chain o e).1 he
 have hn:=opOk_name h
 have hs:=(Qcp h).1
 rw [<- e0,<- e1]
 exact ⟨hn.1,hn.2,by unfold inI; omega⟩
theorem K2.trans {b1 b2 : Nat} {w w1 w2 : World} (h : K2 b1 b2 w w1) (k : K2 b1 b2 w1 w2) : K2 b1 b2 w w2 :=
 ⟨k.os.trans h.os,k.tape.trans h.tape,k.output.trans h.output,Nat.le_trans h.size k.size,fun i hi h1 h2 => (k.block i (Nat.lt_of_lt_of_le hi h.size) h1 h2).trans (h.block i hi h1 h2)⟩
theorem ord_in {l : List SOp} (h : RowOk l) : ∀ e,e ∈ ordL l -> inI e.f0 /\ inI e.f1 /\ inI e.f2:=by
 intro e he
 obtain ⟨p,hp,e0,e1,h2,h3⟩:=(Qdh h e).1 he
 exact chain_in (h.oks p hp) e ((mem_chain p e).2 ⟨e0,e1,h2,h3⟩)
theorem mk_runE (t : TypeId) (w : World) : (Instr.makeMap t none).run Tryz.prog w = .ok (.map (some w.heap.size)) (w.alloc (.map #[] 0)):=rfl
theorem seen_start (w : World) : Below w.heap.size w ((((w.alloc (.map #[] 0)).alloc (.cells #[.map (some w.heap.size)] 93)).alloc (.map #[] 0)).alloc (.cells #[.map (some (w.heap.size + 1 + 1))] 93)) /\
  MapE ((((w.alloc (.map #[] 0)).alloc (.cells #[.map (some w.heap.size)] 93)).alloc (.map #[] 0)).alloc (.cells #[.map (some (w.heap.size + 1 + 1))] 93)) w.heap.size 0 (fun _ => false) /\
  MapE ((((w.alloc (.map #[] 0)).alloc (.cells #[.map (some w.heap.size)] 93)).alloc (.map #[] 0)).alloc (.cells #[.map (some (w.heap.size + 1 + 1))] 93)) (w.heap.size + 1 + 1) 0 (fun _ => false) /\
  (((((w.alloc (.map #[] 0)).alloc (.cells #[.map (some w.heap.size)] 93)).alloc (.map #[] 0)).alloc (.cells #[.map (some (w.heap.size + 1 + 1))] 93)).cell? ⟨w.heap.size + 1,0,none⟩ = some (.map (some w.heap.size)) /\
   ((((w.alloc (.map #[] 0)).alloc (.cells #[.map (some w.heap.size)] 93)).alloc (.map #[] 0)).alloc (.cells #[.map (some (w.heap.size + 1 + 1))] 93)).cell? ⟨w.heap.size + 1 + 1 + 1,0,none⟩ = some (.map (some (w.heap.size + 1 + 1)))) /\
  ((((w.alloc (.map #[] 0)).alloc (.cells #[.map (some w.heap.size)] 93)).alloc (.map #[] 0)).alloc (.cells #[.map (some (w.heap.size + 1 + 1))] 93)).heap.size = w.heap.size + 4:=by
 have m1 : MapE (w.alloc (.map #[] 0)) w.heap.size 0 (fun _ => false):=MapB.made _ _ _ _
 have m1':=m1.kept (World.grownBy_alloc _ (.cells #[.map (some w.heap.size)] 93) none) (by simp)
 have hs2 : ((w.alloc (.map #[] 0)).alloc (.cells #[.map (some w.heap.size)] 93)).heap.size = w.heap.size + 1 + 1:=by simp
 have hb2 : Below w.heap.size w ((w.alloc (.map #[] 0)).alloc (.cells #[.map (some w.heap.size)] 93)):=Qag (Qag (Below.refl _ _) _) _
 have hc2 : ((w.alloc (.map #[] 0)).alloc (.cells #[.map (some w.heap.size)] 93)).cell? ⟨w.heap.size + 1,0,none⟩ = some (.map (some w.heap.size)):=top_cell _ _ _ _ 0 (by simp)
 generalize (w.alloc (.map #[] 0)).alloc (.cells #[.map (some w.heap.size)] 93) = w2 at m1' hs2 hb2 hc2 ⊢
 have m2 : MapE (w2.alloc (.map #[] 0)) (w.heap.size + 1 + 1) 0 (fun _ => false):=by
  have:=MapB.made encE 32 4 w2; rw [hs2] at this; exact this
 have m1'':=m1'.kept (World.grownBy_alloc _ (.map #[] 0) none) (by simp)
 have hs3 : (w2.alloc (.map #[] 0)).heap.size = w.heap.size + 1 + 1 + 1:=by simp [hs2]
 have hb3:=Qag hb2 (.map #[] 0)
 have hc3:=Qab (Qag (Below.refl w2.heap.size w2) (.map #[] 0)) hc2
 generalize w2.alloc (.map #[] 0) = w3 at m1'' m2 hs3 hb3 hc3 ⊢
 have m1a:=m1''.kept (World.grownBy_alloc _ (.cells #[.map (some (w.heap.size + 1 + 1))] 93) none) (by simp)
 have m2a:=m2.kept (World.grownBy_alloc _ (.cells #[.map (some (w.heap.size + 1 + 1))] 93) none) (by simp)
 exact ⟨Qag hb3 _,m1a,m2a,⟨Qab (Qag (Below.refl w3.heap.size w3) _) hc3,top_cell _ _ _ _ 0 hs3⟩,by simp [hs3]⟩
def doc_Seen.f (l0 : List (SOp)) : Option ((List (SElem))):=if smalls l0 = true /\ mayB l0 = true then some (Qbz l0) else none
theorem doc_Seen.calls (A0 : Option Addr) (c0 : Nat) (l0 : List (SOp)) (r : List (SElem)) (w : World) (hr0 : Kd.C kOp w A0 l0.length l0) (hc0 : l0.length <= c0) (h : doc_Seen.f l0 = some r) :
  Calls Tryz.prog 43 #[.slice A0 l0.length c0] w fun e w' => ∃ v0_ : Value,e = .returned (v0_) /\ Kd.R Qao 32 w' w.heap.size (fun _ => True) v0_ r /\ Below w.heap.size w w':=by
 unfold doc_Seen.f at h
 split at h
 case isFalse => cases h
 rename_i hsm
 obtain ⟨hs,hm⟩:=hsm
 obtain rfl:=Zo h
 have hrow:=(Qci l0).1 hm
 obtain ⟨kw,hkw⟩:=Ev.rounds (Works_ev hrow)
 have HR0:=Zz.k hr0
 have HC0:=Zz.k hc0
 have HW:=Zz.k (fun (W : World) (hb : Below w.heap.size w W) => doc_Works.calls kw A0 c0 l0 (worksL l0) W (Kd.C_below hr0 hb) hc0 hkw)
 have HROW:=Zz.k hrow
 have HSM:=Zz.k hs
 clear hr0 hc0 h hm hs hkw hrow
 go_enter Tryz.func43,Tryz.ntmps43
 have mk1:=fun w => mk_runE 93 w
 obtain ⟨s0,s1,s2,s3,s4⟩:=seen_start w
 have S1:=Zz.k s1
 have S2:=Zz.k s2
 have hW4:=HW.out _ s0
 have S0:=Zz.k s0
 have HW4:=Zz.k hW4
 have S3:=Zz.k s3
 have S4:=Zz.k s4
 clear s0 s1 s2 s3 s4 hW4 HW
 go_wp2_with fail
 refine HW4.out.mono ?_
 rintro e wW ⟨vW,rfl,hRW,hbW⟩
 obtain ⟨HBW,M1,M2,c1,c2,lW⟩ : Zz (Below w.heap.size w wW) /\ Zz (MapE wW w.heap.size 0 (fun _ => false)) /\ Zz (MapE wW (w.heap.size + 1 + 1) 0 (fun _ => false)) /\ wW.cell? ⟨w.heap.size + 1,0,none⟩ = some (.map (some w.heap.size)) /\ wW.cell? ⟨w.heap.size + 1 + 1 + 1,0,none⟩ = some (.map (some (w.heap.size + 1 + 1))) /\ w.heap.size + 4 <= wW.heap.size:=by
  refine ⟨⟨Qas S0.out hbW⟩,⟨S1.out.below hbW S1.out.lt⟩,⟨S2.out.below hbW S2.out.lt⟩,Qab hbW S3.out.1,Qab hbW S3.out.2, ?_⟩
  have:=hbW.size; rw [S4.out] at this; exact this
 have hRW2:=Kd.R_mono (Kd.R_bound hRW) (ok':=fun k => k ≠ w.heap.size /\ k ≠ w.heap.size + 1 + 1) (fun k hk => by have:=hk.2.1; rw [S4.out] at this; exact ⟨by omega,by omega⟩)
 have hlW : (worksL l0).length = l0.length:=by simp [worksL]
 obtain ⟨AW,cW,rfl,hcW,_⟩:=Kd.R_reads hRW2
 rw [hlW] at hcW ⊢
 have HCW:=Zz.k (fun (wr : World) (hk : K2 w.heap.size (w.heap.size + 1 + 1) wW wr) => (Kd.R_reads' (Kd.R_step hRW2 (fun k ho hlt => hk.block k hlt ho.1 ho.2))).2.2)
 have HC1:=Zz.k c1
 have HC2:=Zz.k c2
 have LW:=Zz.k lW
 clear hRW hRW2 hbW c1 c2 lW S0 S1 S2 S3 S4 HW4 hcW mk1
 rw [hlW] at HCW
 clear hlW
 go_wp2
 go_loopg [16] l0.length (fun gg s16 wr => ∃ i : Nat,i <= l0.length /\ l0.length - i <= gg /\ s16 = .int .i64 i /\ Zz (K2 w.heap.size (w.heap.size + 1 + 1) wW wr) /\ Zz (∃ n1 n2,n1 <= 200 * i /\ n2 <= 12 * i /\ MapE wr w.heap.size n1 (goneS l0 (l0.take i)) /\ MapE wr (w.heap.size + 1 + 1) n2 (theS l0 (l0.take i))))
 case atStart => exact ⟨0,Nat.zero_le _,by omega,rfl,⟨K2.refl _ _ _⟩,⟨0,0,Nat.le_refl _,Nat.le_refl _,M1.out,M2.out⟩⟩
 case round =>
  clear M1 M2
  obtain ⟨i,hi,hgk,rfl,HK,HM⟩:=hrel
  have h40:=HROW.out.sums.1
  by_cases hlt : i < l0.length
  ·obtain ⟨g',rfl⟩ : ∃ g',gk = g' + 1:=⟨gk - 1,by omega⟩
   have hltz : (i : Int) < (l0.length : Int):=by omega
   have h0z : (0 : Int) <= (i : Int):=by omega
   obtain ⟨adW,rfl,xw⟩:=Kd.at_bool (HCW.out wr HK.out) (i : Int) h0z (by omega)
   simp only [Int.toNat_natCast] at xw
   have hrdw : rdOf false (worksL l0) (i : Int) = Qbr l0 l0[i]:=by
    unfold rdOf worksL
    rw [Int.toNat_natCast,List.getD_eq_getElem?_getD,List.getElem?_map,List.getElem?_eq_getElem hlt]; rfl
   rw [hrdw] at xw
   cases hwk : Qbr l0 l0[i] with
   | false =>
    rw [hwk] at xw
    have HM2:=Zz.k (show ∃ n1 n2,n1 <= 200 * (i + 1) /\ n2 <= 12 * (i + 1) /\ MapE wr w.heap.size n1 (goneS l0 (l0.take (i + 1))) /\ MapE wr (w.heap.size + 1 + 1) n2 (theS l0 (l0.take (i + 1))) by
     obtain ⟨n1,n2,h1,h2,h3,h4⟩:=HM.out
     rw [List.take_succ_eq_append_getElem hlt,goneS_snoc,theS_snoc,hwk]
     exact ⟨n1,n2,by omega,by omega,h3,h4⟩)
    clear hwk hrdw HM
    go_wp2
    go_roundg g'
    case measure => omega
    case rel => exact ⟨i + 1,by omega,by omega,by go_num,HK,HM2⟩
   | true =>
    rw [hwk] at xw
    have hoi:=HROW.out.oks _ (List.getElem_mem hlt)
    have hSm:=smalls_Sm HSM.out _ (List.getElem_mem hlt)
    obtain ⟨ad,A7,c7,rfl,x0,x1,x2,x3,x4,x5,x6,x7,x8,x9,x10,l7,g7⟩:=Qby HR0.out (i : Int) h0z hltz
    have LW1:=LW.out
    have hbr : Below w.heap.size w wr:=K2.toBelow HBW.out HK.out (by omega) (Nat.le_refl _) (by omega)
    simp only [Int.toNat_natCast,Qam _ _ hlt] at x0 x1 x2 x3 x4 x5 x6 x7 x8 x9 x10 l7 g7
    generalize hoe : l0[i] = o at x0 x1 x2 x3 x4 x5 x6 x7 x8 x9 x10 l7 g7 hwk hoi hSm
    have HOE:=Zz.k hoe
    have HWK:=Zz.k hwk
    have HOI:=Zz.k hoi
    have HSO:=Zz.k hSm
    have HG7:=Zz.k g7
    have HL7:=Zz.k l7
    have HX:=Zz.k (And.intro x0 (And.intro x1 (And.intro x2 (And.intro x3 (And.intro x4 (And.intro x5 (And.intro x6 (And.intro x7 (And.intro x8 (And.intro x9 x10))))))))))
    have e7:=Qab hbr x7
    have h200:=opOk_gone200 hoi
    clear x0 x1 x2 x3 x4 x5 x6 x7 x8 x9 x10 l7 g7 hwk hoi hSm hoe hrdw hbr
    go_wp2
    go_loopg [29] o.f5.length (fun gg s29 w' => ∃ j : Nat,j <= o.f5.length /\ o.f5.length - j <= gg /\ s29 = .int .i64 j /\ Zz (K2 w.heap.size (w.heap.size + 1 + 1) wW w') /\ Zz (∃ n1 n2,n1 <= 200 * i + j /\ n2 <= 12 * i /\ MapE w' w.heap.size n1 (addS (goneS l0 (l0.take i)) (o.f5.take j)) /\ MapE w' (w.heap.size + 1 + 1) n2 (theS l0 (l0.take i))))
    case atStart =>
     obtain ⟨n1,n2,h1,h2,h3,h4⟩:=HM.out
     exact ⟨0,Nat.zero_le _,by omega,rfl,HK,⟨n1,n2,by omega,by omega,by rw [List.take_zero,addS_nil]; exact h3,h4⟩⟩
    case round =>
     clear HM HK xw e7
     obtain ⟨j,hj,hgk2,rfl,HK,HM⟩:=hrel
     by_cases hjl : j < o.f5.length
     ·obtain ⟨g2,rfl⟩ : ∃ g2,gk = g2 + 1:=⟨gk - 1,by omega⟩
      have hjz : (j : Int) < (o.f5.length : Int):=by omega
      have hj0 : (0 : Int) <= (j : Int):=by omega
      have hbr : Below w.heap.size w wr:=K2.toBelow HBW.out HK.out (by omega) (Nat.le_refl _) (by omega)
      obtain ⟨ad7,rfl,y0,y1,y2⟩:=Qat (Kd.C_below HG7.out hbr) (j : Int) hj0 hjz
      simp only [Int.toNat_natCast,Qaq _ _ hjl] at y0 y1 y2
      have hxi:=gone_in HOI.out _ (List.getElem_mem hjl)
      have hsn:=addS_snoc (goneS l0 (l0.take i)) (o.f5.take j) o.f5[j]
      rw [<- List.take_succ_eq_append_getElem hjl] at hsn
      generalize o.f5[j] = x at y0 y1 y2 hxi hsn
      obtain ⟨n1,n2,h1,h2,h3,h4⟩:=HM.out
      have hal : Below wr.heap.size wr (wr.alloc (.cells #[.int .i64 x.f0, .int .i64 x.f1, .int .i64 x.f2] 32)):=Qag (Below.refl _ _) _
      obtain ⟨kl,hkl⟩:=keyE (x:=(x.f0,x.f1,x.f2)) hxi.1 hxi.2.1 hxi.2.2
      obtain ⟨w6,hrun,hm6,hg6⟩:=(h3.below hal h3.lt).store lawE Tryz.underlying93 Tryz.underlying4 (Nat.lt_of_le_of_lt (m:=10000) (by omega) (by decide)) encE_inj (x.f0,x.f1,x.f2) hkl
      rw [hsn] at hm6
      simp only [encE] at hrun
      have q1:=Qab hal (HK.out.cell HC1.out (by simp) (by simp))
      have HK6:=Zz.k ((HK.out.below hal).grown hg6 (.inl rfl))
      have HM6:=Zz.k (show ∃ n1 n2,n1 <= 200 * i + (j + 1) /\ n2 <= 12 * i /\ MapE w6 w.heap.size n1 (addS (goneS l0 (l0.take i)) (o.f5.take (j + 1))) /\ MapE w6 (w.heap.size + 1 + 1) n2 (theS l0 (l0.take i)) from
       ⟨n1 + 1,n2,by omega,h2,hm6,(h4.below hal h4.lt).kept hg6 (fun e => by injection e with e; omega)⟩)
      clear h1 h2 h3 h4 hm6 hg6 hsn hxi hkl hal hbr HM HK
      go_wp2
      go_roundg g2
      case measure => omega
      case rel => exact ⟨j + 1,by omega,by omega,by go_num,HK6,HM6⟩
     ·obtain rfl : j = o.f5.length:=by omega
      have hjz : ¬ (o.f5.length : Int) < (o.f5.length : Int):=by omega
      have hbr : Below w.heap.size w wr:=K2.toBelow HBW.out HK.out (by omega) (Nat.le_refl _) (by omega)
      obtain ⟨x0,x1,x2,x3,x4,x5,x6,x7,x8,x9,x10⟩:=HX.out
      replace x0:=Qab hbr x0
      replace x1:=Qab hbr x1
      replace x2:=Qab hbr x2
      replace x3:=Qab hbr x3
      replace x4:=Qab hbr x4
      replace x5:=Qab hbr x5
      replace x6:=Qab hbr x6
      replace x7:=Qab hbr x7
      replace x8:=Qab hbr x8
      replace x9:=Qab hbr x9
      replace x10:=Qab hbr x10
      have hsz:=(Qcp HOI.out).1
      obtain ⟨ka,hka⟩:=Ev.rounds (All_ev o HSO.out (by omega))
      have HAL:=Zz.k (op_All.calls ka o.f0 o.f1 o.f2 o.f3.f0 o.f3.f1 o.f3.f2 o.f4 A7 c7 o.f5 o.f6 o.f7 o.f8 (Qbe o) wr (Kd.C_below HG7.out hbr) HL7.out hka)
      have HSZ:=Zz.k hsz
      clear hbr hka hsz
      go_wp2_with fail
      refine HAL.out.mono ?_
      rintro e wA ⟨vA,rfl,hRA,hbA⟩
      have hsr:=HK.out.size
      have hRA2:=Kd.R_mono (Kd.R_bound hRA) (ok':=fun k => k ≠ w.heap.size /\ k ≠ w.heap.size + 1 + 1) (fun k hk => by have:=hk.2.1; exact ⟨by omega,by omega⟩)
      have hlA : (Qbe o).length = Qai o:=chain_length o
      obtain ⟨AA,cA,rfl,hcA,_⟩:=Kd.R_reads hRA2
      have HCA:=Zz.k (fun (w' : World) (hk : K2 w.heap.size (w.heap.size + 1 + 1) wA w') => (Kd.R_reads' (Kd.R_step hRA2 (fun k ho hlt => hk.block k hlt ho.1 ho.2))).2.2)
      have HKA:=Zz.k (HK.out.below hbA)
      have HMA:=Zz.k (show ∃ n1 n2,n1 <= 200 * i + o.f5.length /\ n2 <= 12 * i /\ MapE wA w.heap.size n1 (addS (goneS l0 (l0.take i)) o.f5) /\ MapE wA (w.heap.size + 1 + 1) n2 (theS l0 (l0.take i)) by
       obtain ⟨n1,n2,h1,h2,h3,h4⟩:=HM.out
       rw [List.take_length] at h3
       exact ⟨n1,n2,h1,h2,h3.below hbA h3.lt,h4.below hbA h4.lt⟩)
      have HLA:=Zz.k (show (Qbe o).length <= 12 by rw [hlA]; exact HSZ.out)
      clear hRA hRA2 hlA hcA hbA HAL HK HM x0 x1 x2 x3 x4 x5 x6 x7 x8 x9 x10 hsr
      go_wp2
      go_loopg [42] (Qbe o).length (fun gg s42 w' => ∃ j : Nat,j <= (Qbe o).length /\ (Qbe o).length - j <= gg /\ s42 = .int .i64 j /\ Zz (K2 w.heap.size (w.heap.size + 1 + 1) wA w') /\ Zz (∃ n1 n2,n1 <= 200 * (i + 1) /\ n2 <= 12 * i + j /\ MapE w' w.heap.size n1 (addS (goneS l0 (l0.take i)) o.f5) /\ MapE w' (w.heap.size + 1 + 1) n2 (addS (theS l0 (l0.take i)) ((Qbe o).take j))))
      case atStart =>
       obtain ⟨n1,n2,h1,h2,h3,h4⟩:=HMA.out
       exact ⟨0,Nat.zero_le _,by omega,rfl,⟨K2.refl _ _ _⟩,⟨n1,n2,by omega,by omega,h3,by rw [List.take_zero,addS_nil]; exact h4⟩⟩
      case round =>
       clear HMA
       obtain ⟨j,hj,hgk2,rfl,HK,HM⟩:=hrel
       have hcl:=HLA.out
       by_cases hjl : j < (Qbe o).length
       ·obtain ⟨g2,rfl⟩ : ∃ g2,gk = g2 + 1:=⟨gk - 1,by omega⟩
        have hjz : (j : Int) < ((Qbe o).length : Int):=by omega
        have hj0 : (0 : Int) <= (j : Int):=by omega
        obtain ⟨ad7,rfl,y0,y1,y2⟩:=Qat (HCA.out wr HK.out) (j : Int) hj0 hjz
        simp only [Int.toNat_natCast,Qaq _ _ hjl] at y0 y1 y2
        have hxi:=chain_in HOI.out _ (List.getElem_mem hjl)
        have hsn:=addS_snoc (theS l0 (l0.take i)) ((Qbe o).take j) (Qbe o)[j]
        rw [<- List.take_succ_eq_append_getElem hjl] at hsn
        generalize (Qbe o)[j] = x at y0 y1 y2 hxi hsn
        obtain ⟨n1,n2,h1,h2,h3,h4⟩:=HM.out
        have hal : Below wr.heap.size wr (wr.alloc (.cells #[.int .i64 x.f0, .int .i64 x.f1, .int .i64 x.f2] 32)):=Qag (Below.refl _ _) _
        obtain ⟨kl,hkl⟩:=keyE (x:=(x.f0,x.f1,x.f2)) hxi.1 hxi.2.1 hxi.2.2
        obtain ⟨w6,hrun,hm6,hg6⟩:=(h4.below hal h4.lt).store lawE Tryz.underlying93 Tryz.underlying4 (Nat.lt_of_le_of_lt (m:=10000) (by omega) (by decide)) encE_inj (x.f0,x.f1,x.f2) hkl
        rw [hsn] at hm6
        simp only [encE] at hrun
        have q1:=Qab hal (HK.out.cell (HKA.out.cell HC2.out (by show w.heap.size + 1 + 1 + 1 ≠ _; omega) (by show w.heap.size + 1 + 1 + 1 ≠ _; omega)) (by show w.heap.size + 1 + 1 + 1 ≠ _; omega) (by show w.heap.size + 1 + 1 + 1 ≠ _; omega))
        have HK6:=Zz.k ((HK.out.below hal).grown hg6 (.inr rfl))
        have HM6:=Zz.k (show ∃ n1 n2,n1 <= 200 * (i + 1) /\ n2 <= 12 * i + (j + 1) /\ MapE w6 w.heap.size n1 (addS (goneS l0 (l0.take i)) o.f5) /\ MapE w6 (w.heap.size + 1 + 1) n2 (addS (theS l0 (l0.take i)) ((Qbe o).take (j + 1))) from
         ⟨n1,n2 + 1,h1,by omega,(h3.below hal h3.lt).kept hg6 (fun e => by injection e with e; omega),hm6⟩)
        clear h1 h2 h3 h4 hm6 hg6 hsn hxi hkl hal HM HK
        go_wp2
        go_roundg g2
        case measure => omega
        case rel => exact ⟨j + 1,by omega,by omega,by go_num,HK6,HM6⟩
       ·obtain rfl : j = (Qbe o).length:=by omega
        have hjz : ¬ ((Qbe o).length : Int) < ((Qbe o).length : Int):=by omega
        have HK8:=Zz.k (K2.trans HKA.out HK.out)
        have HM8:=Zz.k (show ∃ n1 n2,n1 <= 200 * (i + 1) /\ n2 <= 12 * (i + 1) /\ MapE wr w.heap.size n1 (goneS l0 (l0.take (i + 1))) /\ MapE wr (w.heap.size + 1 + 1) n2 (theS l0 (l0.take (i + 1))) by
         obtain ⟨n1,n2,h1,h2,h3,h4⟩:=HM.out
         rw [List.take_length] at h4
         rw [List.take_succ_eq_append_getElem hlt,HOE.out,goneS_snoc,theS_snoc,HWK.out]
         exact ⟨n1,n2,h1,by omega,h3,h4⟩)
        clear HK HM
        go_wp2
        go_roundg g'
        case measure => omega
        case rel => exact ⟨i + 1,by omega,by omega,by go_num,HK8,HM8⟩
  ·obtain rfl : i = l0.length:=by omega
   have hltz : ¬ (l0.length : Int) < (l0.length : Int):=by omega
   have LW1:=LW.out
   have hbr : Below w.heap.size w wr:=K2.toBelow HBW.out HK.out (by omega) (Nat.le_refl _) (by omega)
   have HAL:=Zz.k (tree_All.calls A0 c0 l0 (ordL l0) wr (Kd.C_below HR0.out hbr) HC0.out (tree_All_f HSM.out HROW.out))
   have HBR:=Zz.k hbr
   clear hbr
   go_wp2_with fail
   refine HAL.out.mono ?_
   rintro e wA ⟨vA,rfl,hRA,hbA⟩
   obtain ⟨AA,cA,rfl⟩:=Kd.R_slice hRA
   have hsr:=HK.out.size
   have hlen : (ordL l0).length <= 200:=by rw [(ordL_nodup HROW.out).2]; exact HROW.out.sums.2
   have hown:=Kd.R_base hRA
   have hD:=DeleteFuncElem 73 #[.pointer (some ⟨w.heap.size + 1,0,none⟩), .pointer (some ⟨w.heap.size + 1 + 1 + 1,0,none⟩)] wr.heap.size cA AA (ordL l0) (fun x => goneS l0 l0 (x.f0,x.f1,x.f2) || !theS l0 l0 (x.f0,x.f1,x.f2)) wA
    (enters_at Tryz.func73 (by kernel_rfl) rfl) (by omega) hRA (fun W x hx hg => by
     obtain ⟨n1,n2,h1,h2,h3,h4⟩:=HM.out
     rw [List.take_length] at h3 h4
     have a3:=(h3.below hbA h3.lt).kept hg (fun e => by have:=hown _ e.symm; omega)
     have a4:=(h4.below hbA h4.lt).kept hg (fun e => by have:=hown _ e.symm; omega)
     have k1:=Qab hbA (HK.out.cell HC1.out (by show w.heap.size + 1 ≠ _; omega) (by show w.heap.size + 1 ≠ _; omega))
     have k2:=Qab hbA (HK.out.cell HC2.out (by show w.heap.size + 1 + 1 + 1 ≠ _; omega) (by show w.heap.size + 1 + 1 + 1 ≠ _; omega))
     have k1':=Qax hg (fun e => by have:=hown _ e.symm; simp only at this; omega) k1
     have k2':=Qax hg (fun e => by have:=hown _ e.symm; simp only at this; omega) k2
     exact seen1_calls _ _ _ _ n1 n2 x _ _ W k1' k2' a3 a4 (ord_in HROW.out x hx))
   have HD:=Zz.k hD
   have HBA:=Zz.k (Qas HBR.out hbA)
   have HOWN:=Zz.k hown
   have HSZ:=Zz.k hbA.size
   clear hD hRA hbA hown
   go_wp2_with fail
   refine HD.out.mono ?_
   rintro e w2 ⟨v,rfl,hRv,hgv⟩
   have HRV:=Zz.k hRv
   have HGV:=Zz.k hgv
   clear hRv hgv
   go_wp2
   go_ret
   have hz:=HBR.out.size
   have hzA:=HSZ.out
   refine ⟨_,rfl,Kd.R_lower HRV.out hz,pw_below_grown HBA.out _ HBA.out.size HGV.out (fun k hk => by have:=HOWN.out k hk; omega)⟩
end
section
attribute [local go_sem] Qbl Qbj Qbp Qbo Qba Qaz Qbk Qbi
def r4_Count.l0 : Nat -> List (SOp) -> Int -> Int -> Int -> Int -> Option (Int)
 | 0,_,_,_,_,_ => none
 | k + 1,x0,x1,x2,x7,x8 => if x8 < (x0.length : Int) then (if 0 <= x8 then (if ((Qad x0 x8).f2) = 2 then (if ((Qad x0 x8).f6) = x1 then (if ((Qad x0 x8).f7) = x2 then (if ((Qad x0 x8).f8) = x7 then (r4_Count.l0 k x0 x1 x2 (wrap64 (x7 + 1)) (wrap64 (x8 + 1))) else (r4_Count.l0 k x0 x1 x2 x7 (wrap64 (x8 + 1)))) else (r4_Count.l0 k x0 x1 x2 x7 (wrap64 (x8 + 1)))) else (r4_Count.l0 k x0 x1 x2 x7 (wrap64 (x8 + 1)))) else (r4_Count.l0 k x0 x1 x2 x7 (wrap64 (x8 + 1)))) else (none)) else (some x7)
def r4_Count.f (k : Nat) (l0 : List (SOp)) (a1 : Int) (a2 : Int) : Option (Int):=r4_Count.l0 k l0 a1 a2 0 0
theorem r4_Count.calls (k : Nat) (A0 : Option Addr) (c0 : Nat) (l0 : List (SOp)) (a1 : Int) (a2 : Int) (r : Int) (w : World) (hr0 : Kd.C kOp w A0 l0.length l0) (hc0 : l0.length <= c0) (h : r4_Count.f k l0 a1 a2 = some r) :
  Calls Tryz.prog 29 #[.slice A0 l0.length c0, .int .i64 a1, .int .i64 a2] w fun e w' => e = .returned (.int .i64 r) /\ Drawn0 w w':=by
 have HR0:=Zz.k hr0
 have HC0:=Zz.k hc0
 clear hr0 hc0
 unfold r4_Count.f at h; have H:=h
 clear h
 have H':=Zz.k H
 clear H
 go_enter Tryz.func29,Tryz.ntmps29
 go_wp2
 go_loopg [7,8] k (fun kq v7 v8 w' => ∃ (x7_1 : Int) (x8_1 : Int),v7 = .int .i64 x7_1 /\ v8 = .int .i64 x8_1 /\ Zz (r4_Count.l0 kq l0 a1 a2 x7_1 x8_1 = some r) /\ Zz (kq <= k) /\ Drawn0 w w')
 case atStart => exact ⟨(0),(0),rf,rf,H',⟨Nat.le_refl _⟩,by repeat (first | exact Drawn0.refl _ | apply Drawn0.step)⟩
 case round =>
  clear H'
  obtain ⟨x7_1,x8_1,rfl,rfl,HA,HK1,⟨m1,rfl⟩⟩:=hrel
  cases gk with
  | zero => exact absurd HA.out (by simp [r4_Count.l0])
  | succ k1 =>
   have H:=HA.out
   clear HA
   simp only [r4_Count.l0] at H
   by_cases c4 : x8_1 < (l0.length : Int); rotate_left
   ·rw [if_neg c4] at H
    have c4b0:=Ze c4
    clear c4
    obtain rfl:=Zo H
    go_wp2
    go_ret
    exact ⟨rf,by repeat (first | exact Drawn0.refl _ | apply Drawn0.step)⟩
   rw [if_pos c4] at H
   have c4b0:=Zd c4
   clear c4
   by_cases c5 : 0 <= x8_1; rotate_left
   ·rw [if_neg c5] at H
    exact absurd H (by simp)
   rw [if_pos c5] at H
   have c5b0:=Zd c5
   clear c5
   by_cases c6 : ((Qad l0 x8_1).f2) = 2; rotate_left
   ·rw [if_neg c6] at H
    obtain ⟨c6b0,c6b1⟩:=bF c6
    have H':=Zz.k H
    clear H
    have p290 : 0 <= (x8_1 : Int):=od
    have q290 : x8_1 < (l0.length : Int):=od
    obtain ⟨ad290,A290_7,c290_7,e290,hx290_0,hx290_1,hx290_2,hx290_3,hx290_4,hx290_5,hx290_6,hx290_7,hx290_8,hx290_9,hx290_10,hl290_7,hi290_7⟩:=Qby HR0.out x8_1 p290 q290
    cases e290
    have HR290_7:=Zz.k hi290_7
    have HC290_7:=Zz.k hl290_7
    clear hi290_7 hl290_7
    replace p290:=eq_true p290
    replace q290:=eq_true q290
    go_wp2
    go_roundg k1
    case measure => have:=HK1.out; omega
    case rel => exact ⟨(x7_1),(wrap64 (x8_1 + 1)),rf,rf,H',⟨by have:=HK1.out; omega⟩,by repeat (first | exact Drawn0.refl _ | apply Drawn0.step)⟩
   rw [if_pos c6] at H
   obtain ⟨c6b0,c6b1⟩:=bT c6
   clear c6
   by_cases c7 : ((Qad l0 x8_1).f6) = a1; rotate_left
   ·rw [if_neg c7] at H
    obtain ⟨c7b0,c7b1⟩:=bF c7
    have H':=Zz.k H
    clear H
    have p290 : 0 <= (x8_1 : Int):=od
    have q290 : x8_1 < (l0.length : Int):=od
    obtain ⟨ad290,A290_7,c290_7,e290,hx290_0,hx290_1,hx290_2,hx290_3,hx290_4,hx290_5,hx290_6,hx290_7,hx290_8,hx290_9,hx290_10,hl290_7,hi290_7⟩:=Qby HR0.out x8_1 p290 q290
    cases e290
    have HR290_7:=Zz.k hi290_7
    have HC290_7:=Zz.k hl290_7
    clear hi290_7 hl290_7
    replace p290:=eq_true p290
    replace q290:=eq_true q290
    go_wp2
    go_roundg k1
    case measure => have:=HK1.out; omega
    case rel => exact ⟨(x7_1),(wrap64 (x8_1 + 1)),rf,rf,H',⟨by have:=HK1.out; omega⟩,by repeat (first | exact Drawn0.refl _ | apply Drawn0.step)⟩
   rw [if_pos c7] at H
   obtain ⟨c7b0,c7b1⟩:=bT c7
   clear c7
   by_cases c8 : ((Qad l0 x8_1).f7) = a2; rotate_left
   ·rw [if_neg c8] at H
    obtain ⟨c8b0,c8b1⟩:=bF c8
    have H':=Zz.k H
    clear H
    have p290 : 0 <= (x8_1 : Int):=od
    have q290 : x8_1 < (l0.length : Int):=od
    obtain ⟨ad290,A290_7,c290_7,e290,hx290_0,hx290_1,hx290_2,hx290_3,hx290_4,hx290_5,hx290_6,hx290_7,hx290_8,hx290_9,hx290_10,hl290_7,hi290_7⟩:=Qby HR0.out x8_1 p290 q290
    cases e290
    have HR290_7:=Zz.k hi290_7
    have HC290_7:=Zz.k hl290_7
    clear hi290_7 hl290_7
    replace p290:=eq_true p290
    replace q290:=eq_true q290
    go_wp2
    go_roundg k1
    case measure => have:=HK1.out; omega
    case rel => exact ⟨(x7_1),(wrap64 (x8_1 + 1)),rf,rf,H',⟨by have:=HK1.out; omega⟩,by repeat (first | exact Drawn0.refl _ | apply Drawn0.step)⟩
   rw [if_pos c8] at H
   obtain ⟨c8b0,c8b1⟩:=bT c8
   clear c8
   by_cases c9 : ((Qad l0 x8_1).f8) = x7_1
   ·rw [if_pos c9] at H
    obtain ⟨c9b0,c9b1⟩:=bT c9
    clear c9
    have H':=Zz.k H
    clear H
    have p290 : 0 <= (x8_1 : Int):=od
    have q290 : x8_1 < (l0.length : Int):=od
    obtain ⟨ad290,A290_7,c290_7,e290,hx290_0,hx290_1,hx290_2,hx290_3,hx290_4,hx290_5,hx290_6,hx290_7,hx290_8,hx290_9,hx290_10,hl290_7,hi290_7⟩:=Qby HR0.out x8_1 p290 q290
    cases e290
    have HR290_7:=Zz.k hi290_7
    have HC290_7:=Zz.k hl290_7
    clear hi290_7 hl290_7
    replace p290:=eq_true p290
    replace q290:=eq_true q290
    go_wp2
    go_roundg k1
    case measure => have:=HK1.out; omega
    case rel => exact ⟨(wrap64 (x7_1 + 1)),(wrap64 (x8_1 + 1)),rf,rf,H',⟨by have:=HK1.out; omega⟩,by repeat (first | exact Drawn0.refl _ | apply Drawn0.step)⟩
   rw [if_neg c9] at H
   obtain ⟨c9b0,c9b1⟩:=bF c9
   have H':=Zz.k H
   clear H
   have p290 : 0 <= (x8_1 : Int):=od
   have q290 : x8_1 < (l0.length : Int):=od
   obtain ⟨ad290,A290_7,c290_7,e290,hx290_0,hx290_1,hx290_2,hx290_3,hx290_4,hx290_5,hx290_6,hx290_7,hx290_8,hx290_9,hx290_10,hl290_7,hi290_7⟩:=Qby HR0.out x8_1 p290 q290
   cases e290
   have HR290_7:=Zz.k hi290_7
   have HC290_7:=Zz.k hl290_7
   clear hi290_7 hl290_7
   replace p290:=eq_true p290
   replace q290:=eq_true q290
   go_wp2
   go_roundg k1
   case measure => have:=HK1.out; omega
   case rel => exact ⟨(x7_1),(wrap64 (x8_1 + 1)),rf,rf,H',⟨by have:=HK1.out; omega⟩,by repeat (first | exact Drawn0.refl _ | apply Drawn0.step)⟩
def r4_Effective.f (k : Nat) (l0 : List (SOp)) (a1 : Int) (a2 : Int) : Option (Bool):=(r4_Count.f k l0 a1 a2).bind fun t294 => (some ((Int.tmod t294 2) == 0))
theorem r4_Effective.calls (k : Nat) (A0 : Option Addr) (c0 : Nat) (l0 : List (SOp)) (a1 : Int) (a2 : Int) (r : Bool) (w : World) (hr0 : Kd.C kOp w A0 l0.length l0) (hc0 : l0.length <= c0) (h : r4_Effective.f k l0 a1 a2 = some r) :
  Calls Tryz.prog 30 #[.slice A0 l0.length c0, .int .i64 a1, .int .i64 a2] w fun e w' => e = .returned (.bool r) /\ Drawn0 w w':=by
 have HR0:=Zz.k hr0
 have HC0:=Zz.k hc0
 clear hr0 hc0
 unfold r4_Effective.f at h; have H:=h
 clear h
 obtain ⟨t294,A4,H⟩:=bE H
 obtain rfl:=Zo H
 go_enter Tryz.func30,Tryz.ntmps30
 go_wp2_with (first | ((with_reducible refine Qac (f:=29) rfl ?_); refine gl (some 10) Tryz.func29 #[.slice A0 l0.length c0, .int .i64 a1, .int .i64 a2] (h := ?_); (with_reducible refine (r4_Count.calls k _ _ l0 a1 a2 t294 _ ?side1 ?side2 A4.out).mono ?_); (case side1 => repeat (first | exact HR0.out | (with_reducible refine Kd.C_alloc ?_ _) | (with_reducible refine Kd.C_drewN ?_ _) | (with_reducible refine Kd.C_drew ?_))); (case side2 => exact HC0.out); rintro e w' ⟨rfl,⟨nd,rfl⟩⟩; refine ⟨_,rfl, ?_⟩))
 go_ret
 exact ⟨rf,by repeat (first | exact Drawn0.refl _ | apply Drawn0.step)⟩
end
end Go.Proofs.YtonoaflfobajcaaGreatDoor.L
end
