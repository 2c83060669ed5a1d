/- Part 9 of the proof that for every argument the law CaretTells answers true: which element stands ahead of any place of any row, any element's place, and what is near it, are the page's, or the error is. -/
import Derived.Test.YtonoaflfobajcaaGreatDoorZCT8
section
namespace Go.Proofs.YtonoaflfobajcaaGreatDoor.L
open Go.RowKit Go.Proofs.YtonoaflfobajcaaGreatDoorW.PrintWords Go.Proofs.YtonoaflfobajcaaGreatDoorW.PrintLast Go.Proofs.YtonoaflfobajcaaGreatDoorW.PrintMore
set_option linter.unusedVariables false
set_option linter.unusedSimpArgs false
set_option maxHeartbeats 40000000
set_option maxRecDepth 1000000
section
attribute [local go_sem] Qbl Qbj Qbu Qbt Qbb Qba Qbk Qbi
attribute [local go_sem high] Qdb
def tree_Written.f (l0 : List (SOp)) (a1_0 : Int) (a1_1 : Int) (a1_2 : Int) : Option (Bool):=(tree_Find.f l0 a1_0 a1_1).bind fun t376 => (if t376 ≥ 0 then (if a1_2 ≥ 0 then (if 0 ≤ t376 then (if t376 < (l0.length : Int) then ((op_Size.f ((Qad l0 t376).f0) ((Qad l0 t376).f1) ((Qad l0 t376).f2) ((Qad l0 t376).f3.f0) ((Qad l0 t376).f3.f1) ((Qad l0 t376).f3.f2) ((Qad l0 t376).f4) ((Qad l0 t376).f5) ((Qad l0 t376).f6) ((Qad l0 t376).f7) ((Qad l0 t376).f8)).bind fun t378 => (some (decide (a1_2 < t378)))) else (none)) else (none)) else (some false)) else (some false))
def tree_Written.T2 : Bool × List (List Nat × List Nat):=(true,[([],[]),([0],[0]),([1],[1]),([2],[2]),([3,2],[2,3]),([4,2],[2,4]),([2,5],[2,5]),([6,2],[6]),([7],[7]),([8,7],[7,8]),([7],[7]),([7],[7]),([10,11,7],[7,10,11]),([12,7],[7,12]),([13,7,7],[7,13]),([9,14,7],[7,9,14]),([7,15],[7,15]),([16,14,0,1,2,3,4,5,6,7,8,9,10,11,12,13,14,15,16],[16])])
def tree_Written.B2 : List Nat:=[0,1,3,7,15,31,63,127,255,511,255,255,3327,7423,15615,32767,65535,131071]
theorem tree_Written.tab2 : rtab .any (Qcy Tryz.f57 2) = tree_Written.T2:=by kernel_rfl
theorem tree_Written.bits2 : Qaw tree_Written.T2.2 tree_Written.B2 = true:=by kernel_rfl
theorem tree_Written.calls (A0 : Option Addr) (c0 : Nat) (l0 : List (SOp)) (a1_0 : Int) (a1_1 : Int) (a1_2 : Int) (r : Bool) (w : World) (hr0 : Kd.C kOp w A0 l0.length l0) (hc0 : l0.length ≤ c0) (h : tree_Written.f l0 a1_0 a1_1 a1_2 = some r) :
  Calls Tryz.prog 57 #[.slice A0 l0.length c0, .agg #[.int .i64 a1_0, .int .i64 a1_1, .int .i64 a1_2]] w fun e w' => e = .returned (.bool r) ∧ Below w.heap.size w w':=by
 have hu32:=Tryz.underlying32
 have hu64:=Tryz.underlying64
 have HR0:=Aside0.mk hr0
 have HC0:=Aside0.mk hc0
 clear hr0 hc0
 have HB:=Aside0.mk (Below.refl w.heap.size w)
 unfold tree_Written.f at h; have H:=h
 clear h
 obtain ⟨t376,A3,H⟩:=bE H
 by_cases c4 : t376 ≥ 0; rotate_left
 ·rw [if_neg c4] at H
  have c4b0:=decide_eq_false c4
  clear c4
  obtain rfl:=Option.some.inj H
  go_enter Tryz.func57,Tryz.ntmps57
  try go_wp2_with (first | ((with_reducible refine Qae (N:=3) rfl ?_); refine bx 3 #[.int .i64 a1_0, .int .i64 a1_1, .int .i64 a1_2] 32 (h := ?_); intro gb375 hg w18 hbox hb; have BK375:=Aside0.mk (hbox); have GW375:=bz HB hg; have GE375:=bz HB hg; replace HB:=bs HB hb; clear hb hbox hg; obtain ⟨_,_,_,_,_,_⟩:=kc3 BK375) | ((with_reducible refine Qac (f:=62) rfl ?_); refine gl (some 11) Tryz.func62 #[.slice A0 l0.length c0, .int .i64 a1_0, .int .i64 a1_1] (h := ?_); (with_reducible refine (tree_Find.calls _ _ l0 a1_0 a1_1 t376 _ ?side1 ?side2 A3.out).mono ?_); (case side1 => exact cb HR0 HB); (case side2 => exact HC0.out); rintro e w20 ⟨rfl,hb⟩; refine ⟨_,rfl, ?_⟩; replace BK375:=bl BK375 hb; replace HB:=bs HB hb; clear hb))
  have n0_:=Aside0.mk (Qam BK375.out)
  have n1_:=Aside0.mk (Qaf HB.out)
  clear BK375
  clear HB
  have BK375:=n0_
  have HB:=n1_
  clear n0_ n1_
  refine stP (fun w' => True) 18 trivial (h:=fun hHeld => ?_); refine Qap tree_Written.tab2 tree_Written.bits2 (fun HT_ HW_ => ?_)
  generalize w20.drew = w21 at BK375 HB hHeld ⊢
  refine pu HT_ 0 12 1 (h := ?_)
  refine pu HT_ 1 13 3 (h := ?_)
  refine pu HT_ 2 14 7 (h := ?_)
  refine off HT_ 3 15 15 (h := ?_)
  refine off HT_ 4 16 31 (h := ?_)
  refine off HT_ 5 17 63 (h := ?_)
  refine pu HT_ 6 18 127 (h := ?_)
  refine pu HT_ 7 19 255 (h := ?_)
  refine off HT_ 8 20 511 (h := ?_)
  refine off HT_ 9 21 1023 (h := ?_)
  refine off HT_ 10 22 2047 (h := ?_)
  refine off HT_ 11 23 4095 (h := ?_)
  refine off HT_ 12 24 8191 (h := ?_)
  refine off HT_ 13 25 16383 (h := ?_)
  refine off HT_ 14 26 32767 (h := ?_)
  refine off HT_ 15 27 65535 (h := ?_)
  refine pu HT_ 16 28 131071 (h := ?_)
  refine pu HT_ 17 4 262143 (h := ?_)
  refine dn HT_ (h := ?_)
  try go_wp2
  go_ret
  exact ⟨re,bw HB⟩
 rw [if_pos c4] at H
 have c4b0:=decide_eq_true c4
 clear c4
 by_cases c5 : a1_2 ≥ 0; rotate_left
 ·rw [if_neg c5] at H
  have c5b0:=decide_eq_false c5
  clear c5
  obtain rfl:=Option.some.inj H
  go_enter Tryz.func57,Tryz.ntmps57
  try go_wp2_with (first | ((with_reducible refine Qae (N:=3) rfl ?_); refine bx 3 #[.int .i64 a1_0, .int .i64 a1_1, .int .i64 a1_2] 32 (h := ?_); intro gb375 hg w14 hbox hb; have BK375:=Aside0.mk (hbox); have GW375:=bz HB hg; have GE375:=bz HB hg; replace HB:=bs HB hb; clear hb hbox hg; obtain ⟨_,_,_,_,_,_⟩:=kc3 BK375) | ((with_reducible refine Qac (f:=62) rfl ?_); refine gl (some 11) Tryz.func62 #[.slice A0 l0.length c0, .int .i64 a1_0, .int .i64 a1_1] (h := ?_); (with_reducible refine (tree_Find.calls _ _ l0 a1_0 a1_1 t376 _ ?side1 ?side2 A3.out).mono ?_); (case side1 => exact cb HR0 HB); (case side2 => exact HC0.out); rintro e w16 ⟨rfl,hb⟩; refine ⟨_,rfl, ?_⟩; replace BK375:=bl BK375 hb; replace HB:=bs HB hb; clear hb))
  have n0_:=Aside0.mk (Qam BK375.out)
  have n1_:=Aside0.mk (Qaf HB.out)
  clear BK375
  clear HB
  have BK375:=n0_
  have HB:=n1_
  clear n0_ n1_
  refine stP (fun w' => E3 w' gb375 (.int .i64 a1_0) (.int .i64 a1_1) (.int .i64 a1_2)) 18 (e3 BK375) (h:=fun hHeld => ?_); refine Qap tree_Written.tab2 tree_Written.bits2 (fun HT_ HW_ => ?_)
  generalize w16.drew = w17 at BK375 HB hHeld ⊢
  refine pu HT_ 0 12 1 (h := ?_)
  refine pu HT_ 1 13 3 (h := ?_)
  refine pu HT_ 2 14 7 (h := ?_)
  refine pu HT_ 3 15 15 (h := ?_)
  refine tk HT_ HW_ hHeld 4 16 31 (h := ?_)
  refine pu HT_ 5 17 63 (h := ?_)
  refine pu HT_ 6 18 127 (h := ?_)
  refine pu HT_ 7 19 255 (h := ?_)
  refine off HT_ 8 20 511 (h := ?_)
  refine off HT_ 9 21 1023 (h := ?_)
  refine off HT_ 10 22 2047 (h := ?_)
  refine off HT_ 11 23 4095 (h := ?_)
  refine off HT_ 12 24 8191 (h := ?_)
  refine off HT_ 13 25 16383 (h := ?_)
  refine off HT_ 14 26 32767 (h := ?_)
  refine off HT_ 15 27 65535 (h := ?_)
  refine pu HT_ 16 28 131071 (h := ?_)
  refine pu HT_ 17 4 262143 (h := ?_)
  refine dn HT_ (h := ?_)
  try go_wp2
  go_ret
  exact ⟨re,bw HB⟩
 rw [if_pos c5] at H
 have c5b0:=decide_eq_true c5
 clear c5
 by_cases c6 : 0 ≤ t376; rotate_left
 ·rw [if_neg c6] at H
  exact absurd H (by simp)
 rw [if_pos c6] at H
 have c6b0:=decide_eq_true c6
 clear c6
 by_cases c7 : t376 < (l0.length : Int); rotate_left
 ·rw [if_neg c7] at H
  exact absurd H (by simp)
 rw [if_pos c7] at H
 have c7b0:=decide_eq_true c7
 clear c7
 obtain ⟨t378,A8,H⟩:=bE H
 obtain rfl:=Option.some.inj H
 go_enter Tryz.func57,Tryz.ntmps57
 try go_wp2_with (first | ((with_reducible refine Qae (N:=3) rfl ?_); refine bx 3 #[.int .i64 a1_0, .int .i64 a1_1, .int .i64 a1_2] 32 (h := ?_); intro gb375 hg w9 hbox hb; have BK375:=Aside0.mk (hbox); have GW375:=bz HB hg; have GE375:=bz HB hg; replace HB:=bs HB hb; clear hb hbox hg; obtain ⟨_,_,_,_,_,_⟩:=kc3 BK375) | ((with_reducible refine Qac (f:=62) rfl ?_); refine gl (some 11) Tryz.func62 #[.slice A0 l0.length c0, .int .i64 a1_0, .int .i64 a1_1] (h := ?_); (with_reducible refine (tree_Find.calls _ _ l0 a1_0 a1_1 t376 _ ?side1 ?side2 A3.out).mono ?_); (case side1 => exact cb HR0 HB); (case side2 => exact HC0.out); rintro e w11 ⟨rfl,hb⟩; refine ⟨_,rfl, ?_⟩; replace BK375:=bl BK375 hb; replace HB:=bs HB hb; clear hb))
 have n0_:=Aside0.mk (Qam BK375.out)
 have n1_:=Aside0.mk (Qaf HB.out)
 clear BK375
 clear HB
 have BK375:=n0_
 have HB:=n1_
 clear n0_ n1_
 have p377 : 0 ≤ (t376 : Int):=od
 have q377 : t376 < (l0.length : Int):=od
 obtain ⟨ad377,A377_7,c377_7,e377,hx377_0,hx377_1,hx377_2,hx377_3,hx377_4,hx377_5,hx377_6,hx377_7,hx377_8,hx377_9,hx377_10,hl377_7,hi377_7⟩:=Qcf HR0.out t376 p377 q377
 have hw377_10:=hx377_10
 have hw377_9:=hx377_9
 have hw377_8:=hx377_8
 have hw377_7:=hx377_7
 have hw377_6:=hx377_6
 have hw377_5:=hx377_5
 have hw377_4:=hx377_4
 have hw377_3:=hx377_3
 have hw377_2:=hx377_2
 have hw377_1:=hx377_1
 have hw377_0:=hx377_0
 cases e377
 replace hx377_0:=cl HB hx377_0
 replace hx377_1:=cl HB hx377_1
 replace hx377_2:=cl HB hx377_2
 replace hx377_3:=cl HB hx377_3
 replace hx377_4:=cl HB hx377_4
 replace hx377_5:=cl HB hx377_5
 replace hx377_6:=cl HB hx377_6
 replace hx377_7:=cl HB hx377_7
 replace hx377_8:=cl HB hx377_8
 replace hx377_9:=cl HB hx377_9
 replace hx377_10:=cl HB hx377_10
 have HR377_7:=Aside0.mk hi377_7
 have HC377_7:=Aside0.mk hl377_7
 clear hi377_7 hl377_7
 replace p377:=eq_true p377
 replace q377:=eq_true q377
 refine stP (fun w' => B3 w' gb375 (.int .i64 a1_0) (.int .i64 a1_1) (.int .i64 a1_2) (Q11 w' (ad377.add ((t376).toNat * 11)) (Qad l0 t376) A377_7 c377_7)) 18 (b3 BK375 ⟨(cW HB hw377_0),(cW HB hw377_1),(cW HB hw377_2),(cW HB hw377_3),(cW HB hw377_4),(cW HB hw377_5),(cW HB hw377_6),(cW HB hw377_7),(cW HB hw377_8),(cW HB hw377_9),(cW HB hw377_10)⟩) (h:=fun hHeld => ?_); refine Qap tree_Written.tab2 tree_Written.bits2 (fun HT_ HW_ => ?_)
 generalize w11.drew = w12 at BK375 HB HR377_7 hx377_0 hx377_1 hx377_10 hx377_2 hx377_3 hx377_4 hx377_5 hx377_6 hx377_7 hx377_8 hx377_9 hHeld ⊢
 refine pu HT_ 0 12 1 (h := ?_)
 refine pu HT_ 1 13 3 (h := ?_)
 refine pu HT_ 2 14 7 (h := ?_)
 refine pu HT_ 3 15 15 (h := ?_)
 refine tk HT_ HW_ hHeld 4 16 31 (h := ?_)
 refine pu HT_ 5 17 63 (h := ?_)
 refine pu HT_ 6 18 127 (h := ?_)
 refine pu HT_ 7 19 255 (h := ?_)
 refine pu HT_ 8 20 511 (h := ?_)
 refine pu HT_ 10 22 1535 (h := ?_)
 refine pu HT_ 11 23 3583 (h := ?_)
 refine pu HT_ 12 24 7679 (h := ?_)
 refine tk HT_ HW_ hHeld 9 21 8191 (h := ?_)
 refine tk HT_ HW_ hHeld 13 25 16383 (h := ?_)
 refine on HT_ 14 (some 26) 32767 (h:=fun K hK => ?_)
 refine gS Tryz.func78 #[.agg #[.int .i64 ((Qad l0 t376).f0), .int .i64 ((Qad l0 t376).f1), .int .i64 ((Qad l0 t376).f2), .int .i64 ((Qad l0 t376).f3.f0), .int .i64 ((Qad l0 t376).f3.f1), .int .i64 ((Qad l0 t376).f3.f2), .string ((Qad l0 t376).f4), .slice A377_7 ((Qad l0 t376).f5).length c377_7, .int .i64 ((Qad l0 t376).f6), .int .i64 ((Qad l0 t376).f7), .int .i64 ((Qad l0 t376).f8)]] (h := ?_)
 with_reducible refine (op_Size.calls ((Qad l0 t376).f0) ((Qad l0 t376).f1) ((Qad l0 t376).f2) ((Qad l0 t376).f3.f0) ((Qad l0 t376).f3.f1) ((Qad l0 t376).f3.f2) ((Qad l0 t376).f4) _ _ ((Qad l0 t376).f5) ((Qad l0 t376).f6) ((Qad l0 t376).f7) ((Qad l0 t376).f8) t378 _ ?side1 ?side2 A8.out).mono ?_
 (case side1 => exact cb HR377_7 HB)
 (case side2 => exact HC377_7.out)
 rintro e w13 ⟨rfl,hb⟩
 refine ⟨_,rfl, ?_⟩
 have n0_:=bl BK375 hb
 have n1_:=bs HB hb
 clear BK375
 clear HB
 have BK375:=n0_
 have HB:=n1_
 clear n0_ n1_
 (try clear hb)
 (try clear hb2)
 (try clear hk)
 (try clear hi)
 refine hK.out _ _ (b3 BK375 ⟨(cW HB hw377_0),(cW HB hw377_1),(cW HB hw377_2),(cW HB hw377_3),(cW HB hw377_4),(cW HB hw377_5),(cW HB hw377_6),(cW HB hw377_7),(cW HB hw377_8),(cW HB hw377_9),(cW HB hw377_10)⟩) (fun hHeld => ?_)
 clear hK K
 refine nn 26 (h := ?_)
 refine pu HT_ 15 27 65535 (h := ?_)
 refine pu HT_ 16 28 131071 (h := ?_)
 refine pu HT_ 17 4 262143 (h := ?_)
 refine dn HT_ (h := ?_)
 try go_wp2
 go_ret
 exact ⟨re,bw HB⟩
def caret_asked.f (l0 : List (SOp)) (a1_0 : Int) (a1_1 : Int) (a1_2 : Int) : Option (Int):=(tree_May.f l0).bind fun t380 => (if t380 = true then (if (!(a1_0 == 0) || (!(a1_1 == 0) || (!(a1_2 == 0)))) = true then ((tree_Written.f l0 a1_0 a1_1 a1_2).bind fun t381 => (if t381 = true then (some 0) else (some 3))) else (some 0)) else (some 1))
theorem caret_asked.calls (A0 : Option Addr) (c0 : Nat) (l0 : List (SOp)) (a1_0 : Int) (a1_1 : Int) (a1_2 : Int) (r : Int) (w : World) (hr0 : Kd.C kOp w A0 l0.length l0) (hc0 : l0.length ≤ c0) (h : caret_asked.f l0 a1_0 a1_1 a1_2 = some r) :
  Calls Tryz.prog 45 #[.slice A0 l0.length c0, .agg #[.int .i64 a1_0, .int .i64 a1_1, .int .i64 a1_2]] w fun e w' => e = .returned (.int .i64 r) ∧ Below w.heap.size w w':=by
 have hu32:=Tryz.underlying32
 have HR0:=Aside0.mk hr0
 have HC0:=Aside0.mk hc0
 clear hr0 hc0
 have HB:=Aside0.mk (Below.refl w.heap.size w)
 unfold caret_asked.f at h; have H:=h
 clear h
 obtain ⟨t380,A3,H⟩:=bE H
 by_cases c4 : t380 = true; rotate_left
 ·replace c4:=Bool.eq_false_iff.mpr c4
  subst c4
  rw [if_neg nft] at H
  obtain rfl:=Option.some.inj H
  go_enter Tryz.func45,Tryz.ntmps45
  go_wp2_with (first | ((with_reducible refine Qae (N:=3) rfl ?_); refine bx 3 #[.int .i64 a1_0, .int .i64 a1_1, .int .i64 a1_2] 32 (h := ?_); intro gb379 hg w19 hbox hb; have BK379:=Aside0.mk (hbox); have GW379:=bz HB hg; have GE379:=bz HB hg; replace HB:=bs HB hb; clear hb hbox hg) | ((with_reducible refine Qac (f:=42) rfl ?_); refine gl (some 7) Tryz.func42 #[.slice A0 l0.length c0] (h := ?_); (with_reducible refine (tree_May.calls _ _ l0 false _ ?side1 ?side2 A3.out).mono ?_); (case side1 => exact cb HR0 HB); (case side2 => exact HC0.out); rintro e w20 ⟨rfl,hb⟩; refine ⟨_,rfl, ?_⟩; replace BK379:=bl BK379 hb; replace HB:=bs HB hb; clear hb))
  go_ret
  exact ⟨re,bw HB⟩
 subst c4
 rw [if_pos rfl] at H
 by_cases c5 : (!(a1_0 == 0) || (!(a1_1 == 0) || (!(a1_2 == 0)))) = true; rotate_left
 ·rw [if_neg c5] at H
  have c5b0 : (!(a1_0 == 0) || (!(a1_1 == 0) || (!(a1_2 == 0)))) = false:=by simpa using c5
  clear c5
  obtain rfl:=Option.some.inj H
  go_enter Tryz.func45,Tryz.ntmps45
  go_wp2_with (first | ((with_reducible refine Qae (N:=3) rfl ?_); refine bx 3 #[.int .i64 a1_0, .int .i64 a1_1, .int .i64 a1_2] 32 (h := ?_); intro gb379 hg w16 hbox hb; have BK379:=Aside0.mk (hbox); have GW379:=bz HB hg; have GE379:=bz HB hg; replace HB:=bs HB hb; clear hb hbox hg) | ((with_reducible refine Qac (f:=42) rfl ?_); refine gl (some 7) Tryz.func42 #[.slice A0 l0.length c0] (h := ?_); (with_reducible refine (tree_May.calls _ _ l0 true _ ?side1 ?side2 A3.out).mono ?_); (case side1 => exact cb HR0 HB); (case side2 => exact HC0.out); rintro e w17 ⟨rfl,hb⟩; refine ⟨_,rfl, ?_⟩; replace BK379:=bl BK379 hb; replace HB:=bs HB hb; clear hb; obtain ⟨_,_,_,_,_,_⟩:=kc3 BK379))
  go_ret
  exact ⟨re,bw HB⟩
 rw [if_pos c5] at H
 have c5b0 : (!(a1_0 == 0) || (!(a1_1 == 0) || (!(a1_2 == 0)))) = true:=c5
 clear c5
 obtain ⟨t381,A6,H⟩:=bE H
 by_cases c7 : t381 = true
 ·subst c7
  rw [if_pos rfl] at H
  obtain rfl:=Option.some.inj H
  go_enter Tryz.func45,Tryz.ntmps45
  go_wp2_with (first | ((with_reducible refine Qae (N:=3) rfl ?_); refine bx 3 #[.int .i64 a1_0, .int .i64 a1_1, .int .i64 a1_2] 32 (h := ?_); intro gb379 hg w8 hbox hb; have BK379:=Aside0.mk (hbox); have GW379:=bz HB hg; have GE379:=bz HB hg; replace HB:=bs HB hb; clear hb hbox hg) | ((with_reducible refine Qac (f:=42) rfl ?_); refine gl (some 7) Tryz.func42 #[.slice A0 l0.length c0] (h := ?_); (with_reducible refine (tree_May.calls _ _ l0 true _ ?side1 ?side2 A3.out).mono ?_); (case side1 => exact cb HR0 HB); (case side2 => exact HC0.out); rintro e w9 ⟨rfl,hb⟩; refine ⟨_,rfl, ?_⟩; replace BK379:=bl BK379 hb; replace HB:=bs HB hb; clear hb; obtain ⟨_,_,_,_,_,_⟩:=kc3 BK379) | (go_at_call 57; (with_reducible refine (tree_Written.calls _ _ l0 a1_0 a1_1 a1_2 true _ ?side1 ?side2 A6.out).mono ?_); (case side1 => exact cb HR0 HB); (case side2 => exact HC0.out); rintro e w11 ⟨rfl,hb⟩; replace BK379:=bl BK379 hb; replace HB:=bs HB hb; clear hb))
  go_ret
  exact ⟨re,bw HB⟩
 replace c7:=Bool.eq_false_iff.mpr c7
 subst c7
 rw [if_neg nft] at H
 obtain rfl:=Option.some.inj H
 go_enter Tryz.func45,Tryz.ntmps45
 go_wp2_with (first | ((with_reducible refine Qae (N:=3) rfl ?_); refine bx 3 #[.int .i64 a1_0, .int .i64 a1_1, .int .i64 a1_2] 32 (h := ?_); intro gb379 hg w12 hbox hb; have BK379:=Aside0.mk (hbox); have GW379:=bz HB hg; have GE379:=bz HB hg; replace HB:=bs HB hb; clear hb hbox hg) | ((with_reducible refine Qac (f:=42) rfl ?_); refine gl (some 7) Tryz.func42 #[.slice A0 l0.length c0] (h := ?_); (with_reducible refine (tree_May.calls _ _ l0 true _ ?side1 ?side2 A3.out).mono ?_); (case side1 => exact cb HR0 HB); (case side2 => exact HC0.out); rintro e w13 ⟨rfl,hb⟩; refine ⟨_,rfl, ?_⟩; replace BK379:=bl BK379 hb; replace HB:=bs HB hb; clear hb; obtain ⟨_,_,_,_,_,_⟩:=kc3 BK379) | (go_at_call 57; (with_reducible refine (tree_Written.calls _ _ l0 a1_0 a1_1 a1_2 false _ ?side1 ?side2 A6.out).mono ?_); (case side1 => exact cb HR0 HB); (case side2 => exact HC0.out); rintro e w15 ⟨rfl,hb⟩; replace BK379:=bl BK379 hb; replace HB:=bs HB hb; clear hb))
 go_ret
 exact ⟨re,bw HB⟩
end
section
theorem doc_Seen_f {L : List SOp} (hs : smalls L = true) (h : RowOk L) : doc_Seen.f L = some (Qce L):=by unfold doc_Seen.f; exact if_pos ⟨hs,(mayB_iff L).2 h⟩
theorem seen_len {L : List SOp} (h : RowOk L) : (Qce L).length ≤ 200:=Nat.le_trans (List.length_filter_le _ _) (by rw [(Qcs h).2]; exact h.sums.2)
end
section
def idxE (l : List SElem) (e : SElem) : Int:=Qaz (fun i => decide (Qaa l (i : Int) = e)) l.length l.length 0
theorem eqE_iff (x : SElem) (a b c : Int) : (x.f0 == a && (x.f1 == b && (x.f2 == c))) = decide (x = ⟨a,b,c⟩):=by
 rw [Bool.eq_iff_iff]
 simp only [Bool.and_eq_true,beq_iff_eq,decide_eq_true_eq]
 exact ⟨fun h => SElem.ext3 h.1 h.2.1 h.2.2,fun h => by subst h; exact ⟨rfl,rfl,rfl⟩⟩
theorem At_loop (l : List SElem) (hl : l.length ≤ 1000000000) (a b c : Int) : ∀ d i,i + d = l.length → Ev (fun k => r0_At.l0 k l (i : Int) a b c) (Qaz (fun i => decide (Qaa l (i : Int) = ⟨a,b,c⟩)) l.length d i)
 | 0,i,h => Ev.step (f:=fun _ => some (-1)) (fun k => by simp only [r0_At.l0]; rw [if_neg (by omega)]) (Ev.now _)
 | d + 1,i,h => by
  have ih:=At_loop l hl a b c d (i + 1) (by omega)
  unfold Qaz
  rw [if_pos (show i < l.length by omega)]
  by_cases he : Qaa l (i : Int) = ⟨a,b,c⟩
  ·rw [if_pos (by simp [he])]
   refine Ev.step (f:=fun _ => some (i : Int)) (fun k => ?_) (Ev.now _)
   simp only [r0_At.l0,eqE_iff]
   rw [if_pos (by omega),if_pos (by omega),if_pos (by simp [he])]
  ·rw [if_neg (by simp [he])]
   refine Ev.step (fun k => ?_) ih
   simp only [r0_At.l0,eqE_iff]
   rw [if_pos (by omega),if_pos (by omega),if_neg (by simp [he]),Qdf (show i < l.length by omega) (by omega)]
theorem At_ev (l : List SElem) (hl : l.length ≤ 1000000000) (e : SElem) : Ev (fun k => r0_At.f k l e.f0 e.f1 e.f2) (idxE l e) :=
 At_loop l hl e.f0 e.f1 e.f2 l.length 0 (Nat.zero_add _)
theorem idxE_cases (l : List SElem) (e : SElem) : (∃ i,∃ h : i < l.length,l[i] = e ∧ (∀ j (hj : j < i),l[j]'(by omega) ≠ e) ∧ idxE l e = (i : Int)) ∨ (e ∉ l ∧ idxE l e = -1):=by
 unfold idxE
 rcases firstAt_cases (fun i => decide (Qaa l (i : Int) = e)) l.length with ⟨i,h1,h2,h3,h4⟩ | ⟨h1,h2⟩
 ·refine .inl ⟨i,h1, ?_,fun j hj => ?_,h4⟩
  ·rw [Qan _ _ h1] at h2; simpa using h2
  ·have:=h3 j hj
   rw [Qan _ _ (by omega)] at this; simpa using this
 ·refine .inr ⟨fun hm => ?_,h2⟩
  obtain ⟨i,hi,rfl⟩:=List.getElem_of_mem hm
  have:=h1 i hi
  rw [Qan _ _ hi] at this; simp at this
theorem idxE_nonneg (l : List SElem) (e : SElem) : 0 ≤ idxE l e ↔ e ∈ l:=by
 rcases idxE_cases l e with ⟨i,h,rfl,_,e'⟩ | ⟨hn,e'⟩
 ·rw [e']; exact ⟨fun _ => List.getElem_mem h,fun _ => by omega⟩
 ·rw [e']; exact ⟨fun h => by omega,fun h => absurd h hn⟩
end
section
def Qcn (l : List SOp) (e : SElem) : List SElem:=(Qce l).filter fun x => decide (x ∈ (ordL l).take (idxE (ordL l) e + 1).toNat)
theorem begin_not {L : List SOp} (h : RowOk L) {e : SElem} (he : Qaj e = true) : e ∉ ordL L:=by
 intro hm
 obtain ⟨p,hp,e0,_,_,_⟩:=(mem_ordL h e).1 hm
 have:=(opOk_pos (h.oks p hp)).1
 unfold Qaj at he
 simp only [Bool.and_eq_true,beq_iff_eq] at he
 omega
theorem upto_none {L : List SOp} {e : SElem} (he : e ∉ ordL L) : Qcn L e = []:=by
 unfold Qcn
 rcases idxE_cases (ordL L) e with ⟨i,hi,hh,_,_⟩ | ⟨_,e1⟩
 ·exact absurd (by rw [← hh]; exact List.getElem_mem hi) he
 ·rw [e1]
  show List.filter (fun x => decide (x ∈ (ordL L).take 0)) _ = _
  simp
end
section
theorem Index_loop (l : List SElem) (hl : l.length ≤ 1000000000) (a b c : Int) : ∀ d i,i + d = l.length → Ev (fun k => api_Elem_74.l0 k l (l.length : Int) (i : Int) a b c) (Qaz (fun i => decide (Qaa l (i : Int) = ⟨a,b,c⟩)) l.length d i)
 | 0,i,h => Ev.step (f:=fun _ => some (-1)) (fun k => by simp only [api_Elem_74.l0]; rw [if_neg (by omega)]) (Ev.now _)
 | d + 1,i,h => by
  have ih:=Index_loop l hl a b c d (i + 1) (by omega)
  have hq : (a == (Qaa l (i : Int)).f0 && (b == (Qaa l (i : Int)).f1 && (c == (Qaa l (i : Int)).f2))) = decide (Qaa l (i : Int) = ⟨a,b,c⟩):=by
   rw [← eqE_iff,Bool.beq_comm,Bool.beq_comm (a:=b),Bool.beq_comm (a:=c)]
  unfold Qaz
  rw [if_pos (show i < l.length by omega)]
  by_cases he : Qaa l (i : Int) = ⟨a,b,c⟩
  ·rw [if_pos (by simp [he])]
   refine Ev.step (f:=fun _ => some (i : Int)) (fun k => ?_) (Ev.now _)
   simp only [api_Elem_74.l0,hq]
   rw [if_pos (by omega),if_pos (by omega),if_pos (by omega),if_pos (by simp [he])]
  ·rw [if_neg (by simp [he])]
   refine Ev.step (fun k => ?_) ih
   simp only [api_Elem_74.l0,hq]
   rw [if_pos (by omega),if_pos (by omega),if_pos (by omega),if_neg (by simp [he]),Qdf (show i < l.length by omega) (by omega)]
theorem Index_ev (l : List SElem) (hl : l.length ≤ 1000000000) (e : SElem) : Ev (fun k => api_Elem_74.f k l e.f0 e.f1 e.f2) (idxE l e):=Index_loop l hl e.f0 e.f1 e.f2 l.length 0 (Nat.zero_add _)
end
section
theorem index_calls (A : Option Addr) (c : Nat) (l : List SElem) (e : SElem) (w : World) (hl : l.length ≤ 1000000000) (hr : Kd.C Qar w A l.length l) (hc : l.length ≤ c) :
  Calls Tryz.prog 74 #[.slice A l.length c,elV e] w fun r w' => r = .returned (.int .i64 (idxE l e)) ∧ Below w.heap.size w w':=by
 obtain ⟨k,hk⟩:=Ev.rounds (Index_ev l hl e)
 exact api_Elem_74.calls k A c l e.f0 e.f1 e.f2 (idxE l e) w hr hc hk
theorem contains_calls (A : Option Addr) (c : Nat) (l : List SElem) (e : SElem) (w : World) (hl : l.length ≤ 1000000000) (hr : Kd.C Qar w A l.length l) (hc : l.length ≤ c) :
  Calls Tryz.prog 76 #[.slice A l.length c,elV e] w fun r w' => r = .returned (.bool (decide (e ∈ l))) ∧ Below w.heap.size w w':=by
 have hd : decide (e ∈ l) = decide (idxE l e ≥ 0):=by
  rw [Bool.eq_iff_iff,decide_eq_true_eq,decide_eq_true_eq]; exact (idxE_nonneg l e).symm
 rw [hd]
 obtain ⟨k,hk⟩:=Ev.rounds (Index_ev l hl e)
 exact api_Elem_76.calls k A c l e.f0 e.f1 e.f2 (decide (idxE l e ≥ 0)) w hr hc (by
  unfold api_Elem_76.f
  rw [show api_Elem_74.f k l e.f0 e.f1 e.f2 = some (idxE l e) from hk]; rfl)
theorem upto1_calls (g : Nat) (A : Option Addr) (n c : Nat) (l : List SElem) (x : SElem) (W : World) (h1 : W.cell? ⟨g,0,none⟩ = some (.slice A n c)) (hn : l.length = n) (hl : n ≤ 1000000000) (hr : Kd.C Qar W A n l) (hc : n ≤ c) :
  Calls Tryz.prog 75 #[elV x, .pointer (some ⟨g,0,none⟩)] W fun e w' => e = .returned (.bool (!decide (x ∈ l))) ∧ Below W.heap.size W w':=by
 subst hn
 have hal : Below W.heap.size W (W.alloc (.cells #[.int .i64 x.f0, .int .i64 x.f1, .int .i64 x.f2] 32)):=Qag (Below.refl _ _) _
 have HCT:=Aside0.mk (contains_calls A c l x _ hl (Kd.C_below hr hal) hc)
 have HAL:=Aside0.mk hal
 have d1:=Qab hal h1
 unfold elV at HCT ⊢
 clear hr hc hl hal h1
 go_enter Tryz.func75,Tryz.ntmps75
 go_wp2_with fail
 refine HCT.out.mono ?_
 rintro e w2 ⟨rfl,hb2⟩
 have HB2:=Aside0.mk (Qav HAL.out hb2)
 clear HCT hb2
 go_wp2
 go_ret
 exact ⟨rfl,HB2.out⟩
def caret_Upto.f (l0 : List (SOp)) (a1_0 : Int) (a1_1 : Int) (a1_2 : Int) : Option (List SElem):=if smalls l0 = true ∧ mayB l0 = true then some (Qcn l0 ⟨a1_0,a1_1,a1_2⟩) else none
theorem caret_Upto.calls (A0 : Option Addr) (c0 : Nat) (l0 : List (SOp)) (a1_0 : Int) (a1_1 : Int) (a1_2 : Int) (r : List (SElem)) (w : World) (hr0 : Kd.C kOp w A0 l0.length l0) (hc0 : l0.length ≤ c0) (h : caret_Upto.f l0 a1_0 a1_1 a1_2 = some r) :
  Calls Tryz.prog 46 #[.slice A0 l0.length c0, .agg #[.int .i64 a1_0, .int .i64 a1_1, .int .i64 a1_2]] w fun e w' => ∃ v0_ : Value,e = .returned (v0_) ∧ Kd.R Qar 32 w' w.heap.size (fun _ => True) v0_ r ∧ Below w.heap.size w w':=by
 unfold caret_Upto.f at h
 split at h
 case isFalse => cases h
 rename_i hsm
 obtain ⟨hs,hm⟩:=hsm
 obtain rfl:=Option.some.inj h
 have hrow:=(mayB_iff l0).1 hm
 have hal : Below w.heap.size w (w.alloc (.cells #[.int .i64 a1_0, .int .i64 a1_1, .int .i64 a1_2] 32)):=Qag (Below.refl _ _) _
 have HBX:=Aside0.mk hal
 have hb0 : (w.alloc (.cells #[.int .i64 a1_0, .int .i64 a1_1, .int .i64 a1_2] 32)).cell? ⟨w.heap.size,0,none⟩ = some (.int .i64 a1_0):=by simp
 have hb1 : (w.alloc (.cells #[.int .i64 a1_0, .int .i64 a1_1, .int .i64 a1_2] 32)).cell? ⟨w.heap.size,1,none⟩ = some (.int .i64 a1_1):=by simp
 have hb2 : (w.alloc (.cells #[.int .i64 a1_0, .int .i64 a1_1, .int .i64 a1_2] 32)).cell? ⟨w.heap.size,2,none⟩ = some (.int .i64 a1_2):=by simp
 have HSZ:=Aside0.mk (show (w.alloc (.cells #[.int .i64 a1_0, .int .i64 a1_1, .int .i64 a1_2] 32)).heap.size = w.heap.size + 1 by simp)
 have HALL:=Aside0.mk (tree_All.calls A0 c0 l0 (ordL l0) _ (Kd.C_below hr0 hal) hc0 (tree_All_f hs hrow))
 have HSEEN:=Aside0.mk (fun (W : World) (hb : Below w.heap.size w W) => doc_Seen.calls A0 c0 l0 (Qce l0) W (Kd.C_below hr0 hb) hc0 (doc_Seen_f hs hrow))
 have HROW:=Aside0.mk hrow
 have hlen : (ordL l0).length ≤ 200:=by rw [(Qcs hrow).2]; exact hrow.sums.2
 have HUP:=Aside0.mk (show Qcn l0 ⟨a1_0,a1_1,a1_2⟩ = (Qce l0).filter fun x => !!decide (x ∈ (ordL l0).take (idxE (ordL l0) ⟨a1_0,a1_1,a1_2⟩ + 1).toNat) by unfold Qcn; simp)
 have HIX:=Aside0.mk (idxE_cases (ordL l0) ⟨a1_0,a1_1,a1_2⟩)
 have HLEN:=Aside0.mk hlen
 have hslen:=Nat.le_trans (List.length_filter_le _ _ : (Qce l0).length ≤ (ordL l0).length) hlen
 have HSL:=Aside0.mk hslen
 clear hr0 hc0 h hm hs hrow hlen hslen hal
 go_enter Tryz.func46,Tryz.ntmps46
 go_wp2_with fail
 refine HALL.out.mono ?_
 rintro e wA ⟨vA,rfl,hRA,hbA⟩
 obtain ⟨AA,cA,rfl⟩:=Kd.R_slice hRA
 obtain ⟨_,hcA,hCA⟩:=Kd.R_reads' hRA
 replace hb0:=Qab hbA hb0
 replace hb1:=Qab hbA hb1
 replace hb2:=Qab hbA hb2
 have HIC:=Aside0.mk (index_calls AA cA (ordL l0) ⟨a1_0,a1_1,a1_2⟩ wA (by have:=HLEN.out; omega) hCA hcA)
 have HCA:=Aside0.mk hCA
 have HBA:=Aside0.mk (Qav HBX.out hbA)
 have HRA:=Aside0.mk (Kd.R_mono (Kd.R_bound hRA) (ok':=fun k => k < wA.heap.size) (fun k hk => hk.2.2.1))
 clear hRA hbA hCA HALL
 simp only [elV] at HIC
 generalize hix : idxE (ordL l0) ⟨a1_0,a1_1,a1_2⟩ = ix at HIC HUP HIX
 go_wp2_with fail
 refine HIC.out.mono ?_
 rintro e wI ⟨rfl,hbI⟩
 have HBI:=Aside0.mk (Qav HBA.out hbI)
 have HAI:=Aside0.mk hbI
 obtain ⟨n,hn,hw,hnt⟩ : ∃ n : Nat,n ≤ (ordL l0).length ∧ wrap64 (ix + 1) = (n : Int) ∧ (ix + 1).toNat = n:=by
  have:=HLEN.out
  rcases HIX.out with ⟨i,hi,_,_,e⟩ | ⟨_,e⟩
  ·rw [e]; exact ⟨i + 1,by omega,by rw [Qai (by omega) (by omega)]; omega,by omega⟩
  ·rw [e]; exact ⟨0,by omega,by rw [Qai (by omega) (by omega)]; rfl,rfl⟩
 rw [hnt] at HUP
 clear HIC HIX hbI hix hb0 hb1 hb2 hnt
 have hn0 : (0 : Int) ≤ (n : Int):=by omega
 have hnc : (n : Int) ≤ (cA : Int):=by omega
 have hnc' : ¬ (cA : Int) < (n : Int):=by omega
 rcases AA with _ | ad
 ·have hz : (ordL l0).length = 0:=by
   rcases Nat.eq_zero_or_pos (ordL l0).length with h | h
   ·exact h
   ·obtain ⟨_,h',_⟩:=HCA.out.2.2 h
    cases h'
  obtain rfl : n = 0:=by omega
  have hO : ordL l0 = []:=List.eq_nil_of_length_eq_zero hz
  have HUP2:=HUP.out
  rw [hO,List.take_zero] at HUP2
  have HUP2:=Aside0.mk HUP2
  have hal2 : Below wI.heap.size wI (wI.alloc (.cells #[.slice none 0 cA] 23)):=Qag (Below.refl _ _) _
  have HAL2:=Aside0.mk hal2
  have HBW:=Aside0.mk (Qav HBI.out hal2)
  have HC:=Aside0.mk (show (wI.alloc (.cells #[.slice none 0 cA] 23)).cell? ⟨wI.heap.size,0,none⟩ = some (.slice none 0 cA) by simp)
  have HZ:=Aside0.mk (show (wI.alloc (.cells #[.slice none 0 cA] 23)).heap.size = wI.heap.size + 1 by simp)
  clear hal2
  go_wp2_with fail
  generalize (wI.alloc (.cells #[.slice none 0 cA] 23)) = wJ at HAL2 HBW HC HZ ⊢
  refine (HSEEN.out _ HBW.out).mono ?_
  rintro e wS ⟨vS,rfl,hRS,hbS⟩
  obtain ⟨AS,cS,rfl⟩:=Kd.R_slice hRS
  have hown:=Kd.R_base hRS
  have hszI:=HAI.out.size
  have hszJ:=HZ.out
  have hszS:=hbS.size
  have hls : (Qce l0).length ≤ 1000000000:=by have:=HSL.out; unfold Qce; omega
  have hD:=DeleteFuncElem 75 #[.pointer (some ⟨wI.heap.size,0,none⟩)] wJ.heap.size cS AS (Qce l0) (fun x => !decide (x ∈ ([] : List SElem))) wS
   (enters_at Tryz.func75 (by kernel_rfl) rfl) hls hRS (fun W x hx hg => by
    have k1:=Qau hg (fun e => by have:=hown _ e.symm; simp only at this; omega) (Qab hbS HC.out)
    exact upto1_calls _ none 0 cA ([] : List SElem) x W k1 rfl (by omega) ⟨rfl,Nat.zero_le _,fun h => absurd h (by decide)⟩ (Nat.zero_le _))
  have HD:=Aside0.mk hD
  have HBA2:=Aside0.mk (Qav HBW.out hbS)
  have HOWN:=Aside0.mk hown
  have HS1:=Aside0.mk (And.intro hszI (And.intro hszJ hszS))
  clear hD hRS hbS hown hszI hszJ hszS
  go_wp2_with fail
  refine HD.out.mono ?_
  rintro e w2 ⟨v,rfl,hRv,hgv⟩
  have HRV:=Aside0.mk hRv
  have HGV:=Aside0.mk hgv
  clear hRv hgv
  go_wp2
  go_ret
  have hz:=HBW.out.size
  refine ⟨_,rfl,by rw [HUP2.out]; exact Kd.R_lower HRV.out hz,pw_below_grown HBA2.out _ HBA2.out.size HGV.out (fun k hk => by have:=HOWN.out k hk; omega)⟩
 ·have hal2 : Below wI.heap.size wI (wI.alloc (.cells #[.slice (some ad) n cA] 23)):=Qag (Below.refl _ _) _
  have HAL2:=Aside0.mk hal2
  have HBW:=Aside0.mk (Qav HBI.out hal2)
  have HC:=Aside0.mk (show (wI.alloc (.cells #[.slice (some ad) n cA] 23)).cell? ⟨wI.heap.size,0,none⟩ = some (.slice (some ad) n cA) by simp)
  have HZ:=Aside0.mk (show (wI.alloc (.cells #[.slice (some ad) n cA] 23)).heap.size = wI.heap.size + 1 by simp)
  clear hal2
  go_wp2_with fail
  generalize (wI.alloc (.cells #[.slice (some ad) n cA] 23)) = wJ at HAL2 HBW HC HZ ⊢
  refine (HSEEN.out _ HBW.out).mono ?_
  rintro e wS ⟨vS,rfl,hRS,hbS⟩
  obtain ⟨AS,cS,rfl⟩:=Kd.R_slice hRS
  have hown:=Kd.R_base hRS
  have hszI:=HAI.out.size
  have hszJ:=HZ.out
  have hszS:=hbS.size
  have hls : (Qce l0).length ≤ 1000000000:=by have:=HSL.out; unfold Qce; omega
  have hD:=DeleteFuncElem 75 #[.pointer (some ⟨wI.heap.size,0,none⟩)] wJ.heap.size cS AS (Qce l0) (fun x => !decide (x ∈ (ordL l0).take n)) wS
   (enters_at Tryz.func75 (by kernel_rfl) rfl) hls hRS (fun W x hx hg => by
    have k1:=Qau hg (fun e => by have:=hown _ e.symm; simp only at this; omega) (Qab hbS HC.out)
    have hRW:=Kd.R_step HRA.out (w1:=W) (fun k ho hlt => ((hg.block k (by omega) (fun e => by have:=hown _ e.symm; omega)).trans (hbS.block k (by omega))).trans ((HAL2.out.block k (by omega)).trans (HAI.out.block k hlt)))
    have hln : ((ordL l0).take n).length = n:=by rw [List.length_take]; omega
    have hC:=Kd.C_take (Kd.R_reads' hRW).2.2 hn
    rw [hln] at hC
    exact upto1_calls _ _ n _ _ x W k1 hln (by have:=HLEN.out; omega) hC (by omega))
  have HD:=Aside0.mk hD
  have HBA2:=Aside0.mk (Qav HBW.out hbS)
  have HOWN:=Aside0.mk hown
  have HS1:=Aside0.mk (And.intro hszI (And.intro hszJ hszS))
  clear hD hRS hbS hown hszI hszJ hszS
  go_wp2_with fail
  refine HD.out.mono ?_
  rintro e w2 ⟨v,rfl,hRv,hgv⟩
  have HRV:=Aside0.mk hRv
  have HGV:=Aside0.mk hgv
  clear hRv hgv
  go_wp2
  go_ret
  have hz:=HBW.out.size
  refine ⟨_,rfl,by rw [HUP.out]; exact Kd.R_lower HRV.out hz,pw_below_grown HBA2.out _ HBA2.out.size HGV.out (fun k hk => by have:=HOWN.out k hk; omega)⟩
end
section
attribute [local go_sem] Qbl Qbj Qbu Qbt Qbb Qba Qbk Qbi
attribute [local go_sem high] Qdb
def caret_Place.f (l0 : List (SOp)) (a1_0 : Int) (a1_1 : Int) (a1_2 : Int) : Option (Int × Int):=(caret_asked.f l0 a1_0 a1_1 a1_2).bind fun t383 => (if t383 = 0 then ((caret_Upto.f l0 a1_0 a1_1 a1_2).bind fun t384 => (some ((t384.length : Int),0))) else (some (0,t383)))
theorem caret_Place.calls (A0 : Option Addr) (c0 : Nat) (l0 : List (SOp)) (a1_0 : Int) (a1_1 : Int) (a1_2 : Int) (r1 : Int) (r2 : Int) (w : World) (hr0 : Kd.C kOp w A0 l0.length l0) (hc0 : l0.length ≤ c0) (h : caret_Place.f l0 a1_0 a1_1 a1_2 = some (r1,r2)) :
  Calls Tryz.prog 12 #[.slice A0 l0.length c0, .agg #[.int .i64 a1_0, .int .i64 a1_1, .int .i64 a1_2]] w fun e w' => e = .returned (.tuple #[.int .i64 r1, .int .i64 r2]) ∧ Below w.heap.size w w':=by
 have hu32:=Tryz.underlying32
 have HR0:=Aside0.mk hr0
 have HC0:=Aside0.mk hc0
 clear hr0 hc0
 have HB:=Aside0.mk (Below.refl w.heap.size w)
 unfold caret_Place.f at h; have H:=h
 clear h
 obtain ⟨t383,A3,H⟩:=bE H
 by_cases c4 : t383 = 0; rotate_left
 ·rw [if_neg c4] at H
  obtain ⟨c4b0,c4b1⟩:=bF c4
  simp only [Option.some.injEq,Prod.mk.injEq] at H
  obtain ⟨rfl,rfl⟩:=H
  go_enter Tryz.func12,Tryz.ntmps12
  go_wp2_with (first | ((with_reducible refine Qae (N:=3) rfl ?_); refine bx 3 #[.int .i64 a1_0, .int .i64 a1_1, .int .i64 a1_2] 32 (h := ?_); intro gb382 hg w12 hbox hb; have BK382:=Aside0.mk (hbox); have GW382:=bz HB hg; have GE382:=bz HB hg; replace HB:=bs HB hb; clear hb hbox hg; obtain ⟨_,_,_,_,_,_⟩:=kc3 BK382) | ((with_reducible refine Qac (f:=45) rfl ?_); refine gl (some 9) Tryz.func45 #[.slice A0 l0.length c0, .agg #[.int .i64 a1_0, .int .i64 a1_1, .int .i64 a1_2]] (h := ?_); (with_reducible refine (caret_asked.calls _ _ l0 a1_0 a1_1 a1_2 t383 _ ?side1 ?side2 A3.out).mono ?_); (case side1 => exact cb HR0 HB); (case side2 => exact HC0.out); rintro e w14 ⟨rfl,hb⟩; refine ⟨_,rfl, ?_⟩; replace BK382:=bl BK382 hb; replace HB:=bs HB hb; clear hb))
  go_ret2
  exact ⟨re,bw HB⟩
 rw [if_pos c4] at H
 obtain ⟨c4b0,c4b1⟩:=bT c4
 clear c4
 obtain ⟨t384,A5,H⟩:=bE H
 simp only [Option.some.injEq,Prod.mk.injEq] at H
 obtain ⟨rfl,rfl⟩:=H
 go_enter Tryz.func12,Tryz.ntmps12
 go_wp2_with (first | ((with_reducible refine Qae (N:=3) rfl ?_); refine bx 3 #[.int .i64 a1_0, .int .i64 a1_1, .int .i64 a1_2] 32 (h := ?_); intro gb382 hg w6 hbox hb; have BK382:=Aside0.mk (hbox); have GW382:=bz HB hg; have GE382:=bz HB hg; replace HB:=bs HB hb; clear hb hbox hg; obtain ⟨_,_,_,_,_,_⟩:=kc3 BK382) | ((with_reducible refine Qac (f:=45) rfl ?_); refine gl (some 9) Tryz.func45 #[.slice A0 l0.length c0, .agg #[.int .i64 a1_0, .int .i64 a1_1, .int .i64 a1_2]] (h := ?_); (with_reducible refine (caret_asked.calls _ _ l0 a1_0 a1_1 a1_2 t383 _ ?side1 ?side2 A3.out).mono ?_); (case side1 => exact cb HR0 HB); (case side2 => exact HC0.out); rintro e w8 ⟨rfl,hb⟩; refine ⟨_,rfl, ?_⟩; replace BK382:=bl BK382 hb; replace HB:=bs HB hb; clear hb; obtain ⟨_,_,_,_,_,_⟩:=kc3 BK382) | ((with_reducible refine Qac (f:=46) rfl ?_); refine gl (some 15) Tryz.func46 #[.slice A0 l0.length c0, .agg #[.int .i64 a1_0, .int .i64 a1_1, .int .i64 a1_2]] (h := ?_); (with_reducible refine (caret_Upto.calls _ _ l0 a1_0 a1_1 a1_2 t384 _ ?side1 ?side2 A5.out).mono ?_); (case side1 => exact cb HR0 HB); (case side2 => exact HC0.out); rintro e w10 ⟨v385,rfl,ho0,hb⟩; refine ⟨_,rfl, ?_⟩; have HO386:=Aside0.mk (Kd.R_lower (Kd.R_newB ho0 (kk BK382)) (Qak (bw HB))); replace BK382:=bl BK382 hb; replace HB:=bs HB hb; clear hb; clear ho0; obtain ⟨Ao11,co11,eo11⟩:=Kd.R_slice HO386.out; subst eo11))
 go_ret2
 exact ⟨re,bw HB⟩
def caret_Near.f (l0 : List (SOp)) (a1_0 : Int) (a1_1 : Int) (a1_2 : Int) : Option (Int × Int × Int × Int):=(caret_asked.f l0 a1_0 a1_1 a1_2).bind fun t389 => (if t389 = 0 then ((caret_Upto.f l0 a1_0 a1_1 a1_2).bind fun t390 => (if (t390.length : Int) = 0 then (some (0,0,0,0)) else (if 0 ≤ (wrap64 ((t390.length : Int) - 1)) then (if (wrap64 ((t390.length : Int) - 1)) < (t390.length : Int) then (some ((Qaa t390 (wrap64 ((t390.length : Int) - 1))).f0,(Qaa t390 (wrap64 ((t390.length : Int) - 1))).f1,(Qaa t390 (wrap64 ((t390.length : Int) - 1))).f2,0)) else (none)) else (none)))) else (some (0,0,0,t389)))
theorem caret_Near.calls (A0 : Option Addr) (c0 : Nat) (l0 : List (SOp)) (a1_0 : Int) (a1_1 : Int) (a1_2 : Int) (r1 : Int) (r2 : Int) (r3 : Int) (r4 : Int) (w : World) (hr0 : Kd.C kOp w A0 l0.length l0) (hc0 : l0.length ≤ c0) (h : caret_Near.f l0 a1_0 a1_1 a1_2 = some (r1,r2,r3,r4)) :
  Calls Tryz.prog 13 #[.slice A0 l0.length c0, .agg #[.int .i64 a1_0, .int .i64 a1_1, .int .i64 a1_2]] w fun e w' => e = .returned (.tuple #[.agg #[.int .i64 r1, .int .i64 r2, .int .i64 r3], .int .i64 r4]) ∧ Below w.heap.size w w':=by
 have hu32:=Tryz.underlying32
 have HR0:=Aside0.mk hr0
 have HC0:=Aside0.mk hc0
 clear hr0 hc0
 have HB:=Aside0.mk (Below.refl w.heap.size w)
 unfold caret_Near.f at h; have H:=h
 clear h
 obtain ⟨t389,A3,H⟩:=bE H
 by_cases c4 : t389 = 0; rotate_left
 ·rw [if_neg c4] at H
  obtain ⟨c4b0,c4b1⟩:=bF c4
  simp only [Option.some.injEq,Prod.mk.injEq] at H
  obtain ⟨rfl,rfl,rfl,rfl⟩:=H
  go_enter Tryz.func13,Tryz.ntmps13
  go_wp2_with (first | ((with_reducible refine Qae (N:=3) rfl ?_); refine bx 3 #[.int .i64 a1_0, .int .i64 a1_1, .int .i64 a1_2] 32 (h := ?_); intro gb387 hg w28 hbox hb; have BK387:=Aside0.mk (hbox); have GW387:=bz HB hg; have GE387:=bz HB hg; replace HB:=bs HB hb; clear hb hbox hg) | ((with_reducible refine Qae (N:=4) rfl ?_); refine bx 4 #[.int .i64 0, .int .i64 0, .int .i64 0] 32 (h := ?_); intro gb388 hg w29 hbox hb; have BK388:=Aside0.mk (hbox); have GW388:=bz HB hg; have GE388:=bz HB hg; have NB387_388:=bn BK387 hg; have NB388_387:=bm BK387 hg; replace BK387:=bl BK387 hb; replace HB:=bs HB hb; clear hb hbox hg; have hnb30:=NB387_388.out; have hnc30:=NB388_387.out; obtain ⟨_,_,_,_,_,_⟩:=kc3 BK387) | ((with_reducible refine Qac (f:=45) rfl ?_); refine gl (some 10) Tryz.func45 #[.slice A0 l0.length c0, .agg #[.int .i64 a1_0, .int .i64 a1_1, .int .i64 a1_2]] (h := ?_); (with_reducible refine (caret_asked.calls _ _ l0 a1_0 a1_1 a1_2 t389 _ ?side1 ?side2 A3.out).mono ?_); (case side1 => exact cb HR0 HB); (case side2 => exact HC0.out); rintro e w32 ⟨rfl,hb⟩; refine ⟨_,rfl, ?_⟩; replace BK387:=bl BK387 hb; replace BK388:=bl BK388 hb; replace HB:=bs HB hb; clear hb; obtain ⟨_,_,_,_,_,_⟩:=kc3 BK388))
  refine bodyPost_ret (Qck rfl _ _ gb388 32 #[.int .i64 0, .int .i64 0, .int .i64 0] (0,0) _ rfl (bp (bp (bp (kk BK388) 0) 1) 2) Tryz.underlying32 rfl (by kernel_rfl)) rfl ?_
  exact ⟨re,bw HB⟩
 rw [if_pos c4] at H
 obtain ⟨c4b0,c4b1⟩:=bT c4
 clear c4
 obtain ⟨t390,A5,H⟩:=bE H
 by_cases c6 : (t390.length : Int) = 0
 ·rw [if_pos c6] at H
  obtain ⟨c6b0,c6b1⟩:=bT c6
  clear c6
  simp only [Option.some.injEq,Prod.mk.injEq] at H
  obtain ⟨rfl,rfl,rfl,rfl⟩:=H
  go_enter Tryz.func13,Tryz.ntmps13
  go_wp2_with (first | ((with_reducible refine Qae (N:=3) rfl ?_); refine bx 3 #[.int .i64 a1_0, .int .i64 a1_1, .int .i64 a1_2] 32 (h := ?_); intro gb387 hg w7 hbox hb; have BK387:=Aside0.mk (hbox); have GW387:=bz HB hg; have GE387:=bz HB hg; replace HB:=bs HB hb; clear hb hbox hg) | ((with_reducible refine Qae (N:=4) rfl ?_); refine bx 4 #[.int .i64 0, .int .i64 0, .int .i64 0] 32 (h := ?_); intro gb388 hg w8 hbox hb; have BK388:=Aside0.mk (hbox); have GW388:=bz HB hg; have GE388:=bz HB hg; have NB387_388:=bn BK387 hg; have NB388_387:=bm BK387 hg; replace BK387:=bl BK387 hb; replace HB:=bs HB hb; clear hb hbox hg; have hnb9:=NB387_388.out; have hnc9:=NB388_387.out; obtain ⟨_,_,_,_,_,_⟩:=kc3 BK387) | ((with_reducible refine Qac (f:=45) rfl ?_); refine gl (some 10) Tryz.func45 #[.slice A0 l0.length c0, .agg #[.int .i64 a1_0, .int .i64 a1_1, .int .i64 a1_2]] (h := ?_); (with_reducible refine (caret_asked.calls _ _ l0 a1_0 a1_1 a1_2 t389 _ ?side1 ?side2 A3.out).mono ?_); (case side1 => exact cb HR0 HB); (case side2 => exact HC0.out); rintro e w11 ⟨rfl,hb⟩; refine ⟨_,rfl, ?_⟩; replace BK387:=bl BK387 hb; replace BK388:=bl BK388 hb; replace HB:=bs HB hb; clear hb; obtain ⟨_,_,_,_,_,_⟩:=kc3 BK387) | ((with_reducible refine Qac (f:=46) rfl ?_); refine gl (some 17) Tryz.func46 #[.slice A0 l0.length c0, .agg #[.int .i64 a1_0, .int .i64 a1_1, .int .i64 a1_2]] (h := ?_); (with_reducible refine (caret_Upto.calls _ _ l0 a1_0 a1_1 a1_2 t390 _ ?side1 ?side2 A5.out).mono ?_); (case side1 => exact cb HR0 HB); (case side2 => exact HC0.out); rintro e w13 ⟨v391,rfl,ho0,hb⟩; refine ⟨_,rfl, ?_⟩; have HO392:=Aside0.mk (Kd.R_lower (Kd.R_newB (Kd.R_newB ho0 (kk BK387)) (kk BK388)) (Qak (bw HB))); replace BK387:=bl BK387 hb; replace BK388:=bl BK388 hb; replace HB:=bs HB hb; clear hb; clear ho0; obtain ⟨Ao14,co14,eo14⟩:=Kd.R_slice HO392.out; subst eo14; obtain ⟨_,_,_,_,_,_⟩:=kc3 BK388))
  refine bodyPost_ret (Qck rfl _ _ gb388 32 #[.int .i64 0, .int .i64 0, .int .i64 0] (0,0) _ rfl (bp (bp (bp (kk BK388) 0) 1) 2) Tryz.underlying32 rfl (by kernel_rfl)) rfl ?_
  exact ⟨re,bw HB⟩
 rw [if_neg c6] at H
 obtain ⟨c6b0,c6b1⟩:=bF c6
 have c6b2 : ¬ (t390 = []):=fun h_ => c6 (by rw [h_]; rfl)
 obtain ⟨ji16,hji16⟩ : ∃ j_ : Int,(wrap64 ((t390.length : Int) - 1)) = j_:=⟨_,rfl⟩
 replace H : (if 0 ≤ (ji16) then (if (ji16) < (t390.length : Int) then (some ((Qaa t390 (ji16)).f0,(Qaa t390 (ji16)).f1,(Qaa t390 (ji16)).f2,0)) else (none)) else (none)) = some (r1,r2,r3,r4):=by first | (rw [hji16] at H; exact H) | (simp only [hji16] at H ⊢; exact H)
 (try rw [hji16] at A3)
 (try rw [hji16] at A5)
 have hji16w : (IntKind.i64.wrap ((t390.length : Int) - 1)) = ji16:=(Qax _).trans hji16
 by_cases c17 : 0 ≤ (ji16); rotate_left
 ·rw [if_neg c17] at H
  exact absurd H (by simp)
 rw [if_pos c17] at H
 have c17b0:=decide_eq_true c17
 clear c17
 by_cases c18 : (ji16) < (t390.length : Int); rotate_left
 ·rw [if_neg c18] at H
  exact absurd H (by simp)
 rw [if_pos c18] at H
 have c18b0:=decide_eq_true c18
 clear c18
 simp only [Option.some.injEq,Prod.mk.injEq] at H
 obtain ⟨rfl,rfl,rfl,rfl⟩:=H
 go_enter Tryz.func13,Tryz.ntmps13
 go_wp2_with (first | ((with_reducible refine Qae (N:=3) rfl ?_); refine bx 3 #[.int .i64 a1_0, .int .i64 a1_1, .int .i64 a1_2] 32 (h := ?_); intro gb387 hg w19 hbox hb; have BK387:=Aside0.mk (hbox); have GW387:=bz HB hg; have GE387:=bz HB hg; replace HB:=bs HB hb; clear hb hbox hg) | ((with_reducible refine Qae (N:=4) rfl ?_); refine bx 4 #[.int .i64 0, .int .i64 0, .int .i64 0] 32 (h := ?_); intro gb388 hg w20 hbox hb; have BK388:=Aside0.mk (hbox); have GW388:=bz HB hg; have GE388:=bz HB hg; have NB387_388:=bn BK387 hg; have NB388_387:=bm BK387 hg; replace BK387:=bl BK387 hb; replace HB:=bs HB hb; clear hb hbox hg; have hnb21:=NB387_388.out; have hnc21:=NB388_387.out; obtain ⟨_,_,_,_,_,_⟩:=kc3 BK387) | ((with_reducible refine Qac (f:=45) rfl ?_); refine gl (some 10) Tryz.func45 #[.slice A0 l0.length c0, .agg #[.int .i64 a1_0, .int .i64 a1_1, .int .i64 a1_2]] (h := ?_); (with_reducible refine (caret_asked.calls _ _ l0 a1_0 a1_1 a1_2 t389 _ ?side1 ?side2 A3.out).mono ?_); (case side1 => exact cb HR0 HB); (case side2 => exact HC0.out); rintro e w23 ⟨rfl,hb⟩; refine ⟨_,rfl, ?_⟩; replace BK387:=bl BK387 hb; replace BK388:=bl BK388 hb; replace HB:=bs HB hb; clear hb; obtain ⟨_,_,_,_,_,_⟩:=kc3 BK387) | ((with_reducible refine Qac (f:=46) rfl ?_); refine gl (some 17) Tryz.func46 #[.slice A0 l0.length c0, .agg #[.int .i64 a1_0, .int .i64 a1_1, .int .i64 a1_2]] (h := ?_); (with_reducible refine (caret_Upto.calls _ _ l0 a1_0 a1_1 a1_2 t390 _ ?side1 ?side2 A5.out).mono ?_); (case side1 => exact cb HR0 HB); (case side2 => exact HC0.out); rintro e w25 ⟨v391,rfl,ho0,hb⟩; refine ⟨_,rfl, ?_⟩; have HO392:=Aside0.mk (Kd.R_lower (Kd.R_newB (Kd.R_newB ho0 (kk BK387)) (kk BK388)) (Qak (bw HB))); replace BK387:=bl BK387 hb; replace BK388:=bl BK388 hb; replace HB:=bs HB hb; clear hb; clear ho0; obtain ⟨Ao26,co26,eo26⟩:=Kd.R_slice HO392.out; subst eo26; have p393 : 0 ≤ ((ji16) : Int):=od; have q393 : (ji16) < (t390.length : Int):=od; obtain ⟨ad393,e393,hx393_0,hx393_1,hx393_2⟩:=Qat (Kd.R_reads' HO392.out).2.2 (ji16) p393 q393; cases e393; replace p393:=eq_true p393; replace q393:=eq_true q393; obtain ⟨_,_,_,_,_,_⟩:=kc3 BK388))
 refine bodyPost_ret (Qck rfl _ _ gb388 32 #[.int .i64 ((Qaa t390 (ji16)).f0), .int .i64 ((Qaa t390 (ji16)).f1), .int .i64 ((Qaa t390 (ji16)).f2)] (0,0) _ rfl (bp (bp (bp (kk BK388) 0) 1) 2) Tryz.underlying32 rfl (by kernel_rfl)) rfl ?_
 exact ⟨by first | rfl | (simp [Qbh,Qbg] <;> rfl) | (simp only [← hji16]; first | rfl | (simp [Qbh,Qbg] <;> rfl)) | (simp [*,Qbh,Qbg] <;> rfl),bw HB⟩
def r4_Written.f (k : Nat) (l0 : List (SOp)) (a1_0 : Int) (a1_1 : Int) (a1_2 : Int) : Option (Bool):=(r4_Begin.f a1_0 a1_1 a1_2).bind fun t395 => (if t395 = true then (some false) else ((r4_written.f k l0 a1_0 a1_1 a1_2).bind fun t396 => (some t396)))
theorem r4_Written.calls (k : Nat) (A0 : Option Addr) (c0 : Nat) (l0 : List (SOp)) (a1_0 : Int) (a1_1 : Int) (a1_2 : Int) (r : Bool) (w : World) (hr0 : Kd.C kOp w A0 l0.length l0) (hc0 : l0.length ≤ c0) (hT : GT w) (h : r4_Written.f k l0 a1_0 a1_1 a1_2 = some r) :
  Calls Tryz.prog 14 #[.slice A0 l0.length c0, .agg #[.int .i64 a1_0, .int .i64 a1_1, .int .i64 a1_2]] w fun e w' => e = .returned (.bool r) ∧ Below w.heap.size w w':=by
 have hu32:=Tryz.underlying32
 have HR0:=Aside0.mk hr0
 have HC0:=Aside0.mk hc0
 clear hr0 hc0
 have HB:=Aside0.mk (Below.refl w.heap.size w)
 unfold r4_Written.f at h; have H:=h
 clear h
 obtain ⟨t395,A3,H⟩:=bE H
 by_cases c4 : t395 = true
 ·subst c4
  rw [if_pos rfl] at H
  obtain rfl:=Option.some.inj H
  go_enter Tryz.func14,Tryz.ntmps14
  go_wp2_with (first | ((with_reducible refine Qae (N:=3) rfl ?_); refine bx 3 #[.int .i64 a1_0, .int .i64 a1_1, .int .i64 a1_2] 32 (h := ?_); intro gb394 hg w5 hbox hb; have BK394:=Aside0.mk (hbox); have GW394:=bz HB hg; have GE394:=bz HB hg; replace HB:=bs HB hb; clear hb hbox hg; obtain ⟨_,_,_,_,_,_⟩:=kc3 BK394) | ((with_reducible refine Qac (f:=47) rfl ?_); refine gl (some 6) Tryz.func47 #[.agg #[.int .i64 a1_0, .int .i64 a1_1, .int .i64 a1_2]] (h := ?_); (with_reducible refine (r4_Begin.calls a1_0 a1_1 a1_2 true _ A3.out).mono ?_); rintro e w7 ⟨rfl,hb⟩; refine ⟨_,rfl, ?_⟩; replace BK394:=bl BK394 hb; replace HB:=bs HB hb; clear hb))
  go_ret
  exact ⟨re,bw HB⟩
 replace c4:=Bool.eq_false_iff.mpr c4
 subst c4
 rw [if_neg nft] at H
 obtain ⟨t396,A8,H⟩:=bE H
 obtain rfl:=Option.some.inj H
 go_enter Tryz.func14,Tryz.ntmps14
 go_wp2_with (first | ((with_reducible refine Qae (N:=3) rfl ?_); refine bx 3 #[.int .i64 a1_0, .int .i64 a1_1, .int .i64 a1_2] 32 (h := ?_); intro gb394 hg w9 hbox hb; have BK394:=Aside0.mk (hbox); have GW394:=bz HB hg; have GE394:=bz HB hg; replace HB:=bs HB hb; clear hb hbox hg; obtain ⟨_,_,_,_,_,_⟩:=kc3 BK394) | ((with_reducible refine Qac (f:=47) rfl ?_); refine gl (some 6) Tryz.func47 #[.agg #[.int .i64 a1_0, .int .i64 a1_1, .int .i64 a1_2]] (h := ?_); (with_reducible refine (r4_Begin.calls a1_0 a1_1 a1_2 false _ A3.out).mono ?_); rintro e w11 ⟨rfl,hb⟩; refine ⟨_,rfl, ?_⟩; replace BK394:=bl BK394 hb; replace HB:=bs HB hb; clear hb; obtain ⟨_,_,_,_,_,_⟩:=kc3 BK394) | (go_at_call 48; (with_reducible refine (r4_written.calls k _ _ l0 a1_0 a1_1 a1_2 t396 _ ?side1 ?side2 ?side3 A8.out).mono ?_); (case side1 => exact cb HR0 HB); (case side2 => exact HC0.out); (case side3 => exact (hT.below (bw HB))); rintro e w13 ⟨rfl,hb⟩; replace BK394:=bl BK394 hb; replace HB:=bs HB hb; clear hb))
 go_ret
 exact ⟨re,bw HB⟩
def r9_Place.l0 : Nat → List (SElem) → List (SElem) → Int → Int → Int → Int → Int → Option (Int)
 | 0,_,_,_,_,_,_,_ => none
 | k + 1,x5,x6,x7,x8,x398000,x398001,x398002 => (r0_At.f k x6 x398000 x398001 x398002).bind fun t405 => (if x8 ≤ t405 then (if 0 ≤ x8 then (if x8 < (x6.length : Int) then ((r0_At.f k x5 ((Qaa x6 x8).f0) ((Qaa x6 x8).f1) ((Qaa x6 x8).f2)).bind fun t407 => (if t407 ≥ 0 then (r9_Place.l0 k x5 x6 (wrap64 (x7 + 1)) (wrap64 (x8 + 1)) x398000 x398001 x398002) else (r9_Place.l0 k x5 x6 x7 (wrap64 (x8 + 1)) x398000 x398001 x398002))) else (none)) else (none)) else (some x7))
def r9_Place.f (k : Nat) (l0 : List (SOp)) (a1_0 : Int) (a1_1 : Int) (a1_2 : Int) : Option (Int):=(r4_Begin.f a1_0 a1_1 a1_2).bind fun t398 => (if t398 = true then (some 0) else ((r4_Visible.f k l0).bind fun t399 => ((r4_Order.f k l0).bind fun t402 => (r9_Place.l0 k t399 t402 0 0 a1_0 a1_1 a1_2))))
theorem r9_Place.calls (k : Nat) (A0 : Option Addr) (c0 : Nat) (l0 : List (SOp)) (a1_0 : Int) (a1_1 : Int) (a1_2 : Int) (r : Int) (w : World) (hr0 : Kd.C kOp w A0 l0.length l0) (hc0 : l0.length ≤ c0) (hT : GT w) (h : r9_Place.f k l0 a1_0 a1_1 a1_2 = some r) :
  Calls Tryz.prog 15 #[.slice A0 l0.length c0, .agg #[.int .i64 a1_0, .int .i64 a1_1, .int .i64 a1_2]] w fun e w' => e = .returned (.int .i64 r) ∧ Below w.heap.size w w':=by
 have hu32:=Tryz.underlying32
 have HR0:=Aside0.mk hr0
 have HC0:=Aside0.mk hc0
 clear hr0 hc0
 have HB:=Aside0.mk (Below.refl w.heap.size w)
 unfold r9_Place.f at h; have H:=h
 clear h
 obtain ⟨t398,A3,H⟩:=bE H
 by_cases c4 : t398 = true
 ·subst c4
  rw [if_pos rfl] at H
  obtain rfl:=Option.some.inj H
  go_enter Tryz.func15,Tryz.ntmps15
  go_wp2_with (first | ((with_reducible refine Qae (N:=3) rfl ?_); refine bx 3 #[.int .i64 a1_0, .int .i64 a1_1, .int .i64 a1_2] 32 (h := ?_); intro gb397 hg w5 hbox hb; have BK397:=Aside0.mk (hbox); have GW397:=bz HB hg; have GE397:=bz HB hg; replace HB:=bs HB hb; clear hb hbox hg; obtain ⟨_,_,_,_,_,_⟩:=kc3 BK397) | ((with_reducible refine Qac (f:=47) rfl ?_); refine gl (some 10) Tryz.func47 #[.agg #[.int .i64 a1_0, .int .i64 a1_1, .int .i64 a1_2]] (h := ?_); (with_reducible refine (r4_Begin.calls a1_0 a1_1 a1_2 true _ A3.out).mono ?_); rintro e w7 ⟨rfl,hb⟩; refine ⟨_,rfl, ?_⟩; replace BK397:=bl BK397 hb; replace HB:=bs HB hb; clear hb))
  go_ret
  exact ⟨re,bw HB⟩
 replace c4:=Bool.eq_false_iff.mpr c4
 subst c4
 rw [if_neg nft] at H
 obtain ⟨t399,A8,H⟩:=bE H
 obtain ⟨t402,A9,H⟩:=bE H
 have H':=Aside0.mk H
 clear H
 go_enter Tryz.func15,Tryz.ntmps15
 go_wp2_with (first | ((with_reducible refine Qae (N:=3) rfl ?_); refine bx 3 #[.int .i64 a1_0, .int .i64 a1_1, .int .i64 a1_2] 32 (h := ?_); intro gb397 hg w10 hbox hb; have BK397:=Aside0.mk (hbox); have GW397:=bz HB hg; have GE397:=bz HB hg; replace HB:=bs HB hb; clear hb hbox hg; obtain ⟨_,_,_,_,_,_⟩:=kc3 BK397) | ((with_reducible refine Qac (f:=47) rfl ?_); refine gl (some 10) Tryz.func47 #[.agg #[.int .i64 a1_0, .int .i64 a1_1, .int .i64 a1_2]] (h := ?_); (with_reducible refine (r4_Begin.calls a1_0 a1_1 a1_2 false _ A3.out).mono ?_); rintro e w12 ⟨rfl,hb⟩; refine ⟨_,rfl, ?_⟩; replace BK397:=bl BK397 hb; replace HB:=bs HB hb; clear hb) | ((with_reducible refine Qac (f:=21) rfl ?_); refine gl (some 12) Tryz.func21 #[.slice A0 l0.length c0] (h := ?_); (with_reducible refine (r4_Visible.calls k _ _ l0 t399 _ ?side1 ?side2 ?side3 A8.out).mono ?_); (case side1 => exact cb HR0 HB); (case side2 => exact HC0.out); (case side3 => exact (hT.below (bw HB))); rintro e w13 ⟨v400,rfl,ho0,hb⟩; refine ⟨_,rfl, ?_⟩; have HO401:=Aside0.mk (Kd.R_lower (Kd.R_newB ho0 (kk BK397)) (Qak (bw HB))); replace BK397:=bl BK397 hb; replace HB:=bs HB hb; clear hb; clear ho0) | ((with_reducible refine Qac (f:=49) rfl ?_); refine gl (some 14) Tryz.func49 #[.slice A0 l0.length c0] (h := ?_); (with_reducible refine (r4_Order.calls k _ _ l0 t402 _ ?side1 ?side2 ?side3 A9.out).mono ?_); (case side1 => exact cb HR0 HB); (case side2 => exact HC0.out); (case side3 => exact (hT.below (bw HB))); rintro e w14 ⟨v403,rfl,ho0,hb⟩; refine ⟨_,rfl, ?_⟩; have HO404:=Aside0.mk (Kd.R_lower (Kd.R_newB (Kd.R_new' ho0 (Kd.R_lt (rk HO401))) (kk BK397)) (Qak (bw HB))); replace HO401:=Aside0.mk (Kd.R_elder' (rk HO401) (Kd.R_base ho0) hb); replace BK397:=bl BK397 hb; replace HB:=bs HB hb; clear hb; clear ho0))
 go_loopg [7,8] k (fun kq v7 v8 w' => ∃ (x7_1 : Int) (x8_1 : Int),v7 = .int .i64 x7_1 ∧ v8 = .int .i64 x8_1 ∧ Aside0 (r9_Place.l0 kq t399 t402 x7_1 x8_1 a1_0 a1_1 a1_2 = some r) ∧ Aside0 (kq ≤ k) ∧ Aside0 (Kd.R Qar 32 w' w.heap.size (fun k_ => some k_ ≠ (v403 : Value).ownBlock ∧ k_ ≠ gb397) v400 t399) ∧ Aside0 (Kd.R Qar 32 w' w.heap.size (fun k_ => some k_ ≠ (v400 : Value).ownBlock ∧ k_ ≠ gb397) v403 t402) ∧ Aside0 (w'.heap[gb397]? = some (.cells #[.int .i64 a1_0, .int .i64 a1_1, .int .i64 a1_2] 32 (0,0))) ∧ Aside0 (Below w.heap.size w w'))
 case atStart => exact ⟨(0),(0),rf,rf,H',⟨Nat.le_refl _⟩,⟨by (with_reducible repeat (first | apply Kd.R_alloc | apply Kd.R_drewN | apply Kd.R_drew)); exact Kd.R_mono HO401.out (fun _ hk => ⟨hk.2,hk.1.2⟩)⟩,⟨by (with_reducible repeat (first | apply Kd.R_alloc | apply Kd.R_drewN | apply Kd.R_drew)); exact Kd.R_mono HO404.out (fun _ hk => ⟨hk.1.2,hk.2⟩)⟩,⟨kk BK397⟩,⟨bw HB⟩⟩
 case round =>
  clear H'
  try clear c4
  obtain ⟨x7_1,x8_1,rfl,rfl,HA,HK1,HO_5,HO_6,BK397,HB⟩:=hrel
  cases gk with
  | zero => exact absurd HA.out (by simp [r9_Place.l0])
  | succ k1 =>
   have H:=HA.out
   clear HA
   simp only [r9_Place.l0] at H
   obtain ⟨t405,A15,H⟩:=bE H
   by_cases c16 : x8_1 ≤ t405; rotate_left
   ·rw [if_neg c16] at H
    have c16b0:=decide_eq_false c16
    clear c16
    obtain rfl:=Option.some.inj H
    obtain ⟨_,_,_,_,_,_⟩:=kc3 BK397
    obtain ⟨Ao32,co32,eo32⟩:=Kd.R_slice HO_6.out
    subst eo32
    go_wp2_with (first | ((with_reducible refine Qac (f:=50) rfl ?_); refine gl (some 18) Tryz.func50 #[.slice Ao32 t402.length co32, .agg #[.int .i64 a1_0, .int .i64 a1_1, .int .i64 a1_2]] (h := ?_); (with_reducible refine (r0_At.calls k1 _ _ t402 a1_0 a1_1 a1_2 t405 _ ?side1 ?side2 A15.out).mono ?_); (case side1 => exact cr HO_6); (case side2 => exact (Kd.R_reads' HO_6.out).2.1); rintro e w33 ⟨rfl,hb⟩; refine ⟨_,rfl, ?_⟩; replace HO_5:=rb HO_5 hb; replace HO_6:=rb HO_6 hb; replace BK397:=bl BK397 hb; replace HB:=bs HB hb; clear hb))
    go_ret
    exact ⟨re,bw HB⟩
   rw [if_pos c16] at H
   have c16b0:=decide_eq_true c16
   clear c16
   by_cases c17 : 0 ≤ x8_1; rotate_left
   ·rw [if_neg c17] at H
    exact absurd H (by simp)
   rw [if_pos c17] at H
   have c17b0:=decide_eq_true c17
   clear c17
   by_cases c18 : x8_1 < (t402.length : Int); rotate_left
   ·rw [if_neg c18] at H
    exact absurd H (by simp)
   rw [if_pos c18] at H
   have c18b0:=decide_eq_true c18
   clear c18
   obtain ⟨t407,A19,H⟩:=bE H
   by_cases c20 : t407 ≥ 0
   ·rw [if_pos c20] at H
    have c20b0:=decide_eq_true c20
    clear c20
    have H':=Aside0.mk H
    clear H
    obtain ⟨_,_,_,_,_,_⟩:=kc3 BK397
    obtain ⟨Ao22,co22,eo22⟩:=Kd.R_slice HO_6.out
    subst eo22
    go_wp2_with (first | ((with_reducible refine Qac (f:=50) rfl ?_); refine gl (some 18) Tryz.func50 #[.slice Ao22 t402.length co22, .agg #[.int .i64 a1_0, .int .i64 a1_1, .int .i64 a1_2]] (h := ?_); (with_reducible refine (r0_At.calls k1 _ _ t402 a1_0 a1_1 a1_2 t405 _ ?side1 ?side2 A15.out).mono ?_); (case side1 => exact cr HO_6); (case side2 => exact (Kd.R_reads' HO_6.out).2.1); rintro e w23 ⟨rfl,hb⟩; refine ⟨_,rfl, ?_⟩; replace HO_5:=rb HO_5 hb; replace HO_6:=rb HO_6 hb; replace BK397:=bl BK397 hb; replace HB:=bs HB hb; clear hb; have p406 : 0 ≤ (x8_1 : Int):=od; have q406 : x8_1 < (t402.length : Int):=od; obtain ⟨ad406,e406,hx406_0,hx406_1,hx406_2⟩:=Qat (Kd.R_reads' HO_6.out).2.2 x8_1 p406 q406; cases e406; replace p406:=eq_true p406; replace q406:=eq_true q406; obtain ⟨Ao24,co24,eo24⟩:=Kd.R_slice HO_5.out; subst eo24) | ((with_reducible refine Qac (f:=50) rfl ?_); refine gl (some 27) Tryz.func50 #[.slice Ao24 t399.length co24, .agg #[.int .i64 ((Qaa t402 x8_1).f0), .int .i64 ((Qaa t402 x8_1).f1), .int .i64 ((Qaa t402 x8_1).f2)]] (h := ?_); (with_reducible refine (r0_At.calls k1 _ _ t399 ((Qaa t402 x8_1).f0) ((Qaa t402 x8_1).f1) ((Qaa t402 x8_1).f2) t407 _ ?side1 ?side2 A19.out).mono ?_); (case side1 => exact cr HO_5); (case side2 => exact (Kd.R_reads' HO_5.out).2.1); rintro e w25 ⟨rfl,hb⟩; refine ⟨_,rfl, ?_⟩; replace HO_5:=rb HO_5 hb; replace HO_6:=rb HO_6 hb; replace BK397:=bl BK397 hb; replace HB:=bs HB hb; clear hb))
    go_roundg k1
    case measure => have:=HK1.out; omega
    case rel => exact ⟨(wrap64 (x7_1 + 1)),(wrap64 (x8_1 + 1)),rf,rf,H',⟨by have:=HK1.out; omega⟩,⟨rk HO_5⟩,⟨rk HO_6⟩,⟨kk BK397⟩,⟨bw HB⟩⟩
   rw [if_neg c20] at H
   have c20b0:=decide_eq_false c20
   clear c20
   have H':=Aside0.mk H
   clear H
   obtain ⟨_,_,_,_,_,_⟩:=kc3 BK397
   obtain ⟨Ao27,co27,eo27⟩:=Kd.R_slice HO_6.out
   subst eo27
   go_wp2_with (first | ((with_reducible refine Qac (f:=50) rfl ?_); refine gl (some 18) Tryz.func50 #[.slice Ao27 t402.length co27, .agg #[.int .i64 a1_0, .int .i64 a1_1, .int .i64 a1_2]] (h := ?_); (with_reducible refine (r0_At.calls k1 _ _ t402 a1_0 a1_1 a1_2 t405 _ ?side1 ?side2 A15.out).mono ?_); (case side1 => exact cr HO_6); (case side2 => exact (Kd.R_reads' HO_6.out).2.1); rintro e w28 ⟨rfl,hb⟩; refine ⟨_,rfl, ?_⟩; replace HO_5:=rb HO_5 hb; replace HO_6:=rb HO_6 hb; replace BK397:=bl BK397 hb; replace HB:=bs HB hb; clear hb; have p406 : 0 ≤ (x8_1 : Int):=od; have q406 : x8_1 < (t402.length : Int):=od; obtain ⟨ad406,e406,hx406_0,hx406_1,hx406_2⟩:=Qat (Kd.R_reads' HO_6.out).2.2 x8_1 p406 q406; cases e406; replace p406:=eq_true p406; replace q406:=eq_true q406; obtain ⟨Ao29,co29,eo29⟩:=Kd.R_slice HO_5.out; subst eo29) | ((with_reducible refine Qac (f:=50) rfl ?_); refine gl (some 27) Tryz.func50 #[.slice Ao29 t399.length co29, .agg #[.int .i64 ((Qaa t402 x8_1).f0), .int .i64 ((Qaa t402 x8_1).f1), .int .i64 ((Qaa t402 x8_1).f2)]] (h := ?_); (with_reducible refine (r0_At.calls k1 _ _ t399 ((Qaa t402 x8_1).f0) ((Qaa t402 x8_1).f1) ((Qaa t402 x8_1).f2) t407 _ ?side1 ?side2 A19.out).mono ?_); (case side1 => exact cr HO_5); (case side2 => exact (Kd.R_reads' HO_5.out).2.1); rintro e w30 ⟨rfl,hb⟩; refine ⟨_,rfl, ?_⟩; replace HO_5:=rb HO_5 hb; replace HO_6:=rb HO_6 hb; replace BK397:=bl BK397 hb; replace HB:=bs HB hb; clear hb))
   go_roundg k1
   case measure => have:=HK1.out; omega
   case rel => exact ⟨(x7_1),(wrap64 (x8_1 + 1)),rf,rf,H',⟨by have:=HK1.out; omega⟩,⟨rk HO_5⟩,⟨rk HO_6⟩,⟨kk BK397⟩,⟨bw HB⟩⟩
def r9_Near.f (k : Nat) (l0 : List (SOp)) (a1_0 : Int) (a1_1 : Int) (a1_2 : Int) : Option (Int × Int × Int):=(r9_Place.f k l0 a1_0 a1_1 a1_2).bind fun t410 => (if t410 = 0 then (some (0,0,0)) else ((r4_Visible.f k l0).bind fun t411 => (if 0 ≤ (wrap64 (t410 - 1)) then (if (wrap64 (t410 - 1)) < (t411.length : Int) then (some ((Qaa t411 (wrap64 (t410 - 1))).f0,(Qaa t411 (wrap64 (t410 - 1))).f1,(Qaa t411 (wrap64 (t410 - 1))).f2)) else (none)) else (none))))
theorem r9_Near.calls (k : Nat) (A0 : Option Addr) (c0 : Nat) (l0 : List (SOp)) (a1_0 : Int) (a1_1 : Int) (a1_2 : Int) (r1 : Int) (r2 : Int) (r3 : Int) (w : World) (hr0 : Kd.C kOp w A0 l0.length l0) (hc0 : l0.length ≤ c0) (hT : GT w) (h : r9_Near.f k l0 a1_0 a1_1 a1_2 = some (r1,r2,r3)) :
  Calls Tryz.prog 16 #[.slice A0 l0.length c0, .agg #[.int .i64 a1_0, .int .i64 a1_1, .int .i64 a1_2]] w fun e w' => e = .returned (.agg #[.int .i64 r1, .int .i64 r2, .int .i64 r3]) ∧ Below w.heap.size w w':=by
 have hu32:=Tryz.underlying32
 have HR0:=Aside0.mk hr0
 have HC0:=Aside0.mk hc0
 clear hr0 hc0
 have HB:=Aside0.mk (Below.refl w.heap.size w)
 unfold r9_Near.f at h; have H:=h
 clear h
 obtain ⟨t410,A3,H⟩:=bE H
 by_cases c4 : t410 = 0
 ·rw [if_pos c4] at H
  obtain ⟨c4b0,c4b1⟩:=bT c4
  clear c4
  simp only [Option.some.injEq,Prod.mk.injEq] at H
  obtain ⟨rfl,rfl,rfl⟩:=H
  go_enter Tryz.func16,Tryz.ntmps16
  go_wp2_with (first | ((with_reducible refine Qae (N:=3) rfl ?_); refine bx 3 #[.int .i64 a1_0, .int .i64 a1_1, .int .i64 a1_2] 32 (h := ?_); intro gb408 hg w5 hbox hb; have BK408:=Aside0.mk (hbox); have GW408:=bz HB hg; have GE408:=bz HB hg; replace HB:=bs HB hb; clear hb hbox hg) | ((with_reducible refine Qae (N:=4) rfl ?_); refine bx 4 #[.int .i64 0, .int .i64 0, .int .i64 0] 32 (h := ?_); intro gb409 hg w6 hbox hb; have BK409:=Aside0.mk (hbox); have GW409:=bz HB hg; have GE409:=bz HB hg; have NB408_409:=bn BK408 hg; have NB409_408:=bm BK408 hg; replace BK408:=bl BK408 hb; replace HB:=bs HB hb; clear hb hbox hg; have hnb7:=NB408_409.out; have hnc7:=NB409_408.out; obtain ⟨_,_,_,_,_,_⟩:=kc3 BK408) | ((with_reducible refine Qac (f:=15) rfl ?_); refine gl (some 8) Tryz.func15 #[.slice A0 l0.length c0, .agg #[.int .i64 a1_0, .int .i64 a1_1, .int .i64 a1_2]] (h := ?_); (with_reducible refine (r9_Place.calls k _ _ l0 a1_0 a1_1 a1_2 t410 _ ?side1 ?side2 ?side3 A3.out).mono ?_); (case side1 => exact cb HR0 HB); (case side2 => exact HC0.out); (case side3 => exact (hT.below (bw HB))); rintro e w9 ⟨rfl,hb⟩; refine ⟨_,rfl, ?_⟩; replace BK408:=bl BK408 hb; replace BK409:=bl BK409 hb; replace HB:=bs HB hb; clear hb; obtain ⟨_,_,_,_,_,_⟩:=kc3 BK409))
  refine bodyPost_ret (results_cell_row rfl _ _ gb409 32 #[.int .i64 0, .int .i64 0, .int .i64 0] (0,0) _ rfl (bp (bp (bp (kk BK409) 0) 1) 2) Tryz.underlying32 rfl (by kernel_rfl)) rfl ?_
  exact ⟨re,bw HB⟩
 rw [if_neg c4] at H
 obtain ⟨c4b0,c4b1⟩:=bF c4
 obtain ⟨t411,A11,H⟩:=bE H
 obtain ⟨ji12,hji12⟩ : ∃ j_ : Int,(wrap64 (t410 - 1)) = j_:=⟨_,rfl⟩
 replace H : (if 0 ≤ (ji12) then (if (ji12) < (t411.length : Int) then (some ((Qaa t411 (ji12)).f0,(Qaa t411 (ji12)).f1,(Qaa t411 (ji12)).f2)) else (none)) else (none)) = some (r1,r2,r3):=by first | (rw [hji12] at H; exact H) | (simp only [hji12] at H ⊢; exact H)
 (try rw [hji12] at A3)
 (try rw [hji12] at A11)
 have hji12w : (IntKind.i64.wrap (t410 - 1)) = ji12:=(Qax _).trans hji12
 by_cases c13 : 0 ≤ (ji12); rotate_left
 ·rw [if_neg c13] at H
  exact absurd H (by simp)
 rw [if_pos c13] at H
 have c13b0:=decide_eq_true c13
 clear c13
 by_cases c14 : (ji12) < (t411.length : Int); rotate_left
 ·rw [if_neg c14] at H
  exact absurd H (by simp)
 rw [if_pos c14] at H
 have c14b0:=decide_eq_true c14
 clear c14
 simp only [Option.some.injEq,Prod.mk.injEq] at H
 obtain ⟨rfl,rfl,rfl⟩:=H
 go_enter Tryz.func16,Tryz.ntmps16
 go_wp2_with (first | ((with_reducible refine Qae (N:=3) rfl ?_); refine bx 3 #[.int .i64 a1_0, .int .i64 a1_1, .int .i64 a1_2] 32 (h := ?_); intro gb408 hg w15 hbox hb; have BK408:=Aside0.mk (hbox); have GW408:=bz HB hg; have GE408:=bz HB hg; replace HB:=bs HB hb; clear hb hbox hg) | ((with_reducible refine Qae (N:=4) rfl ?_); refine bx 4 #[.int .i64 0, .int .i64 0, .int .i64 0] 32 (h := ?_); intro gb409 hg w16 hbox hb; have BK409:=Aside0.mk (hbox); have GW409:=bz HB hg; have GE409:=bz HB hg; have NB408_409:=bn BK408 hg; have NB409_408:=bm BK408 hg; replace BK408:=bl BK408 hb; replace HB:=bs HB hb; clear hb hbox hg; have hnb17:=NB408_409.out; have hnc17:=NB409_408.out; obtain ⟨_,_,_,_,_,_⟩:=kc3 BK408) | ((with_reducible refine Qac (f:=15) rfl ?_); refine gl (some 8) Tryz.func15 #[.slice A0 l0.length c0, .agg #[.int .i64 a1_0, .int .i64 a1_1, .int .i64 a1_2]] (h := ?_); (with_reducible refine (r9_Place.calls k _ _ l0 a1_0 a1_1 a1_2 t410 _ ?side1 ?side2 ?side3 A3.out).mono ?_); (case side1 => exact cb HR0 HB); (case side2 => exact HC0.out); (case side3 => exact (hT.below (bw HB))); rintro e w19 ⟨rfl,hb⟩; refine ⟨_,rfl, ?_⟩; replace BK408:=bl BK408 hb; replace BK409:=bl BK409 hb; replace HB:=bs HB hb; clear hb) | ((with_reducible refine Qac (f:=21) rfl ?_); refine gl (some 13) Tryz.func21 #[.slice A0 l0.length c0] (h := ?_); (with_reducible refine (r4_Visible.calls k _ _ l0 t411 _ ?side1 ?side2 ?side3 A11.out).mono ?_); (case side1 => exact cb HR0 HB); (case side2 => exact HC0.out); (case side3 => exact (hT.below (bw HB))); rintro e w20 ⟨v412,rfl,ho0,hb⟩; refine ⟨_,rfl, ?_⟩; have HO413:=Aside0.mk (Kd.R_lower (Kd.R_newB (Kd.R_newB ho0 (kk BK408)) (kk BK409)) (Qak (bw HB))); replace BK408:=bl BK408 hb; replace BK409:=bl BK409 hb; replace HB:=bs HB hb; clear hb; clear ho0; obtain ⟨Ao21,co21,eo21⟩:=Kd.R_slice HO413.out; subst eo21; have p414 : 0 ≤ ((ji12) : Int):=od; have q414 : (ji12) < (t411.length : Int):=od; obtain ⟨ad414,e414,hx414_0,hx414_1,hx414_2⟩:=Qat (Kd.R_reads' HO413.out).2.2 (ji12) p414 q414; cases e414; replace p414:=eq_true p414; replace q414:=eq_true q414; obtain ⟨_,_,_,_,_,_⟩:=kc3 BK409))
 refine bodyPost_ret (results_cell_row rfl _ _ gb409 32 #[.int .i64 ((Qaa t411 (ji12)).f0), .int .i64 ((Qaa t411 (ji12)).f1), .int .i64 ((Qaa t411 (ji12)).f2)] (0,0) _ rfl (bp (bp (bp (kk BK409) 0) 1) 2) Tryz.underlying32 rfl (by kernel_rfl)) rfl ?_
 exact ⟨by first | rfl | (simp [Qbh,Qbg] <;> rfl) | (simp only [← hji12]; first | rfl | (simp [Qbh,Qbg] <;> rfl)) | (simp [*,Qbh,Qbg] <;> rfl),bw HB⟩
def r0_EqElems.l0 : Nat → List (SElem) → List (SElem) → Int → Option (Bool)
 | 0,_,_,_ => none
 | k + 1,x0,x1,x5 => if x5 < (x0.length : Int) then (if 0 ≤ x5 then (if x5 < (x1.length : Int) then (if (!(((Qaa x0 x5).f0) == ((Qaa x1 x5).f0)) || (!(((Qaa x0 x5).f1) == ((Qaa x1 x5).f1)) || (!(((Qaa x0 x5).f2) == ((Qaa x1 x5).f2))))) = true then (some false) else (r0_EqElems.l0 k x0 x1 (wrap64 (x5 + 1)))) else (none)) else (none)) else (some true)
def r0_EqElems.f (k : Nat) (l0 : List (SElem)) (l1 : List (SElem)) : Option (Bool):=if (l0.length : Int) = (l1.length : Int) then (r0_EqElems.l0 k l0 l1 0) else (some false)
theorem r0_EqElems.calls (k : Nat) (A0 : Option Addr) (c0 : Nat) (l0 : List (SElem)) (A1 : Option Addr) (c1 : Nat) (l1 : List (SElem)) (r : Bool) (w : World) (hr0 : Kd.C Qar w A0 l0.length l0) (hc0 : l0.length ≤ c0) (hr1 : Kd.C Qar w A1 l1.length l1) (hc1 : l1.length ≤ c1) (h : r0_EqElems.f k l0 l1 = some r) :
  Calls Tryz.prog 24 #[.slice A0 l0.length c0, .slice A1 l1.length c1] w fun e w' => e = .returned (.bool r) ∧ Drawn0 w w':=by
 have hu32:=Tryz.underlying32
 have HR0:=Aside0.mk hr0
 have HC0:=Aside0.mk hc0
 clear hr0 hc0
 have HR1:=Aside0.mk hr1
 have HC1:=Aside0.mk hc1
 clear hr1 hc1
 unfold r0_EqElems.f at h; have H:=h
 clear h
 by_cases c3 : (l0.length : Int) = (l1.length : Int); rotate_left
 ·rw [if_neg c3] at H
  obtain ⟨c3b0,c3b1⟩:=bF c3
  have c3b2 : (l0.length == l1.length) = false:=by first | simpa using c3 | (simp at c3 ⊢; omega)
  obtain rfl:=Option.some.inj H
  go_enter Tryz.func24,Tryz.ntmps24
  go_wp2
  repeat (go_quiet (fail); try go_wp2)
  go_ret
  exact ⟨rf,by repeat (first | exact Drawn0.refl _ | apply Drawn0.step)⟩
 rw [if_pos c3] at H
 obtain ⟨c3b0,c3b1⟩:=bT c3
 have c3b2 : (l0.length == l1.length) = true:=by first | simpa using c3 | (simp at c3 ⊢; omega)
 clear c3
 have H':=Aside0.mk H
 clear H
 go_enter Tryz.func24,Tryz.ntmps24
 go_wp2
 repeat (go_quiet (fail); try go_wp2)
 go_loopg [5] k (fun kq v5 w' => ∃ (x5_1 : Int),v5 = .int .i64 x5_1 ∧ Aside0 (r0_EqElems.l0 kq l0 l1 x5_1 = some r) ∧ Aside0 (kq ≤ k) ∧ Drawn0 w w')
 case atStart => exact ⟨(0),rf,H',⟨Nat.le_refl _⟩,by repeat (first | exact Drawn0.refl _ | apply Drawn0.step)⟩
 case round =>
  clear H'
  try clear c1; try clear c3b0; try clear c3b1; try clear c3b2
  obtain ⟨x5_1,rfl,HA,HK1,⟨m1,rfl⟩⟩:=hrel
  cases gk with
  | zero => exact absurd HA.out (by simp [r0_EqElems.l0])
  | succ k1 =>
   have H:=HA.out
   clear HA
   simp only [r0_EqElems.l0] at H
   by_cases c4 : x5_1 < (l0.length : Int); rotate_left
   ·rw [if_neg c4] at H
    have c4b0:=decide_eq_false c4
    clear c4
    obtain rfl:=Option.some.inj H
    go_wp2
    repeat (go_quiet (fail); try go_wp2)
    go_ret
    exact ⟨rf,by repeat (first | exact Drawn0.refl _ | apply Drawn0.step)⟩
   rw [if_pos c4] at H
   have c4b0:=decide_eq_true c4
   clear c4
   by_cases c5 : 0 ≤ x5_1; rotate_left
   ·rw [if_neg c5] at H
    exact absurd H (by simp)
   rw [if_pos c5] at H
   have c5b0:=decide_eq_true c5
   clear c5
   by_cases c6 : x5_1 < (l1.length : Int); rotate_left
   ·rw [if_neg c6] at H
    exact absurd H (by simp)
   rw [if_pos c6] at H
   have c6b0:=decide_eq_true c6
   clear c6
   by_cases c7 : (!(((Qaa l0 x5_1).f0) == ((Qaa l1 x5_1).f0)) || (!(((Qaa l0 x5_1).f1) == ((Qaa l1 x5_1).f1)) || (!(((Qaa l0 x5_1).f2) == ((Qaa l1 x5_1).f2))))) = true
   ·rw [if_pos c7] at H
    have c7b0 : (!(((Qaa l0 x5_1).f0) == ((Qaa l1 x5_1).f0)) || (!(((Qaa l0 x5_1).f1) == ((Qaa l1 x5_1).f1)) || (!(((Qaa l0 x5_1).f2) == ((Qaa l1 x5_1).f2))))) = true:=c7
    clear c7
    obtain rfl:=Option.some.inj H
    have p415 : 0 ≤ (x5_1 : Int):=od
    have q415 : x5_1 < (l0.length : Int):=od
    obtain ⟨ad415,e415,hx415_0,hx415_1,hx415_2⟩:=Qat HR0.out x5_1 p415 q415
    cases e415
    replace p415:=eq_true p415
    replace q415:=eq_true q415
    have p416 : 0 ≤ (x5_1 : Int):=od
    have q416 : x5_1 < (l1.length : Int):=od
    obtain ⟨ad416,e416,hx416_0,hx416_1,hx416_2⟩:=Qat HR1.out x5_1 p416 q416
    cases e416
    replace p416:=eq_true p416
    replace q416:=eq_true q416
    go_wp2
    repeat (go_quiet (fail); try go_wp2)
    go_ret
    exact ⟨rf,by repeat (first | exact Drawn0.refl _ | apply Drawn0.step)⟩
   rw [if_neg c7] at H
   have c7b0 : (!(((Qaa l0 x5_1).f0) == ((Qaa l1 x5_1).f0)) || (!(((Qaa l0 x5_1).f1) == ((Qaa l1 x5_1).f1)) || (!(((Qaa l0 x5_1).f2) == ((Qaa l1 x5_1).f2))))) = false:=by simpa using c7
   clear c7
   have H':=Aside0.mk H
   clear H
   have p415 : 0 ≤ (x5_1 : Int):=od
   have q415 : x5_1 < (l0.length : Int):=od
   obtain ⟨ad415,e415,hx415_0,hx415_1,hx415_2⟩:=Qat HR0.out x5_1 p415 q415
   cases e415
   replace p415:=eq_true p415
   replace q415:=eq_true q415
   have p416 : 0 ≤ (x5_1 : Int):=od
   have q416 : x5_1 < (l1.length : Int):=od
   obtain ⟨ad416,e416,hx416_0,hx416_1,hx416_2⟩:=Qat HR1.out x5_1 p416 q416
   cases e416
   replace p416:=eq_true p416
   replace q416:=eq_true q416
   go_wp2
   repeat (go_quiet (fail); try go_wp2)
   go_roundg k1
   case measure => have:=HK1.out; omega
   case rel => exact ⟨(wrap64 (x5_1 + 1)),rf,H',⟨by have:=HK1.out; omega⟩,by repeat (first | exact Drawn0.refl _ | apply Drawn0.step)⟩
def r0_EqOp.f (k : Nat) (a0_0 : Int) (a0_1 : Int) (a0_2 : Int) (a0_3 : Int) (a0_4 : Int) (a0_5 : Int) (a0_6 : ByteArray) (l0_7 : List (SElem)) (a0_8 : Int) (a0_9 : Int) (a0_10 : Int) (a1_0 : Int) (a1_1 : Int) (a1_2 : Int) (a1_3 : Int) (a1_4 : Int) (a1_5 : Int) (a1_6 : ByteArray) (l1_7 : List (SElem)) (a1_8 : Int) (a1_9 : Int) (a1_10 : Int) : Option (Bool):=if a0_0 = a1_0 then (if a0_1 = a1_1 then (if a0_2 = a1_2 then (if (a0_3 == a1_3 && (a0_4 == a1_4 && (a0_5 == a1_5))) = true then (if a0_6.toList = a1_6.toList then ((r0_EqElems.f k l0_7 l1_7).bind fun t419 => (if t419 = true then (if a0_8 = a1_8 then (if a0_9 = a1_9 then (some (a0_10 == a1_10)) else (some false)) else (some false)) else (some false))) else (some false)) else (some false)) else (some false)) else (some false)) else (some false)
theorem r0_EqOp.calls (k : Nat) (a0_0 : Int) (a0_1 : Int) (a0_2 : Int) (a0_3 : Int) (a0_4 : Int) (a0_5 : Int) (a0_6 : ByteArray) (A0_7 : Option Addr) (c0_7 : Nat) (l0_7 : List (SElem)) (a0_8 : Int) (a0_9 : Int) (a0_10 : Int) (a1_0 : Int) (a1_1 : Int) (a1_2 : Int) (a1_3 : Int) (a1_4 : Int) (a1_5 : Int) (a1_6 : ByteArray) (A1_7 : Option Addr) (c1_7 : Nat) (l1_7 : List (SElem)) (a1_8 : Int) (a1_9 : Int) (a1_10 : Int) (r : Bool) (w : World) (hr0_7 : Kd.C Qar w A0_7 l0_7.length l0_7) (hc0_7 : l0_7.length ≤ c0_7) (hr1_7 : Kd.C Qar w A1_7 l1_7.length l1_7) (hc1_7 : l1_7.length ≤ c1_7) (h : r0_EqOp.f k a0_0 a0_1 a0_2 a0_3 a0_4 a0_5 a0_6 l0_7 a0_8 a0_9 a0_10 a1_0 a1_1 a1_2 a1_3 a1_4 a1_5 a1_6 l1_7 a1_8 a1_9 a1_10 = some r) :
  Calls Tryz.prog 51 #[.agg #[.int .i64 a0_0, .int .i64 a0_1, .int .i64 a0_2, .int .i64 a0_3, .int .i64 a0_4, .int .i64 a0_5, .string a0_6, .slice A0_7 l0_7.length c0_7, .int .i64 a0_8, .int .i64 a0_9, .int .i64 a0_10], .agg #[.int .i64 a1_0, .int .i64 a1_1, .int .i64 a1_2, .int .i64 a1_3, .int .i64 a1_4, .int .i64 a1_5, .string a1_6, .slice A1_7 l1_7.length c1_7, .int .i64 a1_8, .int .i64 a1_9, .int .i64 a1_10]] w fun e w' => e = .returned (.bool r) ∧ Below w.heap.size w w':=by
 have hu64:=Tryz.underlying64
 have hu32:=Tryz.underlying32
 have HR0_7:=Aside0.mk hr0_7
 have HC0_7:=Aside0.mk hc0_7
 clear hr0_7 hc0_7
 have HR1_7:=Aside0.mk hr1_7
 have HC1_7:=Aside0.mk hc1_7
 clear hr1_7 hc1_7
 have HB:=Aside0.mk (Below.refl w.heap.size w)
 unfold r0_EqOp.f at h; have H:=h
 clear h
 by_cases c3 : a0_0 = a1_0; rotate_left
 ·rw [if_neg c3] at H
  obtain ⟨c3b0,c3b1⟩:=bF c3
  obtain rfl:=Option.some.inj H
  go_enter Tryz.func51,Tryz.ntmps51
  go_wp2_with (first | ((with_reducible refine Qae (N:=2) rfl ?_); refine bx 2 #[.int .i64 a0_0, .int .i64 a0_1, .int .i64 a0_2, .int .i64 a0_3, .int .i64 a0_4, .int .i64 a0_5, .string a0_6, .slice A0_7 l0_7.length c0_7, .int .i64 a0_8, .int .i64 a0_9, .int .i64 a0_10] 64 (h := ?_); intro gb417 hg w52 hbox hb; have BK417:=Aside0.mk (hbox); have GW417:=bz HB hg; have GE417:=bz HB hg; replace HB:=bs HB hb; clear hb hbox hg) | ((with_reducible refine Qae (N:=3) rfl ?_); refine bx 3 #[.int .i64 a1_0, .int .i64 a1_1, .int .i64 a1_2, .int .i64 a1_3, .int .i64 a1_4, .int .i64 a1_5, .string a1_6, .slice A1_7 l1_7.length c1_7, .int .i64 a1_8, .int .i64 a1_9, .int .i64 a1_10] 64 (h := ?_); intro gb418 hg w53 hbox hb; have BK418:=Aside0.mk (hbox); have GW418:=bz HB hg; have GE418:=bz HB hg; have NB417_418:=bn BK417 hg; have NB418_417:=bm BK417 hg; replace BK417:=bl BK417 hb; replace HB:=bs HB hb; clear hb hbox hg; have hnb54:=NB417_418.out; have hnc54:=NB418_417.out; obtain ⟨_,_,_,_,_,_,_,_,_,_,_,_,_,_,_,_,_,_,_,_,_,_⟩:=kc11 BK417; obtain ⟨_,_,_,_,_,_,_,_,_,_,_,_,_,_,_,_,_,_,_,_,_,_⟩:=kc11 BK418))
  go_ret
  exact ⟨re,bw HB⟩
 rw [if_pos c3] at H
 obtain ⟨c3b0,c3b1⟩:=bT c3
 clear c3
 by_cases c4 : a0_1 = a1_1; rotate_left
 ·rw [if_neg c4] at H
  obtain ⟨c4b0,c4b1⟩:=bF c4
  obtain rfl:=Option.some.inj H
  go_enter Tryz.func51,Tryz.ntmps51
  go_wp2_with (first | ((with_reducible refine Qae (N:=2) rfl ?_); refine bx 2 #[.int .i64 a0_0, .int .i64 a0_1, .int .i64 a0_2, .int .i64 a0_3, .int .i64 a0_4, .int .i64 a0_5, .string a0_6, .slice A0_7 l0_7.length c0_7, .int .i64 a0_8, .int .i64 a0_9, .int .i64 a0_10] 64 (h := ?_); intro gb417 hg w47 hbox hb; have BK417:=Aside0.mk (hbox); have GW417:=bz HB hg; have GE417:=bz HB hg; replace HB:=bs HB hb; clear hb hbox hg) | ((with_reducible refine Qae (N:=3) rfl ?_); refine bx 3 #[.int .i64 a1_0, .int .i64 a1_1, .int .i64 a1_2, .int .i64 a1_3, .int .i64 a1_4, .int .i64 a1_5, .string a1_6, .slice A1_7 l1_7.length c1_7, .int .i64 a1_8, .int .i64 a1_9, .int .i64 a1_10] 64 (h := ?_); intro gb418 hg w48 hbox hb; have BK418:=Aside0.mk (hbox); have GW418:=bz HB hg; have GE418:=bz HB hg; have NB417_418:=bn BK417 hg; have NB418_417:=bm BK417 hg; replace BK417:=bl BK417 hb; replace HB:=bs HB hb; clear hb hbox hg; have hnb49:=NB417_418.out; have hnc49:=NB418_417.out; obtain ⟨_,_,_,_,_,_,_,_,_,_,_,_,_,_,_,_,_,_,_,_,_,_⟩:=kc11 BK417; obtain ⟨_,_,_,_,_,_,_,_,_,_,_,_,_,_,_,_,_,_,_,_,_,_⟩:=kc11 BK418))
  go_ret
  exact ⟨re,bw HB⟩
 rw [if_pos c4] at H
 obtain ⟨c4b0,c4b1⟩:=bT c4
 clear c4
 by_cases c5 : a0_2 = a1_2; rotate_left
 ·rw [if_neg c5] at H
  obtain ⟨c5b0,c5b1⟩:=bF c5
  obtain rfl:=Option.some.inj H
  go_enter Tryz.func51,Tryz.ntmps51
  go_wp2_with (first | ((with_reducible refine Qae (N:=2) rfl ?_); refine bx 2 #[.int .i64 a0_0, .int .i64 a0_1, .int .i64 a0_2, .int .i64 a0_3, .int .i64 a0_4, .int .i64 a0_5, .string a0_6, .slice A0_7 l0_7.length c0_7, .int .i64 a0_8, .int .i64 a0_9, .int .i64 a0_10] 64 (h := ?_); intro gb417 hg w42 hbox hb; have BK417:=Aside0.mk (hbox); have GW417:=bz HB hg; have GE417:=bz HB hg; replace HB:=bs HB hb; clear hb hbox hg) | ((with_reducible refine Qae (N:=3) rfl ?_); refine bx 3 #[.int .i64 a1_0, .int .i64 a1_1, .int .i64 a1_2, .int .i64 a1_3, .int .i64 a1_4, .int .i64 a1_5, .string a1_6, .slice A1_7 l1_7.length c1_7, .int .i64 a1_8, .int .i64 a1_9, .int .i64 a1_10] 64 (h := ?_); intro gb418 hg w43 hbox hb; have BK418:=Aside0.mk (hbox); have GW418:=bz HB hg; have GE418:=bz HB hg; have NB417_418:=bn BK417 hg; have NB418_417:=bm BK417 hg; replace BK417:=bl BK417 hb; replace HB:=bs HB hb; clear hb hbox hg; have hnb44:=NB417_418.out; have hnc44:=NB418_417.out; obtain ⟨_,_,_,_,_,_,_,_,_,_,_,_,_,_,_,_,_,_,_,_,_,_⟩:=kc11 BK417; obtain ⟨_,_,_,_,_,_,_,_,_,_,_,_,_,_,_,_,_,_,_,_,_,_⟩:=kc11 BK418))
  go_ret
  exact ⟨re,bw HB⟩
 rw [if_pos c5] at H
 obtain ⟨c5b0,c5b1⟩:=bT c5
 clear c5
 by_cases c6 : (a0_3 == a1_3 && (a0_4 == a1_4 && (a0_5 == a1_5))) = true; rotate_left
 ·rw [if_neg c6] at H
  have c6b0 : (a0_3 == a1_3 && (a0_4 == a1_4 && (a0_5 == a1_5))) = false:=by simpa using c6
  (try (have c6b1 : decide (a0_3 = a1_3 && (a0_4 == a1_4 && (a0_5 == a1_5))) = false:=by simpa using c6))
  (try (have c6b2 : (a0_3 == a1_3 && (a0_4 == a1_4 && (a0_5 == a1_5))) = false:=by simpa using c6))
  (try (have c6b3 : ¬ (a0_3 = a1_3 && (a0_4 == a1_4 && (a0_5 == a1_5))):=by simpa using c6))
  clear c6
  obtain rfl:=Option.some.inj H
  go_enter Tryz.func51,Tryz.ntmps51
  go_wp2_with (first | ((with_reducible refine Qae (N:=2) rfl ?_); refine bx 2 #[.int .i64 a0_0, .int .i64 a0_1, .int .i64 a0_2, .int .i64 a0_3, .int .i64 a0_4, .int .i64 a0_5, .string a0_6, .slice A0_7 l0_7.length c0_7, .int .i64 a0_8, .int .i64 a0_9, .int .i64 a0_10] 64 (h := ?_); intro gb417 hg w37 hbox hb; have BK417:=Aside0.mk (hbox); have GW417:=bz HB hg; have GE417:=bz HB hg; replace HB:=bs HB hb; clear hb hbox hg) | ((with_reducible refine Qae (N:=3) rfl ?_); refine bx 3 #[.int .i64 a1_0, .int .i64 a1_1, .int .i64 a1_2, .int .i64 a1_3, .int .i64 a1_4, .int .i64 a1_5, .string a1_6, .slice A1_7 l1_7.length c1_7, .int .i64 a1_8, .int .i64 a1_9, .int .i64 a1_10] 64 (h := ?_); intro gb418 hg w38 hbox hb; have BK418:=Aside0.mk (hbox); have GW418:=bz HB hg; have GE418:=bz HB hg; have NB417_418:=bn BK417 hg; have NB418_417:=bm BK417 hg; replace BK417:=bl BK417 hb; replace HB:=bs HB hb; clear hb hbox hg; have hnb39:=NB417_418.out; have hnc39:=NB418_417.out; obtain ⟨_,_,_,_,_,_,_,_,_,_,_,_,_,_,_,_,_,_,_,_,_,_⟩:=kc11 BK417; obtain ⟨_,_,_,_,_,_,_,_,_,_,_,_,_,_,_,_,_,_,_,_,_,_⟩:=kc11 BK418))
  go_ret
  exact ⟨re,bw HB⟩
 rw [if_pos c6] at H
 have c6b0 : (a0_3 == a1_3 && (a0_4 == a1_4 && (a0_5 == a1_5))) = true:=c6
 (try (have c6b1 : decide (a0_3 = a1_3 && (a0_4 == a1_4 && (a0_5 == a1_5))) = true:=by simpa using c6))
 (try (have c6b2 : (a0_3 == a1_3 && (a0_4 == a1_4 && (a0_5 == a1_5))) = true:=by simpa using c6))
 clear c6
 by_cases c7 : a0_6.toList = a1_6.toList; rotate_left
 ·rw [if_neg c7] at H
  obtain ⟨c7b0,c7b1⟩:=bF c7
  obtain rfl:=Option.some.inj H
  go_enter Tryz.func51,Tryz.ntmps51
  go_wp2_with (first | ((with_reducible refine Qae (N:=2) rfl ?_); refine bx 2 #[.int .i64 a0_0, .int .i64 a0_1, .int .i64 a0_2, .int .i64 a0_3, .int .i64 a0_4, .int .i64 a0_5, .string a0_6, .slice A0_7 l0_7.length c0_7, .int .i64 a0_8, .int .i64 a0_9, .int .i64 a0_10] 64 (h := ?_); intro gb417 hg w32 hbox hb; have BK417:=Aside0.mk (hbox); have GW417:=bz HB hg; have GE417:=bz HB hg; replace HB:=bs HB hb; clear hb hbox hg) | ((with_reducible refine Qae (N:=3) rfl ?_); refine bx 3 #[.int .i64 a1_0, .int .i64 a1_1, .int .i64 a1_2, .int .i64 a1_3, .int .i64 a1_4, .int .i64 a1_5, .string a1_6, .slice A1_7 l1_7.length c1_7, .int .i64 a1_8, .int .i64 a1_9, .int .i64 a1_10] 64 (h := ?_); intro gb418 hg w33 hbox hb; have BK418:=Aside0.mk (hbox); have GW418:=bz HB hg; have GE418:=bz HB hg; have NB417_418:=bn BK417 hg; have NB418_417:=bm BK417 hg; replace BK417:=bl BK417 hb; replace HB:=bs HB hb; clear hb hbox hg; have hnb34:=NB417_418.out; have hnc34:=NB418_417.out; obtain ⟨_,_,_,_,_,_,_,_,_,_,_,_,_,_,_,_,_,_,_,_,_,_⟩:=kc11 BK417; obtain ⟨_,_,_,_,_,_,_,_,_,_,_,_,_,_,_,_,_,_,_,_,_,_⟩:=kc11 BK418))
  go_ret
  exact ⟨re,bw HB⟩
 rw [if_pos c7] at H
 obtain ⟨c7b0,c7b1⟩:=bT c7
 clear c7
 obtain ⟨t419,A8,H⟩:=bE H
 by_cases c9 : t419 = true; rotate_left
 ·replace c9:=Bool.eq_false_iff.mpr c9
  subst c9
  rw [if_neg nft] at H
  obtain rfl:=Option.some.inj H
  go_enter Tryz.func51,Tryz.ntmps51
  go_wp2_with (first | ((with_reducible refine Qae (N:=2) rfl ?_); refine bx 2 #[.int .i64 a0_0, .int .i64 a0_1, .int .i64 a0_2, .int .i64 a0_3, .int .i64 a0_4, .int .i64 a0_5, .string a0_6, .slice A0_7 l0_7.length c0_7, .int .i64 a0_8, .int .i64 a0_9, .int .i64 a0_10] 64 (h := ?_); intro gb417 hg w27 hbox hb; have BK417:=Aside0.mk (hbox); have GW417:=bz HB hg; have GE417:=bz HB hg; replace HB:=bs HB hb; clear hb hbox hg) | ((with_reducible refine Qae (N:=3) rfl ?_); refine bx 3 #[.int .i64 a1_0, .int .i64 a1_1, .int .i64 a1_2, .int .i64 a1_3, .int .i64 a1_4, .int .i64 a1_5, .string a1_6, .slice A1_7 l1_7.length c1_7, .int .i64 a1_8, .int .i64 a1_9, .int .i64 a1_10] 64 (h := ?_); intro gb418 hg w28 hbox hb; have BK418:=Aside0.mk (hbox); have GW418:=bz HB hg; have GE418:=bz HB hg; have NB417_418:=bn BK417 hg; have NB418_417:=bm BK417 hg; replace BK417:=bl BK417 hb; replace HB:=bs HB hb; clear hb hbox hg; have hnb29:=NB417_418.out; have hnc29:=NB418_417.out; obtain ⟨_,_,_,_,_,_,_,_,_,_,_,_,_,_,_,_,_,_,_,_,_,_⟩:=kc11 BK417; obtain ⟨_,_,_,_,_,_,_,_,_,_,_,_,_,_,_,_,_,_,_,_,_,_⟩:=kc11 BK418) | (go_at_call 24; (with_reducible refine (r0_EqElems.calls k _ _ l0_7 _ _ l1_7 false _ ?side1 ?side2 ?side3 ?side4 A8.out).mono ?_); (case side1 => exact cb HR0_7 HB); (case side2 => exact HC0_7.out); (case side3 => exact cb HR1_7 HB); (case side4 => exact HC1_7.out); rintro e w' ⟨rfl,⟨nd,rfl⟩⟩))
  go_ret
  exact ⟨re,bw HB⟩
 subst c9
 rw [if_pos rfl] at H
 by_cases c10 : a0_8 = a1_8; rotate_left
 ·rw [if_neg c10] at H
  obtain ⟨c10b0,c10b1⟩:=bF c10
  obtain rfl:=Option.some.inj H
  go_enter Tryz.func51,Tryz.ntmps51
  go_wp2_with (first | ((with_reducible refine Qae (N:=2) rfl ?_); refine bx 2 #[.int .i64 a0_0, .int .i64 a0_1, .int .i64 a0_2, .int .i64 a0_3, .int .i64 a0_4, .int .i64 a0_5, .string a0_6, .slice A0_7 l0_7.length c0_7, .int .i64 a0_8, .int .i64 a0_9, .int .i64 a0_10] 64 (h := ?_); intro gb417 hg w22 hbox hb; have BK417:=Aside0.mk (hbox); have GW417:=bz HB hg; have GE417:=bz HB hg; replace HB:=bs HB hb; clear hb hbox hg) | ((with_reducible refine Qae (N:=3) rfl ?_); refine bx 3 #[.int .i64 a1_0, .int .i64 a1_1, .int .i64 a1_2, .int .i64 a1_3, .int .i64 a1_4, .int .i64 a1_5, .string a1_6, .slice A1_7 l1_7.length c1_7, .int .i64 a1_8, .int .i64 a1_9, .int .i64 a1_10] 64 (h := ?_); intro gb418 hg w23 hbox hb; have BK418:=Aside0.mk (hbox); have GW418:=bz HB hg; have GE418:=bz HB hg; have NB417_418:=bn BK417 hg; have NB418_417:=bm BK417 hg; replace BK417:=bl BK417 hb; replace HB:=bs HB hb; clear hb hbox hg; have hnb24:=NB417_418.out; have hnc24:=NB418_417.out; obtain ⟨_,_,_,_,_,_,_,_,_,_,_,_,_,_,_,_,_,_,_,_,_,_⟩:=kc11 BK417; obtain ⟨_,_,_,_,_,_,_,_,_,_,_,_,_,_,_,_,_,_,_,_,_,_⟩:=kc11 BK418) | (go_at_call 24; (with_reducible refine (r0_EqElems.calls k _ _ l0_7 _ _ l1_7 true _ ?side1 ?side2 ?side3 ?side4 A8.out).mono ?_); (case side1 => exact cb HR0_7 HB); (case side2 => exact HC0_7.out); (case side3 => exact cb HR1_7 HB); (case side4 => exact HC1_7.out); rintro e w' ⟨rfl,⟨nd,rfl⟩⟩))
  go_ret
  exact ⟨re,bw HB⟩
 rw [if_pos c10] at H
 obtain ⟨c10b0,c10b1⟩:=bT c10
 clear c10
 by_cases c11 : a0_9 = a1_9
 ·rw [if_pos c11] at H
  obtain ⟨c11b0,c11b1⟩:=bT c11
  clear c11
  obtain rfl:=Option.some.inj H
  go_enter Tryz.func51,Tryz.ntmps51
  go_wp2_with (first | ((with_reducible refine Qae (N:=2) rfl ?_); refine bx 2 #[.int .i64 a0_0, .int .i64 a0_1, .int .i64 a0_2, .int .i64 a0_3, .int .i64 a0_4, .int .i64 a0_5, .string a0_6, .slice A0_7 l0_7.length c0_7, .int .i64 a0_8, .int .i64 a0_9, .int .i64 a0_10] 64 (h := ?_); intro gb417 hg w12 hbox hb; have BK417:=Aside0.mk (hbox); have GW417:=bz HB hg; have GE417:=bz HB hg; replace HB:=bs HB hb; clear hb hbox hg) | ((with_reducible refine Qae (N:=3) rfl ?_); refine bx 3 #[.int .i64 a1_0, .int .i64 a1_1, .int .i64 a1_2, .int .i64 a1_3, .int .i64 a1_4, .int .i64 a1_5, .string a1_6, .slice A1_7 l1_7.length c1_7, .int .i64 a1_8, .int .i64 a1_9, .int .i64 a1_10] 64 (h := ?_); intro gb418 hg w13 hbox hb; have BK418:=Aside0.mk (hbox); have GW418:=bz HB hg; have GE418:=bz HB hg; have NB417_418:=bn BK417 hg; have NB418_417:=bm BK417 hg; replace BK417:=bl BK417 hb; replace HB:=bs HB hb; clear hb hbox hg; have hnb14:=NB417_418.out; have hnc14:=NB418_417.out; obtain ⟨_,_,_,_,_,_,_,_,_,_,_,_,_,_,_,_,_,_,_,_,_,_⟩:=kc11 BK417; obtain ⟨_,_,_,_,_,_,_,_,_,_,_,_,_,_,_,_,_,_,_,_,_,_⟩:=kc11 BK418) | (go_at_call 24; (with_reducible refine (r0_EqElems.calls k _ _ l0_7 _ _ l1_7 true _ ?side1 ?side2 ?side3 ?side4 A8.out).mono ?_); (case side1 => exact cb HR0_7 HB); (case side2 => exact HC0_7.out); (case side3 => exact cb HR1_7 HB); (case side4 => exact HC1_7.out); rintro e w' ⟨rfl,⟨nd,rfl⟩⟩))
  go_ret
  exact ⟨re,bw HB⟩
 rw [if_neg c11] at H
 obtain ⟨c11b0,c11b1⟩:=bF c11
 obtain rfl:=Option.some.inj H
 go_enter Tryz.func51,Tryz.ntmps51
 go_wp2_with (first | ((with_reducible refine Qae (N:=2) rfl ?_); refine bx 2 #[.int .i64 a0_0, .int .i64 a0_1, .int .i64 a0_2, .int .i64 a0_3, .int .i64 a0_4, .int .i64 a0_5, .string a0_6, .slice A0_7 l0_7.length c0_7, .int .i64 a0_8, .int .i64 a0_9, .int .i64 a0_10] 64 (h := ?_); intro gb417 hg w17 hbox hb; have BK417:=Aside0.mk (hbox); have GW417:=bz HB hg; have GE417:=bz HB hg; replace HB:=bs HB hb; clear hb hbox hg) | ((with_reducible refine Qae (N:=3) rfl ?_); refine bx 3 #[.int .i64 a1_0, .int .i64 a1_1, .int .i64 a1_2, .int .i64 a1_3, .int .i64 a1_4, .int .i64 a1_5, .string a1_6, .slice A1_7 l1_7.length c1_7, .int .i64 a1_8, .int .i64 a1_9, .int .i64 a1_10] 64 (h := ?_); intro gb418 hg w18 hbox hb; have BK418:=Aside0.mk (hbox); have GW418:=bz HB hg; have GE418:=bz HB hg; have NB417_418:=bn BK417 hg; have NB418_417:=bm BK417 hg; replace BK417:=bl BK417 hb; replace HB:=bs HB hb; clear hb hbox hg; have hnb19:=NB417_418.out; have hnc19:=NB418_417.out; obtain ⟨_,_,_,_,_,_,_,_,_,_,_,_,_,_,_,_,_,_,_,_,_,_⟩:=kc11 BK417; obtain ⟨_,_,_,_,_,_,_,_,_,_,_,_,_,_,_,_,_,_,_,_,_,_⟩:=kc11 BK418) | (go_at_call 24; (with_reducible refine (r0_EqElems.calls k _ _ l0_7 _ _ l1_7 true _ ?side1 ?side2 ?side3 ?side4 A8.out).mono ?_); (case side1 => exact cb HR0_7 HB); (case side2 => exact HC0_7.out); (case side3 => exact cb HR1_7 HB); (case side4 => exact HC1_7.out); rintro e w' ⟨rfl,⟨nd,rfl⟩⟩))
 go_ret
 exact ⟨re,bw HB⟩
end
section
attribute [local go_sem] Qbl Qbj Qbu Qbt Qbb Qba Qbk Qbi
attribute [local go_sem high] Qdb
def r0_EqOps.l0 : Nat → List (SOp) → List (SOp) → Int → Option (Bool)
 | 0,_,_,_ => none
 | k + 1,x0,x1,x5 => if x5 < (x0.length : Int) then (if 0 ≤ x5 then (if x5 < (x1.length : Int) then ((r0_EqOp.f k ((Qad x0 x5).f0) ((Qad x0 x5).f1) ((Qad x0 x5).f2) ((Qad x0 x5).f3.f0) ((Qad x0 x5).f3.f1) ((Qad x0 x5).f3.f2) ((Qad x0 x5).f4) ((Qad x0 x5).f5) ((Qad x0 x5).f6) ((Qad x0 x5).f7) ((Qad x0 x5).f8) ((Qad x1 x5).f0) ((Qad x1 x5).f1) ((Qad x1 x5).f2) ((Qad x1 x5).f3.f0) ((Qad x1 x5).f3.f1) ((Qad x1 x5).f3.f2) ((Qad x1 x5).f4) ((Qad x1 x5).f5) ((Qad x1 x5).f6) ((Qad x1 x5).f7) ((Qad x1 x5).f8)).bind fun t422 => (if t422 = true then (r0_EqOps.l0 k x0 x1 (wrap64 (x5 + 1))) else (some false))) else (none)) else (none)) else (some true)
def r0_EqOps.f (k : Nat) (l0 : List (SOp)) (l1 : List (SOp)) : Option (Bool):=if (l0.length : Int) = (l1.length : Int) then (r0_EqOps.l0 k l0 l1 0) else (some false)
def r0_EqOps.T6 : Bool × List (List Nat × List Nat):=(true,[([],[]),([],[]),([0,1],[0,1]),([2],[2]),([],[]),([],[]),([4,5],[4,5]),([6],[6]),([3,7],[3,7]),([8],[8])])
def r0_EqOps.B6 : List Nat:=[0,0,3,7,0,0,48,112,255,511]
theorem r0_EqOps.tab6 : rtab .any (Qcy Tryz.f17 6) = r0_EqOps.T6:=by kernel_rfl
theorem r0_EqOps.bits6 : Qaw r0_EqOps.T6.2 r0_EqOps.B6 = true:=by kernel_rfl
theorem r0_EqOps.calls (k : Nat) (A0 : Option Addr) (c0 : Nat) (l0 : List (SOp)) (A1 : Option Addr) (c1 : Nat) (l1 : List (SOp)) (r : Bool) (w : World) (hr0 : Kd.C kOp w A0 l0.length l0) (hc0 : l0.length ≤ c0) (hr1 : Kd.C kOp w A1 l1.length l1) (hc1 : l1.length ≤ c1) (h : r0_EqOps.f k l0 l1 = some r) :
  Calls Tryz.prog 17 #[.slice A0 l0.length c0, .slice A1 l1.length c1] w fun e w' => e = .returned (.bool r) ∧ Below w.heap.size w w':=by
 have hu64:=Tryz.underlying64
 have HR0:=Aside0.mk hr0
 have HC0:=Aside0.mk hc0
 clear hr0 hc0
 have HR1:=Aside0.mk hr1
 have HC1:=Aside0.mk hc1
 clear hr1 hc1
 have HB:=Aside0.mk (Below.refl w.heap.size w)
 unfold r0_EqOps.f at h; have H:=h
 clear h
 by_cases c3 : (l0.length : Int) = (l1.length : Int); rotate_left
 ·rw [if_neg c3] at H
  obtain ⟨c3b0,c3b1⟩:=bF c3
  have c3b2 : (l0.length == l1.length) = false:=by first | simpa using c3 | (simp at c3 ⊢; omega)
  obtain rfl:=Option.some.inj H
  go_enter Tryz.func17,Tryz.ntmps17
  go_wp2
  go_ret
  exact ⟨re,bw HB⟩
 rw [if_pos c3] at H
 obtain ⟨c3b0,c3b1⟩:=bT c3
 have c3b2 : (l0.length == l1.length) = true:=by first | simpa using c3 | (simp at c3 ⊢; omega)
 clear c3
 have H':=Aside0.mk H
 clear H
 go_enter Tryz.func17,Tryz.ntmps17
 go_wp2
 go_loopg [5] k (fun kq v5 w' => ∃ (x5_1 : Int),v5 = .int .i64 x5_1 ∧ Aside0 (r0_EqOps.l0 kq l0 l1 x5_1 = some r) ∧ Aside0 (kq ≤ k) ∧ Aside0 (Below w.heap.size w w'))
 case atStart => exact ⟨(0),rf,H',⟨Nat.le_refl _⟩,⟨bw HB⟩⟩
 case round =>
  clear H'
  try clear c1; try clear c3b0; try clear c3b1; try clear c3b2
  obtain ⟨x5_1,rfl,HA,HK1,HB⟩:=hrel
  cases gk with
  | zero => exact absurd HA.out (by simp [r0_EqOps.l0])
  | succ k1 =>
   have H:=HA.out
   clear HA
   simp only [r0_EqOps.l0] at H
   by_cases c4 : x5_1 < (l0.length : Int); rotate_left
   ·rw [if_neg c4] at H
    have c4b0:=decide_eq_false c4
    clear c4
    obtain rfl:=Option.some.inj H
    go_wp2
    go_ret
    exact ⟨re,bw HB⟩
   rw [if_pos c4] at H
   have c4b0:=decide_eq_true c4
   clear c4
   by_cases c5 : 0 ≤ x5_1; rotate_left
   ·rw [if_neg c5] at H
    exact absurd H (by simp)
   rw [if_pos c5] at H
   have c5b0:=decide_eq_true c5
   clear c5
   by_cases c6 : x5_1 < (l1.length : Int); rotate_left
   ·rw [if_neg c6] at H
    exact absurd H (by simp)
   rw [if_pos c6] at H
   have c6b0:=decide_eq_true c6
   clear c6
   obtain ⟨t422,A7,H⟩:=bE H
   by_cases c8 : t422 = true
   ·subst c8
    rw [if_pos rfl] at H
    have H':=Aside0.mk H
    clear H
    try go_wp2
    have n0_:=Aside0.mk (Qaf HB.out)
    clear HB
    have HB:=n0_
    clear n0_
    have p420 : 0 ≤ (x5_1 : Int):=od
    have q420 : x5_1 < (l0.length : Int):=od
    obtain ⟨ad420,A420_7,c420_7,e420,hx420_0,hx420_1,hx420_2,hx420_3,hx420_4,hx420_5,hx420_6,hx420_7,hx420_8,hx420_9,hx420_10,hl420_7,hi420_7⟩:=Qcf HR0.out x5_1 p420 q420
    have hw420_10:=hx420_10
    have hw420_9:=hx420_9
    have hw420_8:=hx420_8
    have hw420_7:=hx420_7
    have hw420_6:=hx420_6
    have hw420_5:=hx420_5
    have hw420_4:=hx420_4
    have hw420_3:=hx420_3
    have hw420_2:=hx420_2
    have hw420_1:=hx420_1
    have hw420_0:=hx420_0
    cases e420
    replace hx420_0:=cl HB hx420_0
    replace hx420_1:=cl HB hx420_1
    replace hx420_2:=cl HB hx420_2
    replace hx420_3:=cl HB hx420_3
    replace hx420_4:=cl HB hx420_4
    replace hx420_5:=cl HB hx420_5
    replace hx420_6:=cl HB hx420_6
    replace hx420_7:=cl HB hx420_7
    replace hx420_8:=cl HB hx420_8
    replace hx420_9:=cl HB hx420_9
    replace hx420_10:=cl HB hx420_10
    have HR420_7:=Aside0.mk hi420_7
    have HC420_7:=Aside0.mk hl420_7
    clear hi420_7 hl420_7
    replace p420:=eq_true p420
    replace q420:=eq_true q420
    have p421 : 0 ≤ (x5_1 : Int):=od
    have q421 : x5_1 < (l1.length : Int):=od
    obtain ⟨ad421,A421_7,c421_7,e421,hx421_0,hx421_1,hx421_2,hx421_3,hx421_4,hx421_5,hx421_6,hx421_7,hx421_8,hx421_9,hx421_10,hl421_7,hi421_7⟩:=Qcf HR1.out x5_1 p421 q421
    have hw421_10:=hx421_10
    have hw421_9:=hx421_9
    have hw421_8:=hx421_8
    have hw421_7:=hx421_7
    have hw421_6:=hx421_6
    have hw421_5:=hx421_5
    have hw421_4:=hx421_4
    have hw421_3:=hx421_3
    have hw421_2:=hx421_2
    have hw421_1:=hx421_1
    have hw421_0:=hx421_0
    cases e421
    replace hx421_0:=cl HB hx421_0
    replace hx421_1:=cl HB hx421_1
    replace hx421_2:=cl HB hx421_2
    replace hx421_3:=cl HB hx421_3
    replace hx421_4:=cl HB hx421_4
    replace hx421_5:=cl HB hx421_5
    replace hx421_6:=cl HB hx421_6
    replace hx421_7:=cl HB hx421_7
    replace hx421_8:=cl HB hx421_8
    replace hx421_9:=cl HB hx421_9
    replace hx421_10:=cl HB hx421_10
    have HR421_7:=Aside0.mk hi421_7
    have HC421_7:=Aside0.mk hl421_7
    clear hi421_7 hl421_7
    replace p421:=eq_true p421
    replace q421:=eq_true q421
    refine stP (fun w' => P11 w' (ad420.add ((x5_1).toNat * 11)) (Qad l0 x5_1) A420_7 c420_7 (Q11 w' (ad421.add ((x5_1).toNat * 11)) (Qad l1 x5_1) A421_7 c421_7)) 10 ⟨(cW HB hw420_0),(cW HB hw420_1),(cW HB hw420_2),(cW HB hw420_3),(cW HB hw420_4),(cW HB hw420_5),(cW HB hw420_6),(cW HB hw420_7),(cW HB hw420_8),(cW HB hw420_9),(cW HB hw420_10),(cW HB hw421_0),(cW HB hw421_1),(cW HB hw421_2),(cW HB hw421_3),(cW HB hw421_4),(cW HB hw421_5),(cW HB hw421_6),(cW HB hw421_7),(cW HB hw421_8),(cW HB hw421_9),(cW HB hw421_10)⟩ (h:=fun hHeld => ?_); refine Qap r0_EqOps.tab6 r0_EqOps.bits6 (fun HT_ HW_ => ?_)
    generalize wr.drew = w9 at HB HR420_7 HR421_7 hx420_0 hx420_1 hx420_10 hx420_2 hx420_3 hx420_4 hx420_5 hx420_6 hx420_7 hx420_8 hx420_9 hx421_0 hx421_1 hx421_10 hx421_2 hx421_3 hx421_4 hx421_5 hx421_6 hx421_7 hx421_8 hx421_9 hHeld ⊢
    refine pu HT_ 0 17 1 (h := ?_)
    refine pu HT_ 1 18 3 (h := ?_)
    refine pu HT_ 2 19 7 (h := ?_)
    refine pu HT_ 4 21 23 (h := ?_)
    refine pu HT_ 5 22 55 (h := ?_)
    refine pu HT_ 6 23 119 (h := ?_)
    refine tk HT_ HW_ hHeld 3 20 127 (h := ?_)
    refine tk HT_ HW_ hHeld 7 24 255 (h := ?_)
    refine on HT_ 8 (some 25) 511 (h:=fun K hK => ?_)
    refine gS Tryz.func51 #[.agg #[.int .i64 ((Qad l0 x5_1).f0), .int .i64 ((Qad l0 x5_1).f1), .int .i64 ((Qad l0 x5_1).f2), .int .i64 ((Qad l0 x5_1).f3.f0), .int .i64 ((Qad l0 x5_1).f3.f1), .int .i64 ((Qad l0 x5_1).f3.f2), .string ((Qad l0 x5_1).f4), .slice A420_7 ((Qad l0 x5_1).f5).length c420_7, .int .i64 ((Qad l0 x5_1).f6), .int .i64 ((Qad l0 x5_1).f7), .int .i64 ((Qad l0 x5_1).f8)], .agg #[.int .i64 ((Qad l1 x5_1).f0), .int .i64 ((Qad l1 x5_1).f1), .int .i64 ((Qad l1 x5_1).f2), .int .i64 ((Qad l1 x5_1).f3.f0), .int .i64 ((Qad l1 x5_1).f3.f1), .int .i64 ((Qad l1 x5_1).f3.f2), .string ((Qad l1 x5_1).f4), .slice A421_7 ((Qad l1 x5_1).f5).length c421_7, .int .i64 ((Qad l1 x5_1).f6), .int .i64 ((Qad l1 x5_1).f7), .int .i64 ((Qad l1 x5_1).f8)]] (h := ?_)
    with_reducible refine (r0_EqOp.calls k1 ((Qad l0 x5_1).f0) ((Qad l0 x5_1).f1) ((Qad l0 x5_1).f2) ((Qad l0 x5_1).f3.f0) ((Qad l0 x5_1).f3.f1) ((Qad l0 x5_1).f3.f2) ((Qad l0 x5_1).f4) _ _ ((Qad l0 x5_1).f5) ((Qad l0 x5_1).f6) ((Qad l0 x5_1).f7) ((Qad l0 x5_1).f8) ((Qad l1 x5_1).f0) ((Qad l1 x5_1).f1) ((Qad l1 x5_1).f2) ((Qad l1 x5_1).f3.f0) ((Qad l1 x5_1).f3.f1) ((Qad l1 x5_1).f3.f2) ((Qad l1 x5_1).f4) _ _ ((Qad l1 x5_1).f5) ((Qad l1 x5_1).f6) ((Qad l1 x5_1).f7) ((Qad l1 x5_1).f8) true _ ?side1 ?side2 ?side3 ?side4 A7.out).mono ?_
    (case side1 => exact cb HR420_7 HB)
    (case side2 => exact HC420_7.out)
    (case side3 => exact cb HR421_7 HB)
    (case side4 => exact HC421_7.out)
    rintro e w10 ⟨rfl,hb⟩
    refine ⟨_,rfl, ?_⟩
    have n0_:=bs HB hb
    clear HB
    have HB:=n0_
    clear n0_
    (try clear hb)
    (try clear hb2)
    (try clear hk)
    (try clear hi)
    refine hK.out _ _ ⟨(cW HB hw420_0),(cW HB hw420_1),(cW HB hw420_2),(cW HB hw420_3),(cW HB hw420_4),(cW HB hw420_5),(cW HB hw420_6),(cW HB hw420_7),(cW HB hw420_8),(cW HB hw420_9),(cW HB hw420_10),(cW HB hw421_0),(cW HB hw421_1),(cW HB hw421_2),(cW HB hw421_3),(cW HB hw421_4),(cW HB hw421_5),(cW HB hw421_6),(cW HB hw421_7),(cW HB hw421_8),(cW HB hw421_9),(cW HB hw421_10)⟩ (fun hHeld => ?_)
    clear hK K
    refine nn 25 (h := ?_)
    refine pu HT_ 9 26 1023 (h := ?_)
    refine dn HT_ (h := ?_)
    try go_wp2
    go_roundg k1
    case measure => have:=HK1.out; omega
    case rel => exact ⟨(wrap64 (x5_1 + 1)),rf,H',⟨by have:=HK1.out; omega⟩,⟨bw HB⟩⟩
   replace c8:=Bool.eq_false_iff.mpr c8
   subst c8
   rw [if_neg nft] at H
   obtain rfl:=Option.some.inj H
   try go_wp2
   have n0_:=Aside0.mk (Qaf HB.out)
   clear HB
   have HB:=n0_
   clear n0_
   have p420 : 0 ≤ (x5_1 : Int):=od
   have q420 : x5_1 < (l0.length : Int):=od
   obtain ⟨ad420,A420_7,c420_7,e420,hx420_0,hx420_1,hx420_2,hx420_3,hx420_4,hx420_5,hx420_6,hx420_7,hx420_8,hx420_9,hx420_10,hl420_7,hi420_7⟩:=Qcf HR0.out x5_1 p420 q420
   have hw420_10:=hx420_10
   have hw420_9:=hx420_9
   have hw420_8:=hx420_8
   have hw420_7:=hx420_7
   have hw420_6:=hx420_6
   have hw420_5:=hx420_5
   have hw420_4:=hx420_4
   have hw420_3:=hx420_3
   have hw420_2:=hx420_2
   have hw420_1:=hx420_1
   have hw420_0:=hx420_0
   cases e420
   replace hx420_0:=cl HB hx420_0
   replace hx420_1:=cl HB hx420_1
   replace hx420_2:=cl HB hx420_2
   replace hx420_3:=cl HB hx420_3
   replace hx420_4:=cl HB hx420_4
   replace hx420_5:=cl HB hx420_5
   replace hx420_6:=cl HB hx420_6
   replace hx420_7:=cl HB hx420_7
   replace hx420_8:=cl HB hx420_8
   replace hx420_9:=cl HB hx420_9
   replace hx420_10:=cl HB hx420_10
   have HR420_7:=Aside0.mk hi420_7
   have HC420_7:=Aside0.mk hl420_7
   clear hi420_7 hl420_7
   replace p420:=eq_true p420
   replace q420:=eq_true q420
   have p421 : 0 ≤ (x5_1 : Int):=od
   have q421 : x5_1 < (l1.length : Int):=od
   obtain ⟨ad421,A421_7,c421_7,e421,hx421_0,hx421_1,hx421_2,hx421_3,hx421_4,hx421_5,hx421_6,hx421_7,hx421_8,hx421_9,hx421_10,hl421_7,hi421_7⟩:=Qcf HR1.out x5_1 p421 q421
   have hw421_10:=hx421_10
   have hw421_9:=hx421_9
   have hw421_8:=hx421_8
   have hw421_7:=hx421_7
   have hw421_6:=hx421_6
   have hw421_5:=hx421_5
   have hw421_4:=hx421_4
   have hw421_3:=hx421_3
   have hw421_2:=hx421_2
   have hw421_1:=hx421_1
   have hw421_0:=hx421_0
   cases e421
   replace hx421_0:=cl HB hx421_0
   replace hx421_1:=cl HB hx421_1
   replace hx421_2:=cl HB hx421_2
   replace hx421_3:=cl HB hx421_3
   replace hx421_4:=cl HB hx421_4
   replace hx421_5:=cl HB hx421_5
   replace hx421_6:=cl HB hx421_6
   replace hx421_7:=cl HB hx421_7
   replace hx421_8:=cl HB hx421_8
   replace hx421_9:=cl HB hx421_9
   replace hx421_10:=cl HB hx421_10
   have HR421_7:=Aside0.mk hi421_7
   have HC421_7:=Aside0.mk hl421_7
   clear hi421_7 hl421_7
   replace p421:=eq_true p421
   replace q421:=eq_true q421
   refine stP (fun w' => P11 w' (ad420.add ((x5_1).toNat * 11)) (Qad l0 x5_1) A420_7 c420_7 (Q11 w' (ad421.add ((x5_1).toNat * 11)) (Qad l1 x5_1) A421_7 c421_7)) 10 ⟨(cW HB hw420_0),(cW HB hw420_1),(cW HB hw420_2),(cW HB hw420_3),(cW HB hw420_4),(cW HB hw420_5),(cW HB hw420_6),(cW HB hw420_7),(cW HB hw420_8),(cW HB hw420_9),(cW HB hw420_10),(cW HB hw421_0),(cW HB hw421_1),(cW HB hw421_2),(cW HB hw421_3),(cW HB hw421_4),(cW HB hw421_5),(cW HB hw421_6),(cW HB hw421_7),(cW HB hw421_8),(cW HB hw421_9),(cW HB hw421_10)⟩ (h:=fun hHeld => ?_); refine Qap r0_EqOps.tab6 r0_EqOps.bits6 (fun HT_ HW_ => ?_)
   generalize wr.drew = w11 at HB HR420_7 HR421_7 hx420_0 hx420_1 hx420_10 hx420_2 hx420_3 hx420_4 hx420_5 hx420_6 hx420_7 hx420_8 hx420_9 hx421_0 hx421_1 hx421_10 hx421_2 hx421_3 hx421_4 hx421_5 hx421_6 hx421_7 hx421_8 hx421_9 hHeld ⊢
   refine pu HT_ 0 17 1 (h := ?_)
   refine pu HT_ 1 18 3 (h := ?_)
   refine pu HT_ 2 19 7 (h := ?_)
   refine pu HT_ 4 21 23 (h := ?_)
   refine pu HT_ 5 22 55 (h := ?_)
   refine pu HT_ 6 23 119 (h := ?_)
   refine tk HT_ HW_ hHeld 3 20 127 (h := ?_)
   refine tk HT_ HW_ hHeld 7 24 255 (h := ?_)
   refine on HT_ 8 (some 25) 511 (h:=fun K hK => ?_)
   refine gS Tryz.func51 #[.agg #[.int .i64 ((Qad l0 x5_1).f0), .int .i64 ((Qad l0 x5_1).f1), .int .i64 ((Qad l0 x5_1).f2), .int .i64 ((Qad l0 x5_1).f3.f0), .int .i64 ((Qad l0 x5_1).f3.f1), .int .i64 ((Qad l0 x5_1).f3.f2), .string ((Qad l0 x5_1).f4), .slice A420_7 ((Qad l0 x5_1).f5).length c420_7, .int .i64 ((Qad l0 x5_1).f6), .int .i64 ((Qad l0 x5_1).f7), .int .i64 ((Qad l0 x5_1).f8)], .agg #[.int .i64 ((Qad l1 x5_1).f0), .int .i64 ((Qad l1 x5_1).f1), .int .i64 ((Qad l1 x5_1).f2), .int .i64 ((Qad l1 x5_1).f3.f0), .int .i64 ((Qad l1 x5_1).f3.f1), .int .i64 ((Qad l1 x5_1).f3.f2), .string ((Qad l1 x5_1).f4), .slice A421_7 ((Qad l1 x5_1).f5).length c421_7, .int .i64 ((Qad l1 x5_1).f6), .int .i64 ((Qad l1 x5_1).f7), .int .i64 ((Qad l1 x5_1).f8)]] (h := ?_)
   with_reducible refine (r0_EqOp.calls k1 ((Qad l0 x5_1).f0) ((Qad l0 x5_1).f1) ((Qad l0 x5_1).f2) ((Qad l0 x5_1).f3.f0) ((Qad l0 x5_1).f3.f1) ((Qad l0 x5_1).f3.f2) ((Qad l0 x5_1).f4) _ _ ((Qad l0 x5_1).f5) ((Qad l0 x5_1).f6) ((Qad l0 x5_1).f7) ((Qad l0 x5_1).f8) ((Qad l1 x5_1).f0) ((Qad l1 x5_1).f1) ((Qad l1 x5_1).f2) ((Qad l1 x5_1).f3.f0) ((Qad l1 x5_1).f3.f1) ((Qad l1 x5_1).f3.f2) ((Qad l1 x5_1).f4) _ _ ((Qad l1 x5_1).f5) ((Qad l1 x5_1).f6) ((Qad l1 x5_1).f7) ((Qad l1 x5_1).f8) false _ ?side1 ?side2 ?side3 ?side4 A7.out).mono ?_
   (case side1 => exact cb HR420_7 HB)
   (case side2 => exact HC420_7.out)
   (case side3 => exact cb HR421_7 HB)
   (case side4 => exact HC421_7.out)
   rintro e w12 ⟨rfl,hb⟩
   refine ⟨_,rfl, ?_⟩
   have n0_:=bs HB hb
   clear HB
   have HB:=n0_
   clear n0_
   (try clear hb)
   (try clear hb2)
   (try clear hk)
   (try clear hi)
   refine hK.out _ _ ⟨(cW HB hw420_0),(cW HB hw420_1),(cW HB hw420_2),(cW HB hw420_3),(cW HB hw420_4),(cW HB hw420_5),(cW HB hw420_6),(cW HB hw420_7),(cW HB hw420_8),(cW HB hw420_9),(cW HB hw420_10),(cW HB hw421_0),(cW HB hw421_1),(cW HB hw421_2),(cW HB hw421_3),(cW HB hw421_4),(cW HB hw421_5),(cW HB hw421_6),(cW HB hw421_7),(cW HB hw421_8),(cW HB hw421_9),(cW HB hw421_10)⟩ (fun hHeld => ?_)
   clear hK K
   refine nn 25 (h := ?_)
   refine pu HT_ 9 26 1023 (h := ?_)
   refine dn HT_ (h := ?_)
   try go_wp2
   go_ret
   exact ⟨re,bw HB⟩
def w11_wakes.f (k : Nat)  : Option (Bool):=(some (([(⟨1,1,1,(⟨0,0,0⟩ : SElem),(⟨#[97,98]⟩ : ByteArray),([] : List (SElem)),0,0,0⟩ : SOp)] : List (SOp)) : List (SOp))).bind fun y423 => ((caret_Set.f k y423 0).bind fun bt426 => ((caret_Place.f y423 1 1 1).bind fun bt431 => ((w11_num.f bt426.2.2.2).bind fun t433 => (if t433 = 0 then ((w11_num.f bt431.2).bind fun t434 => (if t434 = 0 then (if (bt426.1 == 0 && (bt426.2.1 == 0 && (bt426.2.2.1 == 0))) = true then (some (bt431.1 == 2)) else (some false)) else (some false))) else (some false)))))
theorem w11_wakes.mono : ∀ k,LeO (w11_wakes.f k ) (w11_wakes.f (k + 1) ):=by
 intro  k
 unfold w11_wakes.f
 repeat' first
   | (with_reducible exact caret_Set.mono _ _ _)
   | (with_reducible exact LeO.refl _)
   | (with_reducible exact LeO.none _)
   | (with_reducible refine LeO.ite ?_ ?_)
   | (with_reducible refine LeO.bind ?_ (fun _ => ?_))
   | exact caret_Set.mono _ _ _
   | exact LeO.none _
   | refine LeO.ite ?_ ?_
   | refine LeO.bind ?_ (fun _ => ?_)
theorem w11_wakes.calls (k : Nat)  (r : Bool) (w : World) (h : w11_wakes.f k  = some r) :
  Calls Tryz.prog 18 #[] w fun e w' => e = .returned (.bool r) ∧ Below w.heap.size w w':=by
 have hu64:=Tryz.underlying64
 have hu32:=Tryz.underlying32
 have HB:=Aside0.mk (Below.refl w.heap.size w)
 unfold w11_wakes.f at h; have H:=h
 clear h
 obtain ⟨y423,hy423⟩ : ∃ y_ : List (SOp),y_ = (([(⟨1,1,1,(⟨0,0,0⟩ : SElem),(⟨#[97,98]⟩ : ByteArray),([] : List (SElem)),0,0,0⟩ : SOp)] : List (SOp))):=⟨_,rfl⟩
 first | rw [Option.bind_some,← hy423] at H | rw [← hy423] at H
 have Ny423:=Aside0.mk hy423
 clear hy423
 obtain ⟨⟨t426,t427,t428,t429⟩,A1,H⟩:=bE H
 try dsimp only at H
 obtain ⟨⟨t431,t432⟩,A2,H⟩:=bE H
 try dsimp only at H
 obtain ⟨t433,A3,H⟩:=bE H
 by_cases c4 : t433 = 0; rotate_left
 ·rw [if_neg c4] at H
  obtain ⟨c4b0,c4b1⟩:=bF c4
  obtain rfl:=Option.some.inj H
  go_enter Tryz.func18,Tryz.ntmps18
  go_wp2_with (first | ((with_reducible refine Qae (N:=7) rfl ?_); refine Kd.S_lit kOp _ 64 ?hg (N:=7) ?hd (xs:=([(⟨1,1,1,(⟨0,0,0⟩ : SElem),(⟨#[97,98]⟩ : ByteArray),([] : List (SElem)),0,0,0⟩ : SOp)] : List (SOp))) (inner:=[.int .i64 1, .int .i64 1, .int .i64 1, .int .i64 0, .int .i64 0, .int .i64 0, .string (⟨#[97,98]⟩ : ByteArray), .slice none 0 0, .int .i64 0, .int .i64 0, .int .i64 0]) (ok:=fun _ => True) (okp:=fun _ => True) ?hr ?hp (fun _ hk => hk) trivial (Below.refl _ _) (Nat.le_refl _) (by simp) ?_; (case hd => rfl); (case hg => rfl); (case hr => first | (go_simp; done) | (go_simp; rfl)); (case hp => exact (Reps.front (show Kd.M kOp _ _ _ (⟨1,1,1,(⟨0,0,0⟩ : SElem),(⟨#[97,98]⟩ : ByteArray),([] : List (SElem)),0,0,0⟩ : SOp) [.int .i64 1, .int .i64 1, .int .i64 1, .int .i64 0, .int .i64 0, .int .i64 0, .string (⟨#[97,98]⟩ : ByteArray), .slice none 0 0, .int .i64 0, .int .i64 0, .int .i64 0] from (kOp_mkM _ _ _ (⟨1,1,1,(⟨0,0,0⟩ : SElem),(⟨#[97,98]⟩ : ByteArray),([] : List (SElem)),0,0,0⟩ : SOp) (Kd.R_nil _ _ _ _ _))) rfl (Reps.none _ _) rfl)); intro v424 w31 ho32 hb hg_ hnew_; clear hg_ hnew_; (first | rw [← Ny423.out] at ho32 | (simp only [Int.reduceToNat] at ho32; rw [← Ny423.out] at ho32)); have HO425:=Aside0.mk (Kd.S_lower ho32 (Qak (bw HB))); replace HB:=bs HB hb; clear hb ho32; obtain ⟨Ao33,co33,eo33⟩:=Kd.S_slice HO425.out; subst eo33) | ((with_reducible refine Qac (f:=8) rfl ?_); refine gl (some 10) Tryz.func8 #[.slice Ao33 y423.length co33, .int .i64 0] (h := ?_); (with_reducible refine (caret_Set.calls k _ _ y423 0 t426 t427 t428 t429 _ ?side1 ?side2 A1.out).mono ?_); (case side1 => exact cs HO425); (case side2 => exact (Kd.S_reads' HO425.out).2.1); rintro e w34 ⟨rfl,hb⟩; refine ⟨_,rfl, ?_⟩; replace HO425:=sb HO425 hb; replace HB:=bs HB hb; clear hb) | ((with_reducible refine Qae (N:=2) rfl ?_); refine bx 2 #[.int .i64 0, .int .i64 0, .int .i64 0] 32 (h := ?_); intro gb430 hg w35 hbox hb; have BK430:=Aside0.mk (hbox); have GW430:=bz HB hg; have GE430:=bz HB hg; replace HO425:=Aside0.mk (Kd.S_below (Kd.S_elderB (sk HO425) gb430 (Nat.le_of_eq hg.symm)) hb); replace HB:=bs HB hb; clear hb hbox hg; obtain ⟨_,_,_,_,_,_⟩:=kc3 BK430) | ((with_reducible refine Qac (f:=12) rfl ?_); refine gl (some 16) Tryz.func12 #[.slice Ao33 y423.length co33, .agg #[.int .i64 1, .int .i64 1, .int .i64 1]] (h := ?_); (with_reducible refine (caret_Place.calls _ _ y423 1 1 1 t431 t432 _ ?side1 ?side2 A2.out).mono ?_); (case side1 => refine (Kd.S_reads' (e:=64) (base:=w.heap.size) (ok:=fun k_ => (True ∧ k_ ≠ gb430)) (n:=y423.length) (c:=co33) ?_).2.2; exact (by (with_reducible repeat (first | apply Kd.S_alloc | apply Kd.S_drewN | apply Kd.S_drew)); exact (Kd.S_mono (Kd.S_far (p:=⟨gb430,2,none⟩) (Kd.S_far (p:=⟨gb430,1,none⟩) (Kd.S_far (p:=⟨gb430,0,none⟩) (Kd.S_mono HO425.out (fun k_ hk => (⟨hk,hk.2⟩ : _ ∧ k_ ≠ gb430))) (fun _ hk => hk.2) (.int .i64 t426)) (fun _ hk => hk.2) (.int .i64 t427)) (fun _ hk => hk.2) (.int .i64 t428)) (fun _ h_ => h_.1)))); (case side2 => exact (Kd.S_reads' HO425.out).2.1); rintro e w37 ⟨rfl,hb⟩; refine ⟨_,rfl, ?_⟩; replace HO425:=Aside0.mk (Kd.S_below (by (with_reducible repeat (first | apply Kd.S_alloc | apply Kd.S_drewN | apply Kd.S_drew)); exact (Kd.S_mono (Kd.S_far (p:=⟨gb430,2,none⟩) (Kd.S_far (p:=⟨gb430,1,none⟩) (Kd.S_far (p:=⟨gb430,0,none⟩) (Kd.S_mono HO425.out (fun k_ hk => (⟨hk,hk.2⟩ : _ ∧ k_ ≠ gb430))) (fun _ hk => hk.2) (.int .i64 t426)) (fun _ hk => hk.2) (.int .i64 t427)) (fun _ hk => hk.2) (.int .i64 t428)) (fun _ h_ => h_.1))) hb); replace BK430:=Aside0.mk (Qbs (g:=gb430) (o:=.cells #[.int .i64 t426, .int .i64 t427, .int .i64 t428] 32 (0,0)) (bp (bp (bp (kk BK430) 0) 1) 2) hb); replace HB:=bs HB hb; clear hb) | ((with_reducible refine Qac (f:=10) rfl ?_); refine gl (some 20) Tryz.func10 #[.int .i64 t429] (h := ?_); (with_reducible refine (w11_num.calls t429 t433 _ A3.out).mono ?_); rintro e w' ⟨rfl,⟨nd,rfl⟩⟩; refine ⟨_,rfl, ?_⟩))
  go_ret
  exact ⟨re,bw HB⟩
 rw [if_pos c4] at H
 obtain ⟨c4b0,c4b1⟩:=bT c4
 clear c4
 obtain ⟨t434,A5,H⟩:=bE H
 by_cases c6 : t434 = 0; rotate_left
 ·rw [if_neg c6] at H
  obtain ⟨c6b0,c6b1⟩:=bF c6
  obtain rfl:=Option.some.inj H
  go_enter Tryz.func18,Tryz.ntmps18
  go_wp2_with (first | ((with_reducible refine Qae (N:=7) rfl ?_); refine Kd.S_lit kOp _ 64 ?hg (N:=7) ?hd (xs:=([(⟨1,1,1,(⟨0,0,0⟩ : SElem),(⟨#[97,98]⟩ : ByteArray),([] : List (SElem)),0,0,0⟩ : SOp)] : List (SOp))) (inner:=[.int .i64 1, .int .i64 1, .int .i64 1, .int .i64 0, .int .i64 0, .int .i64 0, .string (⟨#[97,98]⟩ : ByteArray), .slice none 0 0, .int .i64 0, .int .i64 0, .int .i64 0]) (ok:=fun _ => True) (okp:=fun _ => True) ?hr ?hp (fun _ hk => hk) trivial (Below.refl _ _) (Nat.le_refl _) (by simp) ?_; (case hd => rfl); (case hg => rfl); (case hr => first | (go_simp; done) | (go_simp; rfl)); (case hp => exact (Reps.front (show Kd.M kOp _ _ _ (⟨1,1,1,(⟨0,0,0⟩ : SElem),(⟨#[97,98]⟩ : ByteArray),([] : List (SElem)),0,0,0⟩ : SOp) [.int .i64 1, .int .i64 1, .int .i64 1, .int .i64 0, .int .i64 0, .int .i64 0, .string (⟨#[97,98]⟩ : ByteArray), .slice none 0 0, .int .i64 0, .int .i64 0, .int .i64 0] from (kOp_mkM _ _ _ (⟨1,1,1,(⟨0,0,0⟩ : SElem),(⟨#[97,98]⟩ : ByteArray),([] : List (SElem)),0,0,0⟩ : SOp) (Kd.R_nil _ _ _ _ _))) rfl (Reps.none _ _) rfl)); intro v424 w24 ho25 hb hg_ hnew_; clear hg_ hnew_; (first | rw [← Ny423.out] at ho25 | (simp only [Int.reduceToNat] at ho25; rw [← Ny423.out] at ho25)); have HO425:=Aside0.mk (Kd.S_lower ho25 (Qak (bw HB))); replace HB:=bs HB hb; clear hb ho25; obtain ⟨Ao26,co26,eo26⟩:=Kd.S_slice HO425.out; subst eo26) | ((with_reducible refine Qac (f:=8) rfl ?_); refine gl (some 10) Tryz.func8 #[.slice Ao26 y423.length co26, .int .i64 0] (h := ?_); (with_reducible refine (caret_Set.calls k _ _ y423 0 t426 t427 t428 t429 _ ?side1 ?side2 A1.out).mono ?_); (case side1 => exact cs HO425); (case side2 => exact (Kd.S_reads' HO425.out).2.1); rintro e w27 ⟨rfl,hb⟩; refine ⟨_,rfl, ?_⟩; replace HO425:=sb HO425 hb; replace HB:=bs HB hb; clear hb) | ((with_reducible refine Qae (N:=2) rfl ?_); refine bx 2 #[.int .i64 0, .int .i64 0, .int .i64 0] 32 (h := ?_); intro gb430 hg w28 hbox hb; have BK430:=Aside0.mk (hbox); have GW430:=bz HB hg; have GE430:=bz HB hg; replace HO425:=Aside0.mk (Kd.S_below (Kd.S_elderB (sk HO425) gb430 (Nat.le_of_eq hg.symm)) hb); replace HB:=bs HB hb; clear hb hbox hg; obtain ⟨_,_,_,_,_,_⟩:=kc3 BK430) | ((with_reducible refine Qac (f:=12) rfl ?_); refine gl (some 16) Tryz.func12 #[.slice Ao26 y423.length co26, .agg #[.int .i64 1, .int .i64 1, .int .i64 1]] (h := ?_); (with_reducible refine (caret_Place.calls _ _ y423 1 1 1 t431 t432 _ ?side1 ?side2 A2.out).mono ?_); (case side1 => refine (Kd.S_reads' (e:=64) (base:=w.heap.size) (ok:=fun k_ => (True ∧ k_ ≠ gb430)) (n:=y423.length) (c:=co26) ?_).2.2; exact (by (with_reducible repeat (first | apply Kd.S_alloc | apply Kd.S_drewN | apply Kd.S_drew)); exact (Kd.S_mono (Kd.S_far (p:=⟨gb430,2,none⟩) (Kd.S_far (p:=⟨gb430,1,none⟩) (Kd.S_far (p:=⟨gb430,0,none⟩) (Kd.S_mono HO425.out (fun k_ hk => (⟨hk,hk.2⟩ : _ ∧ k_ ≠ gb430))) (fun _ hk => hk.2) (.int .i64 t426)) (fun _ hk => hk.2) (.int .i64 t427)) (fun _ hk => hk.2) (.int .i64 t428)) (fun _ h_ => h_.1)))); (case side2 => exact (Kd.S_reads' HO425.out).2.1); rintro e w30 ⟨rfl,hb⟩; refine ⟨_,rfl, ?_⟩; replace HO425:=Aside0.mk (Kd.S_below (by (with_reducible repeat (first | apply Kd.S_alloc | apply Kd.S_drewN | apply Kd.S_drew)); exact (Kd.S_mono (Kd.S_far (p:=⟨gb430,2,none⟩) (Kd.S_far (p:=⟨gb430,1,none⟩) (Kd.S_far (p:=⟨gb430,0,none⟩) (Kd.S_mono HO425.out (fun k_ hk => (⟨hk,hk.2⟩ : _ ∧ k_ ≠ gb430))) (fun _ hk => hk.2) (.int .i64 t426)) (fun _ hk => hk.2) (.int .i64 t427)) (fun _ hk => hk.2) (.int .i64 t428)) (fun _ h_ => h_.1))) hb); replace BK430:=Aside0.mk (Qbs (g:=gb430) (o:=.cells #[.int .i64 t426, .int .i64 t427, .int .i64 t428] 32 (0,0)) (bp (bp (bp (kk BK430) 0) 1) 2) hb); replace HB:=bs HB hb; clear hb) | ((with_reducible refine Qac (f:=10) rfl ?_); refine gl (some 20) Tryz.func10 #[.int .i64 t429] (h := ?_); (with_reducible refine (w11_num.calls t429 t433 _ A3.out).mono ?_); rintro e w' ⟨rfl,⟨nd,rfl⟩⟩; refine ⟨_,rfl, ?_⟩) | (go_at_call 10; (with_reducible refine (w11_num.calls t432 t434 _ A5.out).mono ?_); rintro e w' ⟨rfl,⟨nd,rfl⟩⟩))
  go_ret
  exact ⟨re,bw HB⟩
 rw [if_pos c6] at H
 obtain ⟨c6b0,c6b1⟩:=bT c6
 clear c6
 by_cases c7 : (t426 == 0 && (t427 == 0 && (t428 == 0))) = true
 ·rw [if_pos c7] at H
  have c7b0 : (t426 == 0 && (t427 == 0 && (t428 == 0))) = true:=c7
  (try (have c7b1 : decide (t426 = 0 && (t427 == 0 && (t428 == 0))) = true:=by simpa using c7))
  (try (have c7b2 : (t426 == 0 && (t427 == 0 && (t428 == 0))) = true:=by simpa using c7))
  clear c7
  obtain rfl:=Option.some.inj H
  go_enter Tryz.func18,Tryz.ntmps18
  go_wp2_with (first | ((with_reducible refine Qae (N:=7) rfl ?_); refine Kd.S_lit kOp _ 64 ?hg (N:=7) ?hd (xs:=([(⟨1,1,1,(⟨0,0,0⟩ : SElem),(⟨#[97,98]⟩ : ByteArray),([] : List (SElem)),0,0,0⟩ : SOp)] : List (SOp))) (inner:=[.int .i64 1, .int .i64 1, .int .i64 1, .int .i64 0, .int .i64 0, .int .i64 0, .string (⟨#[97,98]⟩ : ByteArray), .slice none 0 0, .int .i64 0, .int .i64 0, .int .i64 0]) (ok:=fun _ => True) (okp:=fun _ => True) ?hr ?hp (fun _ hk => hk) trivial (Below.refl _ _) (Nat.le_refl _) (by simp) ?_; (case hd => rfl); (case hg => rfl); (case hr => first | (go_simp; done) | (go_simp; rfl)); (case hp => exact (Reps.front (show Kd.M kOp _ _ _ (⟨1,1,1,(⟨0,0,0⟩ : SElem),(⟨#[97,98]⟩ : ByteArray),([] : List (SElem)),0,0,0⟩ : SOp) [.int .i64 1, .int .i64 1, .int .i64 1, .int .i64 0, .int .i64 0, .int .i64 0, .string (⟨#[97,98]⟩ : ByteArray), .slice none 0 0, .int .i64 0, .int .i64 0, .int .i64 0] from (kOp_mkM _ _ _ (⟨1,1,1,(⟨0,0,0⟩ : SElem),(⟨#[97,98]⟩ : ByteArray),([] : List (SElem)),0,0,0⟩ : SOp) (Kd.R_nil _ _ _ _ _))) rfl (Reps.none _ _) rfl)); intro v424 w8 ho9 hb hg_ hnew_; clear hg_ hnew_; (first | rw [← Ny423.out] at ho9 | (simp only [Int.reduceToNat] at ho9; rw [← Ny423.out] at ho9)); have HO425:=Aside0.mk (Kd.S_lower ho9 (Qak (bw HB))); replace HB:=bs HB hb; clear hb ho9; obtain ⟨Ao10,co10,eo10⟩:=Kd.S_slice HO425.out; subst eo10) | ((with_reducible refine Qac (f:=8) rfl ?_); refine gl (some 10) Tryz.func8 #[.slice Ao10 y423.length co10, .int .i64 0] (h := ?_); (with_reducible refine (caret_Set.calls k _ _ y423 0 t426 t427 t428 t429 _ ?side1 ?side2 A1.out).mono ?_); (case side1 => exact cs HO425); (case side2 => exact (Kd.S_reads' HO425.out).2.1); rintro e w11 ⟨rfl,hb⟩; refine ⟨_,rfl, ?_⟩; replace HO425:=sb HO425 hb; replace HB:=bs HB hb; clear hb) | ((with_reducible refine Qae (N:=2) rfl ?_); refine bx 2 #[.int .i64 0, .int .i64 0, .int .i64 0] 32 (h := ?_); intro gb430 hg w12 hbox hb; have BK430:=Aside0.mk (hbox); have GW430:=bz HB hg; have GE430:=bz HB hg; replace HO425:=Aside0.mk (Kd.S_below (Kd.S_elderB (sk HO425) gb430 (Nat.le_of_eq hg.symm)) hb); replace HB:=bs HB hb; clear hb hbox hg; obtain ⟨_,_,_,_,_,_⟩:=kc3 BK430) | ((with_reducible refine Qac (f:=12) rfl ?_); refine gl (some 16) Tryz.func12 #[.slice Ao10 y423.length co10, .agg #[.int .i64 1, .int .i64 1, .int .i64 1]] (h := ?_); (with_reducible refine (caret_Place.calls _ _ y423 1 1 1 t431 t432 _ ?side1 ?side2 A2.out).mono ?_); (case side1 => refine (Kd.S_reads' (e:=64) (base:=w.heap.size) (ok:=fun k_ => (True ∧ k_ ≠ gb430)) (n:=y423.length) (c:=co10) ?_).2.2; exact (by (with_reducible repeat (first | apply Kd.S_alloc | apply Kd.S_drewN | apply Kd.S_drew)); exact (Kd.S_mono (Kd.S_far (p:=⟨gb430,2,none⟩) (Kd.S_far (p:=⟨gb430,1,none⟩) (Kd.S_far (p:=⟨gb430,0,none⟩) (Kd.S_mono HO425.out (fun k_ hk => (⟨hk,hk.2⟩ : _ ∧ k_ ≠ gb430))) (fun _ hk => hk.2) (.int .i64 t426)) (fun _ hk => hk.2) (.int .i64 t427)) (fun _ hk => hk.2) (.int .i64 t428)) (fun _ h_ => h_.1)))); (case side2 => exact (Kd.S_reads' HO425.out).2.1); rintro e w14 ⟨rfl,hb⟩; refine ⟨_,rfl, ?_⟩; replace HO425:=Aside0.mk (Kd.S_below (by (with_reducible repeat (first | apply Kd.S_alloc | apply Kd.S_drewN | apply Kd.S_drew)); exact (Kd.S_mono (Kd.S_far (p:=⟨gb430,2,none⟩) (Kd.S_far (p:=⟨gb430,1,none⟩) (Kd.S_far (p:=⟨gb430,0,none⟩) (Kd.S_mono HO425.out (fun k_ hk => (⟨hk,hk.2⟩ : _ ∧ k_ ≠ gb430))) (fun _ hk => hk.2) (.int .i64 t426)) (fun _ hk => hk.2) (.int .i64 t427)) (fun _ hk => hk.2) (.int .i64 t428)) (fun _ h_ => h_.1))) hb); replace BK430:=Aside0.mk (Qbs (g:=gb430) (o:=.cells #[.int .i64 t426, .int .i64 t427, .int .i64 t428] 32 (0,0)) (bp (bp (bp (kk BK430) 0) 1) 2) hb); replace HB:=bs HB hb; clear hb) | ((with_reducible refine Qac (f:=10) rfl ?_); refine gl (some 20) Tryz.func10 #[.int .i64 t429] (h := ?_); (with_reducible refine (w11_num.calls t429 t433 _ A3.out).mono ?_); rintro e w' ⟨rfl,⟨nd,rfl⟩⟩; refine ⟨_,rfl, ?_⟩) | (go_at_call 10; (with_reducible refine (w11_num.calls t432 t434 _ A5.out).mono ?_); rintro e w' ⟨rfl,⟨nd,rfl⟩⟩; obtain ⟨_,_,_,_,_,_⟩:=kc3 BK430))
  go_ret
  exact ⟨re,bw HB⟩
 rw [if_neg c7] at H
 have c7b0 : (t426 == 0 && (t427 == 0 && (t428 == 0))) = false:=by simpa using c7
 (try (have c7b1 : decide (t426 = 0 && (t427 == 0 && (t428 == 0))) = false:=by simpa using c7))
 (try (have c7b2 : (t426 == 0 && (t427 == 0 && (t428 == 0))) = false:=by simpa using c7))
 (try (have c7b3 : ¬ (t426 = 0 && (t427 == 0 && (t428 == 0))):=by simpa using c7))
 clear c7
 obtain rfl:=Option.some.inj H
 go_enter Tryz.func18,Tryz.ntmps18
 go_wp2_with (first | ((with_reducible refine Qae (N:=7) rfl ?_); refine Kd.S_lit kOp _ 64 ?hg (N:=7) ?hd (xs:=([(⟨1,1,1,(⟨0,0,0⟩ : SElem),(⟨#[97,98]⟩ : ByteArray),([] : List (SElem)),0,0,0⟩ : SOp)] : List (SOp))) (inner:=[.int .i64 1, .int .i64 1, .int .i64 1, .int .i64 0, .int .i64 0, .int .i64 0, .string (⟨#[97,98]⟩ : ByteArray), .slice none 0 0, .int .i64 0, .int .i64 0, .int .i64 0]) (ok:=fun _ => True) (okp:=fun _ => True) ?hr ?hp (fun _ hk => hk) trivial (Below.refl _ _) (Nat.le_refl _) (by simp) ?_; (case hd => rfl); (case hg => rfl); (case hr => first | (go_simp; done) | (go_simp; rfl)); (case hp => exact (Reps.front (show Kd.M kOp _ _ _ (⟨1,1,1,(⟨0,0,0⟩ : SElem),(⟨#[97,98]⟩ : ByteArray),([] : List (SElem)),0,0,0⟩ : SOp) [.int .i64 1, .int .i64 1, .int .i64 1, .int .i64 0, .int .i64 0, .int .i64 0, .string (⟨#[97,98]⟩ : ByteArray), .slice none 0 0, .int .i64 0, .int .i64 0, .int .i64 0] from (kOp_mkM _ _ _ (⟨1,1,1,(⟨0,0,0⟩ : SElem),(⟨#[97,98]⟩ : ByteArray),([] : List (SElem)),0,0,0⟩ : SOp) (Kd.R_nil _ _ _ _ _))) rfl (Reps.none _ _) rfl)); intro v424 w16 ho17 hb hg_ hnew_; clear hg_ hnew_; (first | rw [← Ny423.out] at ho17 | (simp only [Int.reduceToNat] at ho17; rw [← Ny423.out] at ho17)); have HO425:=Aside0.mk (Kd.S_lower ho17 (Qak (bw HB))); replace HB:=bs HB hb; clear hb ho17; obtain ⟨Ao18,co18,eo18⟩:=Kd.S_slice HO425.out; subst eo18) | ((with_reducible refine Qac (f:=8) rfl ?_); refine gl (some 10) Tryz.func8 #[.slice Ao18 y423.length co18, .int .i64 0] (h := ?_); (with_reducible refine (caret_Set.calls k _ _ y423 0 t426 t427 t428 t429 _ ?side1 ?side2 A1.out).mono ?_); (case side1 => exact cs HO425); (case side2 => exact (Kd.S_reads' HO425.out).2.1); rintro e w19 ⟨rfl,hb⟩; refine ⟨_,rfl, ?_⟩; replace HO425:=sb HO425 hb; replace HB:=bs HB hb; clear hb) | ((with_reducible refine Qae (N:=2) rfl ?_); refine bx 2 #[.int .i64 0, .int .i64 0, .int .i64 0] 32 (h := ?_); intro gb430 hg w20 hbox hb; have BK430:=Aside0.mk (hbox); have GW430:=bz HB hg; have GE430:=bz HB hg; replace HO425:=Aside0.mk (Kd.S_below (Kd.S_elderB (sk HO425) gb430 (Nat.le_of_eq hg.symm)) hb); replace HB:=bs HB hb; clear hb hbox hg; obtain ⟨_,_,_,_,_,_⟩:=kc3 BK430) | ((with_reducible refine Qac (f:=12) rfl ?_); refine gl (some 16) Tryz.func12 #[.slice Ao18 y423.length co18, .agg #[.int .i64 1, .int .i64 1, .int .i64 1]] (h := ?_); (with_reducible refine (caret_Place.calls _ _ y423 1 1 1 t431 t432 _ ?side1 ?side2 A2.out).mono ?_); (case side1 => refine (Kd.S_reads' (e:=64) (base:=w.heap.size) (ok:=fun k_ => (True ∧ k_ ≠ gb430)) (n:=y423.length) (c:=co18) ?_).2.2; exact (by (with_reducible repeat (first | apply Kd.S_alloc | apply Kd.S_drewN | apply Kd.S_drew)); exact (Kd.S_mono (Kd.S_far (p:=⟨gb430,2,none⟩) (Kd.S_far (p:=⟨gb430,1,none⟩) (Kd.S_far (p:=⟨gb430,0,none⟩) (Kd.S_mono HO425.out (fun k_ hk => (⟨hk,hk.2⟩ : _ ∧ k_ ≠ gb430))) (fun _ hk => hk.2) (.int .i64 t426)) (fun _ hk => hk.2) (.int .i64 t427)) (fun _ hk => hk.2) (.int .i64 t428)) (fun _ h_ => h_.1)))); (case side2 => exact (Kd.S_reads' HO425.out).2.1); rintro e w22 ⟨rfl,hb⟩; refine ⟨_,rfl, ?_⟩; replace HO425:=Aside0.mk (Kd.S_below (by (with_reducible repeat (first | apply Kd.S_alloc | apply Kd.S_drewN | apply Kd.S_drew)); exact (Kd.S_mono (Kd.S_far (p:=⟨gb430,2,none⟩) (Kd.S_far (p:=⟨gb430,1,none⟩) (Kd.S_far (p:=⟨gb430,0,none⟩) (Kd.S_mono HO425.out (fun k_ hk => (⟨hk,hk.2⟩ : _ ∧ k_ ≠ gb430))) (fun _ hk => hk.2) (.int .i64 t426)) (fun _ hk => hk.2) (.int .i64 t427)) (fun _ hk => hk.2) (.int .i64 t428)) (fun _ h_ => h_.1))) hb); replace BK430:=Aside0.mk (Qbs (g:=gb430) (o:=.cells #[.int .i64 t426, .int .i64 t427, .int .i64 t428] 32 (0,0)) (bp (bp (bp (kk BK430) 0) 1) 2) hb); replace HB:=bs HB hb; clear hb) | ((with_reducible refine Qac (f:=10) rfl ?_); refine gl (some 20) Tryz.func10 #[.int .i64 t429] (h := ?_); (with_reducible refine (w11_num.calls t429 t433 _ A3.out).mono ?_); rintro e w' ⟨rfl,⟨nd,rfl⟩⟩; refine ⟨_,rfl, ?_⟩) | (go_at_call 10; (with_reducible refine (w11_num.calls t432 t434 _ A5.out).mono ?_); rintro e w' ⟨rfl,⟨nd,rfl⟩⟩; obtain ⟨_,_,_,_,_,_⟩:=kc3 BK430))
 go_ret
 exact ⟨re,bw HB⟩
end
end Go.Proofs.YtonoaflfobajcaaGreatDoor.L
end
