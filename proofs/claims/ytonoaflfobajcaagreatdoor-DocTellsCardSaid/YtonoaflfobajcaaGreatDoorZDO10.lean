/- Part 10 of the proof that for every argument the law DocTells answers true: which elements of any row are visible, its text, how many toggles of any edit count, whether it is effective, any element's rune, and whether any op would be idle, are the page's, or the error is. -/
import Derived.Test.YtonoaflfobajcaaGreatDoorZDO9
section
namespace Go.Proofs.YtonoaflfobajcaaGreatDoor.L
open Go.RowKit Go.Proofs.YtonoaflfobajcaaGreatDoorW.PrintWords Go.Proofs.YtonoaflfobajcaaGreatDoorW.PrintLast Go.Proofs.YtonoaflfobajcaaGreatDoorW.PrintMore
set_option linter.unusedVariables false
set_option linter.unusedSimpArgs false
set_option maxHeartbeats 40000000
set_option maxRecDepth 1000000
section
attribute [local go_sem] Qbl Qbj Qbp Qbo Qba Qaz Qbk Qbi
def r4_Behind.f (k : Nat) (l0 : List (SOp)) (a1_0 : Int) (a1_1 : Int) (a1_2 : Int) (a1_3 : Int) (a1_4 : Int) (a1_5 : Int) (a1_6 : ByteArray) (l1_7 : List (SElem)) (a1_8 : Int) (a1_9 : Int) (a1_10 : Int) : Option ((List (SOp))):=(r0_CopyOps.f k l0).bind fun t531 => ((r0_CopyOp.f k a1_0 a1_1 a1_2 a1_3 a1_4 a1_5 a1_6 l1_7 a1_8 a1_9 a1_10).bind fun bt534 => (if t531.length < 1256584717458 then (some (t531 ++ [(⟨bt534.1,bt534.2.1,bt534.2.2.1,(⟨bt534.2.2.2.1,bt534.2.2.2.2.1,bt534.2.2.2.2.2.1⟩ : SElem),bt534.2.2.2.2.2.2.1,bt534.2.2.2.2.2.2.2.1,bt534.2.2.2.2.2.2.2.2.1,bt534.2.2.2.2.2.2.2.2.2.1,bt534.2.2.2.2.2.2.2.2.2.2⟩ : SOp)])) else (none)))
theorem r4_Behind.calls (k : Nat) (A0 : Option Addr) (c0 : Nat) (l0 : List (SOp)) (a1_0 : Int) (a1_1 : Int) (a1_2 : Int) (a1_3 : Int) (a1_4 : Int) (a1_5 : Int) (a1_6 : ByteArray) (A1_7 : Option Addr) (c1_7 : Nat) (l1_7 : List (SElem)) (a1_8 : Int) (a1_9 : Int) (a1_10 : Int) (r : List (SOp)) (w : World) (hr0 : Kd.C kOp w A0 l0.length l0) (hc0 : l0.length <= c0) (hr1_7 : Kd.C Qao w A1_7 l1_7.length l1_7) (hc1_7 : l1_7.length <= c1_7) (h : r4_Behind.f k l0 a1_0 a1_1 a1_2 a1_3 a1_4 a1_5 a1_6 l1_7 a1_8 a1_9 a1_10 = some r) :
  Calls Tryz.prog 35 #[.slice A0 l0.length c0, .agg #[.int .i64 a1_0, .int .i64 a1_1, .int .i64 a1_2, .int .i64 a1_3, .int .i64 a1_4, .int .i64 a1_5, .string a1_6, .slice A1_7 l1_7.length c1_7, .int .i64 a1_8, .int .i64 a1_9, .int .i64 a1_10]] w fun e w' => ∃ v0_ : Value,e = .returned (v0_) /\ Kd.S kOp 64 w' w.heap.size (fun _ => True) v0_ r /\ Below w.heap.size w w':=by
 have hu64:=Tryz.underlying64
 have HR0:=Zz.k hr0
 have HC0:=Zz.k hc0
 clear hr0 hc0
 have HR1_7:=Zz.k hr1_7
 have HC1_7:=Zz.k hc1_7
 clear hr1_7 hc1_7
 have HB:=Zz.k (Below.refl w.heap.size w)
 unfold r4_Behind.f at h; have H:=h
 clear h
 obtain ⟨t531,A3,H⟩:=bE H
 obtain ⟨⟨t534,t535,t536,t537,t538,t539,t540,t541,t544,t545,t546⟩,A4,H⟩:=bE H
 try dsimp only at H
 by_cases c5 : t531.length < 1256584717458; rotate_left
 ·rw [if_neg c5] at H
  exact absurd H (by simp)
 rw [if_pos c5] at H
 have LMc5:=Zz.k c5
 clear c5
 obtain ⟨y547,hy547⟩ : ∃ y_ : List (SOp),y_ = (t531 ++ [(⟨t534,t535,t536,(⟨t537,t538,t539⟩ : SElem),t540,t541,t544,t545,t546⟩ : SOp)]):=⟨_,rfl⟩
 first | rw [Option.bind_some,<- hy547] at H | rw [<- hy547] at H
 have Ny547:=Zz.k hy547
 clear hy547
 obtain rfl:=Zo H
 go_enter Tryz.func35,Tryz.ntmps35
 try go_wp2_with (first | ((with_reducible refine Qaf (N:=3) rfl ?_); refine bx 3 #[.int .i64 a1_0, .int .i64 a1_1, .int .i64 a1_2, .int .i64 a1_3, .int .i64 a1_4, .int .i64 a1_5, .string a1_6, .slice A1_7 l1_7.length c1_7, .int .i64 a1_8, .int .i64 a1_9, .int .i64 a1_10] 64 (h := ?_); intro gb530 hg w6 hbox hb; have BK530:=Zz.k (hbox); have GW530:=bz HB hg; have GE530:=bz HB hg; replace HB:=bs HB hb; clear hb hbox hg))
 have n0_:=Zz.k (Qal BK530.out)
 have n1_:=Zz.k (Qae HB.out)
 clear BK530
 clear HB
 have BK530:=n0_
 have HB:=n1_
 clear n0_ n1_
 refine stP (fun w' => E11 w' gb530 (.int .i64 a1_0) (.int .i64 a1_1) (.int .i64 a1_2) (.int .i64 a1_3) (.int .i64 a1_4) (.int .i64 a1_5) (.string a1_6) (.slice A1_7 l1_7.length c1_7) (.int .i64 a1_8) (.int .i64 a1_9) (.int .i64 a1_10)) 7 (e11 BK530) (h:=fun hHeld => ?_)
 generalize w6.drew = w7 at BK530 HB hHeld ⊢
 refine pu0 0 5 1 (h := ?_)
 refine tk0 hHeld 2 7 5 (h := ?_)
 refine on0 1 (some 6) 7 (h:=fun K hK => ?_)
 refine gS Tryz.func6 #[.slice A0 l0.length c0] (h := ?_)
 with_reducible refine (r0_CopyOps.calls k _ _ l0 t531 _ ?side1 ?side2 A3.out).mono ?_
 (case side1 => exact cb HR0 HB)
 (case side2 => exact HC0.out)
 rintro e w8 ⟨v532,rfl,ho0,hb⟩
 refine ⟨_,rfl, ?_⟩
 have n0_:=Zz.k (Kd.S_lower (Kd.S_newB ho0 (kk BK530)) (Qaj (bw HB)))
 have n1_:=bl BK530 hb
 have n2_:=bs HB hb
 clear BK530
 clear HB
 have HO533:=n0_
 have BK530:=n1_
 have HB:=n2_
 clear n0_ n1_ n2_
 (try clear hb)
 (try clear hb2)
 (try clear hk)
 (try clear hi)
 (try clear ho0)
 refine hK.out _ _ (e11 BK530) (fun hHeld => ?_)
 clear hK K
 refine nn 6 (h := ?_)
 refine on0 3 (some 8) 15 (h:=fun K hK => ?_)
 refine gS Tryz.func32 #[.agg #[.int .i64 a1_0, .int .i64 a1_1, .int .i64 a1_2, .int .i64 a1_3, .int .i64 a1_4, .int .i64 a1_5, .string a1_6, .slice A1_7 l1_7.length c1_7, .int .i64 a1_8, .int .i64 a1_9, .int .i64 a1_10]] (h := ?_)
 with_reducible refine (r0_CopyOp.calls k a1_0 a1_1 a1_2 a1_3 a1_4 a1_5 a1_6 _ _ l1_7 a1_8 a1_9 a1_10 t534 t535 t536 t537 t538 t539 t540 t541 t544 t545 t546 _ ?side1 ?side2 A4.out).mono ?_
 (case side1 => exact cb HR1_7 HB)
 (case side2 => exact HC1_7.out)
 rintro e w9 ⟨v542,rfl,ho0,hb⟩
 refine ⟨_,rfl, ?_⟩
 have n0_:=Zz.k (Kd.S_elder' (sk HO533) (Kd.R_base ho0) hb)
 have n1_:=Zz.k (Kd.R_lower ho0 (Qaj (bw HB)))
 have n2_:=bl BK530 hb
 have n3_:=bs HB hb
 clear HO533
 clear BK530
 clear HB
 have HO533:=n0_
 have HO543:=n1_
 have BK530:=n2_
 have HB:=n3_
 clear n0_ n1_ n2_ n3_
 (try clear hb)
 (try clear hb2)
 (try clear hk)
 (try clear hi)
 (try clear ho0)
 obtain ⟨Ao11,co11,eo11⟩:=Kd.R_slice HO543.out
 (first | subst eo11 | (injection eo11 with f1_ f2_ f3_; have f4_:=f1_.symm; have f5_:=f3_.symm; clear f1_ f2_ f3_; subst f4_; subst f5_))
 refine hK.out _ _ (e11 BK530) (fun hHeld => ?_)
 clear hK K
 refine nn 8 (h := ?_)
 refine on0 4 (some 9) 31 (h:=fun K hK => ?_)
 refine value_ (w1 := ?_) (v := ?_) (by rfl) rfl ?_ ?_
 rotate_left 2
 ·go_simp
  constructor
  ·rfl
  rfl
 refine hK.out _ _ ⟨(Qdb (Qay BK530.out _) 0).trans rfl,(Qdb (Qay BK530.out _) 1).trans rfl,(Qdb (Qay BK530.out _) 2).trans rfl,(Qdb (Qay BK530.out _) 3).trans rfl,(Qdb (Qay BK530.out _) 4).trans rfl,(Qdb (Qay BK530.out _) 5).trans rfl,(Qdb (Qay BK530.out _) 6).trans rfl,(Qdb (Qay BK530.out _) 7).trans rfl,(Qdb (Qay BK530.out _) 8).trans rfl,(Qdb (Qay BK530.out _) 9).trans rfl,(Qdb (Qay BK530.out _) 10).trans rfl⟩ (fun hHeld => ?_)
 clear hK K
 refine nn 9 (h := ?_)
 refine on0 5 (some 10) 63 (h:=fun K hK => ?_)
 refine Kd.S_append_step kOp (w0:=w) w.heap.size (by rfl) (.tmp 6) (.tmp 9) 24 64 (.agg #[(.int .i64 0),(.int .i64 0),(.int .i64 0),(.int .i64 0),(.int .i64 0),(.int .i64 0),(.string ⟨#[]⟩),(.slice none 0 0),(.int .i64 0),(.int .i64 0),(.int .i64 0)]) 112 rfl Tryz.underlying24 info64 rfl (by decide) (by omega) v532 t531 (⟨t534,t535,t536,(⟨t537,t538,t539⟩ : SElem),t540,t541,t544,t545,t546⟩ : SOp) [.int .i64 t534, .int .i64 t535, .int .i64 t536, .int .i64 t537, .int .i64 t538, .int .i64 t539, .string t540, .slice Ao11 t541.length co11, .int .i64 t544, .int .i64 t545, .int .i64 t546] (fun k_ => k_ ≠ gb530) (fun k_ => some k_ = (.slice Ao11 t541.length co11 : Value).ownBlock) rfl rfl ?aP (fun k_ hk_ => ((Kd.R_mono (ok':=fun k_ => ((fun k_ => k_ ≠ gb530)) k_ /\ some k_ ≠ (v532 : Value).ownBlock) (Kd.R_types (Kd.R_apart' (HO543.out) (Kd.S_typed HO533.out) (by decide)) BK530.out (by decide)) (fun k_ hk => ⟨hk.2,hk.1.2⟩))).1 k_ hk_.symm) ?aF ?aO ?aB ?aS ?aL ?_
 (case aP => exact kOp_mkM _ _ _ (⟨t534,t535,t536,(⟨t537,t538,t539⟩ : SElem),t540,t541,t544,t545,t546⟩ : SOp) (Kd.R_mono (Kd.R_tight rfl (Kd.R_mono (ok':=fun k_ => ((fun k_ => k_ ≠ gb530)) k_ /\ some k_ ≠ (v532 : Value).ownBlock) (Kd.R_types (Kd.R_apart' (HO543.out) (Kd.S_typed HO533.out) (by decide)) BK530.out (by decide)) (fun k_ hk => ⟨hk.2,hk.1.2⟩))) (fun _ h_ => h_)))
 (case aB => exact (bw HB))
 (case aF => exact (fun k_ hk => Kd.freshB (kk BK530) k_ hk))
 (case aO => exact (by (with_reducible repeat (first | apply Kd.S_alloc | apply Kd.S_drewN | apply Kd.S_drew)); exact Kd.S_mono HO533.out (fun k_ hk => ⟨hk.1.2,fun e_ => hk.2 e_⟩)))
 (case aS => exact (Qaj (bw HB)))
 (case aL => have:=LMc5.out; omega)
 intro v548 w10 ho hb hg hat
 rw [<- Ny547.out] at ho
 have n0_:=Zz.k (Qcm (kk BK530) hg (Kd.S_away HO533.out (fun _ hk => hk.1.2)))
 have n1_:=Zz.k (hb)
 have n2_:=Zz.k (ho)
 clear BK530
 clear HB
 clear HO533
 clear HO543
 have BK530:=n0_
 have HB:=n1_
 have HO549:=n2_
 clear n0_ n1_ n2_
 clear ho hb hg hat
 refine hK.out _ _ (e11 BK530) (fun hHeld => ?_)
 clear hK K
 refine nn 10 (h := ?_)
 refine pu0 6 4 127 (h := ?_)
 refine dn0 (h := ?_)
 try go_wp2
 go_ret
 exact ⟨_,re,by (with_reducible repeat (first | apply Kd.S_alloc | apply Kd.S_drewN | apply Kd.S_drew)); exact Kd.S_mono HO549.out (fun _ hk => trivial),bw HB⟩
def r4_Idle.f (k : Nat) (l0 : List (SOp)) (a1_0 : Int) (a1_1 : Int) (a1_2 : Int) (a1_3 : Int) (a1_4 : Int) (a1_5 : Int) (a1_6 : ByteArray) (l1_7 : List (SElem)) (a1_8 : Int) (a1_9 : Int) (a1_10 : Int) : Option (Bool):=if a1_2 = 2 then ((r4_Count.f k l0 a1_8 a1_9).bind fun t551 => (some (a1_10 != t551))) else (some false)
theorem r4_Idle.calls (k : Nat) (A0 : Option Addr) (c0 : Nat) (l0 : List (SOp)) (a1_0 : Int) (a1_1 : Int) (a1_2 : Int) (a1_3 : Int) (a1_4 : Int) (a1_5 : Int) (a1_6 : ByteArray) (A1_7 : Option Addr) (c1_7 : Nat) (l1_7 : List (SElem)) (a1_8 : Int) (a1_9 : Int) (a1_10 : Int) (r : Bool) (w : World) (hr0 : Kd.C kOp w A0 l0.length l0) (hc0 : l0.length <= c0) (hr1_7 : Kd.C Qao w A1_7 l1_7.length l1_7) (hc1_7 : l1_7.length <= c1_7) (h : r4_Idle.f k l0 a1_0 a1_1 a1_2 a1_3 a1_4 a1_5 a1_6 l1_7 a1_8 a1_9 a1_10 = some r) :
  Calls Tryz.prog 36 #[.slice A0 l0.length c0, .agg #[.int .i64 a1_0, .int .i64 a1_1, .int .i64 a1_2, .int .i64 a1_3, .int .i64 a1_4, .int .i64 a1_5, .string a1_6, .slice A1_7 l1_7.length c1_7, .int .i64 a1_8, .int .i64 a1_9, .int .i64 a1_10]] w fun e w' => e = .returned (.bool r) /\ Below w.heap.size w w':=by
 have hu64:=Tryz.underlying64
 have HR0:=Zz.k hr0
 have HC0:=Zz.k hc0
 clear hr0 hc0
 have HR1_7:=Zz.k hr1_7
 have HC1_7:=Zz.k hc1_7
 clear hr1_7 hc1_7
 have HB:=Zz.k (Below.refl w.heap.size w)
 unfold r4_Idle.f at h; have H:=h
 clear h
 by_cases c3 : a1_2 = 2; rotate_left
 ·rw [if_neg c3] at H
  obtain ⟨c3b0,c3b1⟩:=bF c3
  obtain rfl:=Zo H
  go_enter Tryz.func36,Tryz.ntmps36
  go_wp2_with (first | ((with_reducible refine Qaf (N:=3) rfl ?_); refine bx 3 #[.int .i64 a1_0, .int .i64 a1_1, .int .i64 a1_2, .int .i64 a1_3, .int .i64 a1_4, .int .i64 a1_5, .string a1_6, .slice A1_7 l1_7.length c1_7, .int .i64 a1_8, .int .i64 a1_9, .int .i64 a1_10] 64 (h := ?_); intro gb550 hg w7 hbox hb; have BK550:=Zz.k (hbox); have GW550:=bz HB hg; have GE550:=bz HB hg; replace HB:=bs HB hb; clear hb hbox hg; obtain ⟨_,_,_,_,_,_,_,_,_,_,_,_,_,_,_,_,_,_,_,_,_,_⟩:=kc11 BK550))
  repeat (go_quiet (first | ((with_reducible refine Qaf (N:=3) rfl ?_); refine bx 3 #[.int .i64 a1_0, .int .i64 a1_1, .int .i64 a1_2, .int .i64 a1_3, .int .i64 a1_4, .int .i64 a1_5, .string a1_6, .slice A1_7 l1_7.length c1_7, .int .i64 a1_8, .int .i64 a1_9, .int .i64 a1_10] 64 (h := ?_); intro gb550 hg w7 hbox hb; have BK550:=Zz.k (hbox); have GW550:=bz HB hg; have GE550:=bz HB hg; replace HB:=bs HB hb; clear hb hbox hg; obtain ⟨_,_,_,_,_,_,_,_,_,_,_,_,_,_,_,_,_,_,_,_,_,_⟩:=kc11 BK550)); try go_wp2_with (first | ((with_reducible refine Qaf (N:=3) rfl ?_); refine bx 3 #[.int .i64 a1_0, .int .i64 a1_1, .int .i64 a1_2, .int .i64 a1_3, .int .i64 a1_4, .int .i64 a1_5, .string a1_6, .slice A1_7 l1_7.length c1_7, .int .i64 a1_8, .int .i64 a1_9, .int .i64 a1_10] 64 (h := ?_); intro gb550 hg w7 hbox hb; have BK550:=Zz.k (hbox); have GW550:=bz HB hg; have GE550:=bz HB hg; replace HB:=bs HB hb; clear hb hbox hg; obtain ⟨_,_,_,_,_,_,_,_,_,_,_,_,_,_,_,_,_,_,_,_,_,_⟩:=kc11 BK550)))
  go_ret
  exact ⟨re,bw HB⟩
 rw [if_pos c3] at H
 obtain ⟨c3b0,c3b1⟩:=bT c3
 clear c3
 obtain ⟨t551,A4,H⟩:=bE H
 obtain rfl:=Zo H
 go_enter Tryz.func36,Tryz.ntmps36
 go_wp2_with (first | ((with_reducible refine Qaf (N:=3) rfl ?_); refine bx 3 #[.int .i64 a1_0, .int .i64 a1_1, .int .i64 a1_2, .int .i64 a1_3, .int .i64 a1_4, .int .i64 a1_5, .string a1_6, .slice A1_7 l1_7.length c1_7, .int .i64 a1_8, .int .i64 a1_9, .int .i64 a1_10] 64 (h := ?_); intro gb550 hg w5 hbox hb; have BK550:=Zz.k (hbox); have GW550:=bz HB hg; have GE550:=bz HB hg; replace HB:=bs HB hb; clear hb hbox hg; obtain ⟨_,_,_,_,_,_,_,_,_,_,_,_,_,_,_,_,_,_,_,_,_,_⟩:=kc11 BK550) | (go_at_call 29; (with_reducible refine (r4_Count.calls k _ _ l0 a1_8 a1_9 t551 _ ?side1 ?side2 A4.out).mono ?_); (case side1 => exact cb HR0 HB); (case side2 => exact HC0.out); rintro e w' ⟨rfl,⟨nd,rfl⟩⟩; (try first | exact ⟨rfl,_,World.drewN_drewN _ _ _⟩ | exact ⟨rfl,_,Eq.trans (World.drewN_drewN _ _ _) (congrArg (World.drewN _) (Nat.add_assoc _ _ _))⟩)))
 repeat (go_quiet (first | ((with_reducible refine Qaf (N:=3) rfl ?_); refine bx 3 #[.int .i64 a1_0, .int .i64 a1_1, .int .i64 a1_2, .int .i64 a1_3, .int .i64 a1_4, .int .i64 a1_5, .string a1_6, .slice A1_7 l1_7.length c1_7, .int .i64 a1_8, .int .i64 a1_9, .int .i64 a1_10] 64 (h := ?_); intro gb550 hg w5 hbox hb; have BK550:=Zz.k (hbox); have GW550:=bz HB hg; have GE550:=bz HB hg; replace HB:=bs HB hb; clear hb hbox hg; obtain ⟨_,_,_,_,_,_,_,_,_,_,_,_,_,_,_,_,_,_,_,_,_,_⟩:=kc11 BK550) | (go_at_call 29; (with_reducible refine (r4_Count.calls k _ _ l0 a1_8 a1_9 t551 _ ?side1 ?side2 A4.out).mono ?_); (case side1 => exact cb HR0 HB); (case side2 => exact HC0.out); rintro e w' ⟨rfl,⟨nd,rfl⟩⟩; (try first | exact ⟨rfl,_,World.drewN_drewN _ _ _⟩ | exact ⟨rfl,_,Eq.trans (World.drewN_drewN _ _ _) (congrArg (World.drewN _) (Nat.add_assoc _ _ _))⟩))); try go_wp2_with (first | ((with_reducible refine Qaf (N:=3) rfl ?_); refine bx 3 #[.int .i64 a1_0, .int .i64 a1_1, .int .i64 a1_2, .int .i64 a1_3, .int .i64 a1_4, .int .i64 a1_5, .string a1_6, .slice A1_7 l1_7.length c1_7, .int .i64 a1_8, .int .i64 a1_9, .int .i64 a1_10] 64 (h := ?_); intro gb550 hg w5 hbox hb; have BK550:=Zz.k (hbox); have GW550:=bz HB hg; have GE550:=bz HB hg; replace HB:=bs HB hb; clear hb hbox hg; obtain ⟨_,_,_,_,_,_,_,_,_,_,_,_,_,_,_,_,_,_,_,_,_,_⟩:=kc11 BK550) | (go_at_call 29; (with_reducible refine (r4_Count.calls k _ _ l0 a1_8 a1_9 t551 _ ?side1 ?side2 A4.out).mono ?_); (case side1 => exact cb HR0 HB); (case side2 => exact HC0.out); rintro e w' ⟨rfl,⟨nd,rfl⟩⟩; (try first | exact ⟨rfl,_,World.drewN_drewN _ _ _⟩ | exact ⟨rfl,_,Eq.trans (World.drewN_drewN _ _ _) (congrArg (World.drewN _) (Nat.add_assoc _ _ _))⟩))))
 go_ret
 exact ⟨re,bw HB⟩
def w0_Elems.l0 : Nat -> List (SElem) -> Int -> Option ((List (SElem)))
 | 0,_,_ => none
 | k + 1,x0,x2 => if x2 < (x0.length : Int) then (if 0 <= x2 then (w0_Elems.l0 k (x0.set (x2 : Int).toNat (⟨(-9),0,0⟩ : SElem)) (wrap64 (x2 + 1))) else (none)) else (some x0)
def w0_Elems.f (k : Nat) (l0 : List (SElem)) : Option ((List (SElem))):=w0_Elems.l0 k l0 0
theorem w0_Elems.calls (k : Nat) (P0_ : Nat -> Prop) (u9000_ : Value) (l0 : List (SElem)) (r : List (SElem)) (w0 w : World) (hB : Below w0.heap.size w0 w) (ho0 : Kd.R Qao 32 w w0.heap.size P0_ u9000_ l0) (h : w0_Elems.f k l0 = some r) :
  Calls Tryz.prog 37 #[u9000_] w fun e w' => e = .returned (.tuple #[]) /\ Kd.R Qao 32 w' w0.heap.size (fun k_ => (P0_ k_ \/ w.heap.size <= k_)) u9000_ r /\ Below w0.heap.size w0 w' /\ Kept w w' (fun k_ => P0_ k_):=by
 have hu32:=Tryz.underlying32
 have HO0:=Zz.k (show Kd.R Qao 32 w w0.heap.size (fun k_ => (P0_ k_ \/ w.heap.size <= k_)) u9000_ l0 from Kd.R_mono ho0 (fun k_ hk => (.inl hk)))
 have HK:=Zz.k (Kept.refl w (fun k_ => P0_ k_))
 have HW0:=Zz.k hB.size
 have HB:=Zz.k hB
 clear hB
 unfold w0_Elems.f at h; have H:=h
 clear h
 have H':=Zz.k H
 clear H
 go_enter Tryz.func37,Tryz.ntmps37
 go_wp2
 go_loopg [2] k (fun kq v2 w' => ∃ (x0_1 : List (SElem)) (x2_1 : Int),v2 = .int .i64 x2_1 /\ Zz (w0_Elems.l0 kq x0_1 x2_1 = some r) /\ Zz (kq <= k) /\ Zz (Kd.R Qao 32 w' w0.heap.size (fun k_ => (P0_ k_ \/ w.heap.size <= k_)) u9000_ x0_1) /\ Zz (Kept w w' (fun k_ => P0_ k_)) /\ Zz (Below w0.heap.size w0 w'))
 case atStart => exact ⟨(l0),(0),rf,H',⟨Nat.le_refl _⟩,⟨rk HO0⟩,⟨by repeat (first | (with_reducible first | exact HK.out | apply Kept.alloc | apply Kept.drewN | apply Kept.drew) | exact HK.out)⟩,⟨bw HB⟩⟩
 case round =>
  clear H'
  obtain ⟨x0_1,x2_1,rfl,HA,HK1,HO_0,HK,HB⟩:=hrel
  cases gk with
  | zero => exact absurd HA.out (by simp [w0_Elems.l0])
  | succ k1 =>
   have H:=HA.out
   clear HA
   simp only [w0_Elems.l0] at H
   by_cases c2 : x2_1 < (x0_1.length : Int); rotate_left
   ·rw [if_neg c2] at H
    have c2b0:=Ze c2
    clear c2
    obtain rfl:=Zo H
    obtain ⟨Ao8,co8,eo8⟩:=Kd.R_slice HO_0.out
    subst eo8
    go_wp2
    first | go_end0 | ((try simp only [Exit.inBlock,Exit.then]); refine bodyPost_ret (results_none rfl _ _ _) rfl ?_)
    exact ⟨re,by (with_reducible repeat (first | apply Kd.R_alloc | apply Kd.R_drewN | apply Kd.R_drew)); exact HO_0.out,bw HB,by repeat (first | (with_reducible first | exact HK.out | apply Kept.alloc | apply Kept.drewN | apply Kept.drew) | exact HK.out)⟩
   rw [if_pos c2] at H
   have c2b0:=Zd c2
   clear c2
   by_cases c3 : 0 <= x2_1; rotate_left
   ·rw [if_neg c3] at H
    exact absurd H (by simp)
   rw [if_pos c3] at H
   have c3b0:=Zd c3
   clear c3
   obtain ⟨y552,hy552⟩ : ∃ y_ : List (SElem),y_ = (x0_1.set (x2_1 : Int).toNat (⟨(-9),0,0⟩ : SElem)):=⟨_,rfl⟩
   first | rw [Option.bind_some,<- hy552] at H | rw [<- hy552] at H
   have Ny552:=Zz.k hy552
   clear hy552
   have H':=Zz.k H
   clear H
   obtain ⟨Ao5,co5,eo5⟩:=Kd.R_slice HO_0.out
   subst eo5
   have p4 : 0 <= (x2_1 : Int):=od
   have q4 : (x2_1 : Int) < ((x0_1.length : Int) : Int):=od
   obtain ⟨go4,co4,eo4,gb4,gl4,cl4,HG4⟩:=Kd.R_form HO_0.out (by omega)
   (first | cases eo4 | (injection eo4 with ea_ en_ ec_; (first | subst ea_ | (injection ea_ with ea_; subst ea_)); subst ec_; clear en_))
   have GB4:=Zz.k gb4
   have GG4:=Zz.k HG4
   clear gb4 gl4 HG4
   have HMgo4:=Zz.k (show (P0_ go4 \/ w.heap.size <= go4) from (HO_0.out.1 _ rfl))
   obtain ⟨ce4,hcl4,hM4,hcc4,hfr4⟩:=Kd.R_elem HO_0.out zElem (x2_1 : Int) p4 q4
   obtain rfl:=kElem_openM hM4
   have hx4_0 : wr.cell? ⟨go4,(x2_1 : Int).toNat * 3,none⟩ = some (.int .i64 ((Qaa x0_1 x2_1).f0)):=hcc4 0 _ rfl
   have hx4_1 : wr.cell? ⟨go4,(x2_1 : Int).toNat * 3 + 1,none⟩ = some (.int .i64 ((Qaa x0_1 x2_1).f1)):=hcc4 1 _ rfl
   have hx4_2 : wr.cell? ⟨go4,(x2_1 : Int).toNat * 3 + 2,none⟩ = some (.int .i64 ((Qaa x0_1 x2_1).f2)):=hcc4 2 _ rfl
   have hf4_0 : wr.frozen? ⟨go4,(x2_1 : Int).toNat * 3,none⟩ = false:=hfr4 0
   have hf4_1 : wr.frozen? ⟨go4,(x2_1 : Int).toNat * 3 + 1,none⟩ = false:=hfr4 1
   have hf4_2 : wr.frozen? ⟨go4,(x2_1 : Int).toNat * 3 + 2,none⟩ = false:=hfr4 2
   clear hcl4 hcc4 hfr4 hM4
   replace p4:=eq_true p4
   replace q4:=eq_true q4
   have HX6:=Zz.k (show Kd.R Qao 32 wr w0.heap.size (fun k_ => (P0_ k_ \/ w.heap.size <= k_)) (.slice (some ⟨go4,0,none⟩) x0_1.length co5) x0_1 from (rk HO_0))
   obtain ⟨ce6,hcl6,hM6,hcc6,hfr6⟩:=Kd.R_elem HX6.out zElem (x2_1 : Int) (od) (by have h_ : (x2_1 : Int) < ((x0_1.length : Int) : Int):=od; first | exact h_ | (have e_:=(Kd.R_reads' HO_0.out).1; omega) | simpa using h_)
   obtain rfl:=kElem_openM hM6
   have HP6:=Kd.R_seg HX6.out (x2_1 : Int) (od) (by have h_ : (x2_1 : Int) < ((x0_1.length : Int) : Int):=od; first | exact h_ | (have e_:=(Kd.R_reads' HO_0.out).1; omega) | simpa using h_) (seg:=[.int .i64 (-9), .int .i64 0, .int .i64 0]) (j:=0) hcl6 hcc6 (show 3 <= 3 from by decide) (x':=(⟨(-9),0,0⟩ : SElem)) (Qcc _ _ _ (⟨(-9),0,0⟩ : SElem) ) (fun _ hk => hk)
   have hx6_0:=hcc6 0 _ rfl
   (try simp only [show (Qao).sz = 3 from rfl,Nat.mul_one,Nat.add_zero] at hx6_0)
   have hf6_0:=hfr6 0
   (try simp only [show (Qao).sz = 3 from rfl,Nat.mul_one,Nat.add_zero] at hf6_0)
   have hx6_1:=hcc6 1 _ rfl
   (try simp only [show (Qao).sz = 3 from rfl,Nat.mul_one,Nat.add_zero] at hx6_1)
   have hf6_1:=hfr6 1
   (try simp only [show (Qao).sz = 3 from rfl,Nat.mul_one,Nat.add_zero] at hf6_1)
   have hx6_2:=hcc6 2 _ rfl
   (try simp only [show (Qao).sz = 3 from rfl,Nat.mul_one,Nat.add_zero] at hx6_2)
   have hf6_2:=hfr6 2
   (try simp only [show (Qao).sz = 3 from rfl,Nat.mul_one,Nat.add_zero] at hf6_2)
   clear hcl6 hcc6 hfr6 hM6
   go_wp2_with (first | ((with_reducible refine gate_store (t:=32) (p:=12) rfl ?_); refine Qdd (t:=32) (p:=12) (v := ?vo_w7) (w1:=(((wr.setCell ⟨go4,(x2_1 : Int).toNat * 3,none⟩ (.int .i64 (-9))).setCell ⟨go4,(x2_1 : Int).toNat * 3 + 1,none⟩ (.int .i64 0)).setCell ⟨go4,(x2_1 : Int).toNat * 3 + 2,none⟩ (.int .i64 0))) ?hg ?ho ?hn ?hr ?_; (case ho => rfl); (case hg => rfl); (case hn => rfl); (case hr => first | (go_simp; done) | (go_simp; rfl)); intro w7 hw; have hg : wr.grownBy w7 (some go4):=(by rw [hw]; exact HP6.2); have hp_ : Kd.R Qao 32 w7 w0.heap.size (fun k_ => (P0_ k_ \/ w.heap.size <= k_)) (.slice (some ⟨go4,0,none⟩) x0_1.length co5) y552:=(by rw [hw,Ny552.out]; exact HP6.1); clear HP6; replace HK:=Zz.k (Kept.of_grown (S:=(fun k_ => P0_ k_)) hg (by repeat (first | (with_reducible first | exact HK.out | apply Kept.alloc | apply Kept.drewN | apply Kept.drew) | exact HK.out)) (fun k_ e_ => (HO_0.out.1 k_ e_))); replace HO_0:=Zz.k (hp_); replace HB:=Zz.k ((by rw [hw]; exact Qbw (Qbw (Qbw (HB.out) GB4.out) GB4.out) GB4.out : Below w0.heap.size w0 w7)); clear hg hw hp_))
   go_roundg k1
   case measure => have:=HK1.out; omega
   case rel => exact ⟨(y552),(wrap64 (x2_1 + 1)),rf,H',⟨by have:=HK1.out; omega⟩,⟨rk HO_0⟩,⟨by repeat (first | (with_reducible first | exact HK.out | apply Kept.alloc | apply Kept.drewN | apply Kept.drew) | exact HK.out)⟩,⟨bw HB⟩⟩
def w6_wakes.f  : Option (Bool):=(doc_Text.f ([] : List (SOp))).bind fun bt553 => ((some (([(⟨1,1,1,(⟨0,0,0⟩ : SElem),(⟨#[97]⟩ : ByteArray),([] : List (SElem)),0,0,0⟩ : SOp),(⟨1,2,2,(⟨0,0,0⟩ : SElem),(⟨#[]⟩ : ByteArray),([] : List (SElem)),1,1,0⟩ : SOp)] : List (SOp)) : List (SOp))).bind fun y555 => (if 1 <= (y555.length : Int) then ((doc_Text.f (y555.take 1)).bind fun bt562 => ((doc_Text.f y555).bind fun bt564 => ((w6_num.f bt553.2).bind fun t566 => (if t566 = 0 then ((w6_num.f bt562.2).bind fun t567 => (if t567 = 0 then ((w6_num.f bt564.2).bind fun t568 => (if t568 = 0 then (if bt553.1.toList = ([] : List UInt8) then (if bt562.1.toList = ([97] : List UInt8) then (some (bt564.1.toList == ([] : List UInt8))) else (some false)) else (some false)) else (some false))) else (some false))) else (some false))))) else (none)))
theorem w6_wakes.calls  (r : Bool) (w : World) (h : w6_wakes.f  = some r) :
  Calls Tryz.prog 38 #[] w fun e w' => e = .returned (.bool r) /\ Below w.heap.size w w':=by
 have HRT:=Zz.k (show r = true from Zo (h.symm.trans (by decide +kernel : w6_wakes.f = some true)))
 have hu64:=Tryz.underlying64
 have HB:=Zz.k (Below.refl w.heap.size w)
 unfold w6_wakes.f at h; have H:=h
 clear h
 obtain ⟨⟨t553,t554⟩,A1,H⟩:=bE H
 try dsimp only at H
 obtain ⟨y555,hy555⟩ : ∃ y_ : List (SOp),y_ = (([(⟨1,1,1,(⟨0,0,0⟩ : SElem),(⟨#[97]⟩ : ByteArray),([] : List (SElem)),0,0,0⟩ : SOp),(⟨1,2,2,(⟨0,0,0⟩ : SElem),(⟨#[]⟩ : ByteArray),([] : List (SElem)),1,1,0⟩ : SOp)] : List (SOp))):=⟨_,rfl⟩
 first | rw [Option.bind_some,<- hy555] at H | rw [<- hy555] at H
 have Ny555:=Zz.k hy555
 clear hy555
 by_cases c2 : 1 <= (y555.length : Int); rotate_left
 ·rw [if_neg c2] at H
  exact absurd H (by simp)
 rw [if_pos c2] at H
 have c2b0:=eq_true c2
 have c2b1:=Zd c2
 clear c2
 obtain ⟨y558,hy558⟩ : ∃ y_ : List (SOp),y_ = (y555.take 1):=⟨_,rfl⟩
 first | rw [Option.bind_some,<- hy558] at H | rw [<- hy558] at H
 have Ny558:=Zz.k hy558
 clear hy558
 obtain ⟨⟨t562,t563⟩,A3,H⟩:=bE H
 try dsimp only at H
 obtain ⟨⟨t564,t565⟩,A4,H⟩:=bE H
 try dsimp only at H
 obtain ⟨t566,A5,H⟩:=bE H
 by_cases c6 : t566 = 0; rotate_left
 ·rw [if_neg c6] at H
  obtain rfl:=Zo H
  cases HRT.out
 rw [if_pos c6] at H
 obtain ⟨c6b0,c6b1⟩:=bT c6
 clear c6
 obtain ⟨t567,A7,H⟩:=bE H
 by_cases c8 : t567 = 0; rotate_left
 ·rw [if_neg c8] at H
  obtain rfl:=Zo H
  cases HRT.out
 rw [if_pos c8] at H
 obtain ⟨c8b0,c8b1⟩:=bT c8
 clear c8
 obtain ⟨t568,A9,H⟩:=bE H
 by_cases c10 : t568 = 0; rotate_left
 ·rw [if_neg c10] at H
  obtain rfl:=Zo H
  cases HRT.out
 rw [if_pos c10] at H
 obtain ⟨c10b0,c10b1⟩:=bT c10
 clear c10
 by_cases c11 : t553.toList = ([] : List UInt8); rotate_left
 ·rw [if_neg c11] at H
  obtain rfl:=Zo H
  cases HRT.out
 rw [if_pos c11] at H
 obtain ⟨c11b0,c11b1⟩:=bT c11
 clear c11
 by_cases c12 : t562.toList = ([97] : List UInt8)
 ·rw [if_pos c12] at H
  obtain ⟨c12b0,c12b1⟩:=bT c12
  clear c12
  obtain rfl:=Zo H
  go_enter Tryz.func38,Tryz.ntmps38
  go_wp2_with (first | ((with_reducible refine Qac (f:=20) rfl ?_); refine gl (some 9) Tryz.func20 #[.slice none 0 0] (h := ?_); (refine (doc_Text.calls _ _ ([] : List (SOp)) t553 t554 _ ?side1 ?side2 A1.out).mono ?_); (case side1 => exact Kd.C_nil _ _); (case side2 => exact Nat.le_refl _); rintro e w13 ⟨rfl,hb⟩; refine ⟨_,rfl, ?_⟩; replace HB:=bs HB hb; clear hb) | ((with_reducible refine Qaf (N:=14) rfl ?_); refine Kd.S_lit kOp _ 64 ?hg (N:=14) ?hd (xs:=([(⟨1,1,1,(⟨0,0,0⟩ : SElem),(⟨#[97]⟩ : ByteArray),([] : List (SElem)),0,0,0⟩ : SOp),(⟨1,2,2,(⟨0,0,0⟩ : SElem),(⟨#[]⟩ : ByteArray),([] : List (SElem)),1,1,0⟩ : SOp)] : List (SOp))) (inner:=[.int .i64 1, .int .i64 1, .int .i64 1, .int .i64 0, .int .i64 0, .int .i64 0, .string (⟨#[97]⟩ : ByteArray), .slice none 0 0, .int .i64 0, .int .i64 0, .int .i64 0, .int .i64 1, .int .i64 2, .int .i64 2, .int .i64 0, .int .i64 0, .int .i64 0, .string (⟨#[]⟩ : ByteArray), .slice none 0 0, .int .i64 1, .int .i64 1, .int .i64 0]) (ok:=fun _ => True) (okp:=fun _ => True) ?hr ?hp (fun _ hk => hk) trivial (Below.refl _ _) (Nat.le_refl _) (by simp) ?_; (case hd => rfl); (case hg => rfl); (case hr => first | (go_simp; done) | (go_simp; rfl)); (case hp => exact (Reps.front (show Kd.M kOp _ _ _ (⟨1,1,1,(⟨0,0,0⟩ : SElem),(⟨#[97]⟩ : ByteArray),([] : List (SElem)),0,0,0⟩ : SOp) [.int .i64 1, .int .i64 1, .int .i64 1, .int .i64 0, .int .i64 0, .int .i64 0, .string (⟨#[97]⟩ : ByteArray), .slice none 0 0, .int .i64 0, .int .i64 0, .int .i64 0] from (kOp_mkM _ _ _ (⟨1,1,1,(⟨0,0,0⟩ : SElem),(⟨#[97]⟩ : ByteArray),([] : List (SElem)),0,0,0⟩ : SOp) (Kd.R_nil _ _ _ _ _))) rfl (Reps.front (show Kd.M kOp _ _ _ (⟨1,2,2,(⟨0,0,0⟩ : SElem),(⟨#[]⟩ : ByteArray),([] : List (SElem)),1,1,0⟩ : SOp) [.int .i64 1, .int .i64 2, .int .i64 2, .int .i64 0, .int .i64 0, .int .i64 0, .string (⟨#[]⟩ : ByteArray), .slice none 0 0, .int .i64 1, .int .i64 1, .int .i64 0] from (kOp_mkM _ _ _ (⟨1,2,2,(⟨0,0,0⟩ : SElem),(⟨#[]⟩ : ByteArray),([] : List (SElem)),1,1,0⟩ : SOp) (Kd.R_nil _ _ _ _ _))) rfl (Reps.none _ _) rfl) rfl)); intro v556 w14 ho15 hb hg_ hnew_; clear hg_ hnew_; (first | rw [<- Ny555.out] at ho15 | (simp only [Int.reduceToNat] at ho15; rw [<- Ny555.out] at ho15)); have HO557:=Zz.k (Kd.S_lower ho15 (Qaj (bw HB))); replace HB:=bs HB hb; clear hb ho15; obtain ⟨Ao17,co17,eo17⟩:=Kd.S_slice HO557.out; subst eo17; have q16 : (1 : Int) <= ((y555.length : Int) : Int):=od; obtain ⟨i016,hi016,_,hsz16,_⟩:=info_parts info64; have hroom16 : y555.length <= co17:=(Kd.S_reads' HO557.out).2.1; have hC16 : Kd.C kOp _ Ao17 y555.length y555:=(Kd.S_reads' HO557.out).2.2; have hcut16:=cut_to (P:=Tryz.prog) 24 64 .i64 Tryz.underlying24 hi016 Ao17 y555.length co17 1 (by omega) q16 hroom16; have hr16:=Kd.C_take (m:=1) hC16 (by omega); have hy16 : y558.length = (1 : Int).toNat:=(by rw [Ny558.out,List.length_take]; omega); rw [<- Ny558.out] at hr16; rw [<- hy16] at hcut16; have HR561:=Zz.k hr16; have HC561:=Zz.k (show y558.length <= co17 from by omega); clear hr16 hC16 hroom16 hi016 hsz16; have KY16:=Zz.k hy16; clear hy16; have KL16:=Zz.k (show 1 <= y555.length from by omega); replace q16:=eq_true q16) | ((with_reducible refine Qac (f:=20) rfl ?_); refine gl (some 18) Tryz.func20 #[.slice Ao17 y558.length co17] (h := ?_); (with_reducible refine (doc_Text.calls _ _ y558 t562 t563 _ ?side1 ?side2 A3.out).mono ?_); (case side1 => repeat (first | exact (ck HR561) | (with_reducible refine Kd.C_alloc ?_ _) | (with_reducible refine Kd.C_drewN ?_ _) | (with_reducible refine Kd.C_drew ?_))); (case side2 => exact HC561.out); rintro e w18 ⟨rfl,hb⟩; refine ⟨_,rfl, ?_⟩; replace HO557:=sb HO557 hb; replace HR561:=Zz.k (Kd.C_below (ck HR561) hb); replace HB:=bs HB hb; clear hb) | ((with_reducible refine Qac (f:=20) rfl ?_); refine gl (some 23) Tryz.func20 #[.slice Ao17 y555.length co17] (h := ?_); (with_reducible refine (doc_Text.calls _ _ y555 t564 t565 _ ?side1 ?side2 A4.out).mono ?_); (case side1 => exact cs HO557); (case side2 => exact (Kd.S_reads' HO557.out).2.1); rintro e w19 ⟨rfl,hb⟩; refine ⟨_,rfl, ?_⟩; replace HO557:=sb HO557 hb; replace HR561:=Zz.k (Kd.C_below (ck HR561) hb); replace HB:=bs HB hb; clear hb) | ((with_reducible refine Qac (f:=23) rfl ?_); refine gl (some 27) Tryz.func23 #[.int .i64 t554] (h := ?_); (with_reducible refine (w6_num.calls t554 t566 _ A5.out).mono ?_); rintro e w' ⟨rfl,⟨nd,rfl⟩⟩; refine ⟨_,rfl, ?_⟩) | (go_at_call 23; (with_reducible refine (w6_num.calls t563 t567 _ A7.out).mono ?_); rintro e w' ⟨rfl,⟨nd,rfl⟩⟩) | (go_at_call 23; (with_reducible refine (w6_num.calls t565 t568 _ A9.out).mono ?_); rintro e w' ⟨rfl,⟨nd,rfl⟩⟩))
  go_ret
  exact ⟨re,bw HB⟩
 rw [if_neg c12] at H
 obtain rfl:=Zo H
 cases HRT.out
end
end Go.Proofs.YtonoaflfobajcaaGreatDoor.L
end
