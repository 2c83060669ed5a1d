/- Part 8 of the proof that for every argument the law DocTells answers true: which elements of any row are visible, its text, how many toggles of any edit count, whether it is effective, any element's rune, and whether any op would be idle, are the page's, or the error is. -/
import Derived.Test.YtonoaflfobajcaaGreatDoorZDO7
section
namespace Go.Proofs.YtonoaflfobajcaaGreatDoor.L
open Go.RowKit Go.Proofs.YtonoaflfobajcaaGreatDoorW.PrintWords Go.Proofs.YtonoaflfobajcaaGreatDoorW.PrintLast Go.Proofs.YtonoaflfobajcaaGreatDoorW.PrintMore
set_option linter.unusedVariables false
set_option linter.unusedSimpArgs false
set_option maxHeartbeats 40000000
set_option maxRecDepth 1000000
section
attribute [local go_sem] Qbl Qbj Qbp Qbo Qba Qaz Qbk Qbi
attribute [local go_sem high] Qdi
def r4_Under.l0 : Nat -> List (SOp) -> List (SElem) -> Int -> Int -> Int -> Int -> Option ((List (SElem)))
 | 0,_,_,_,_,_,_ => none
 | k + 1,x0,x5,x6,x296000,x296001,x296002 => if x6 >= 0 then (if 0 <= x6 then (if x6 < (x0.length : Int) then (if ((Qad x0 x6).f4).toList = ([] : List UInt8) then (r4_Under.l0 k x0 x5 (wrap64 (x6 - 1)) x296000 x296001 x296002) else (if (((Qad x0 x6).f3.f0) == x296000 && (((Qad x0 x6).f3.f1) == x296001 && (((Qad x0 x6).f3.f2) == x296002))) = true then (if x5.length < 5864062014805 then (r4_Under.l0 k x0 (x5 ++ [(⟨(Qad x0 x6).f0,(Qad x0 x6).f1,0⟩ : SElem)]) (wrap64 (x6 - 1)) x296000 x296001 x296002) else (none)) else (r4_Under.l0 k x0 x5 (wrap64 (x6 - 1)) x296000 x296001 x296002))) else (none)) else (none)) else ((r4_Begin.f x296000 x296001 x296002).bind fun t303 => (if t303 = true then (some x5) else ((r4_written.f k x0 x296000 x296001 (wrap64 (x296002 + 1))).bind fun t305 => (if t305 = true then (if x5.length < 5864062014805 then (some (x5 ++ [(⟨x296000,x296001,wrap64 (x296002 + 1)⟩ : SElem)])) else (none)) else (some x5)))))
def r4_Under.f (k : Nat) (l0 : List (SOp)) (a1_0 : Int) (a1_1 : Int) (a1_2 : Int) : Option ((List (SElem))):=r4_Under.l0 k l0 ([] : List (SElem)) (wrap64 ((l0.length : Int) - 1)) a1_0 a1_1 a1_2
def r4_Under.T5 : Bool × List (List Nat × List Nat):=(true,[([],[]),([],[]),([0,1],[0,1]),([2],[2]),([3],[3]),([4],[4]),([5],[5]),([6],[6]),([6],[6]),([7,8,6],[6,7,8]),([9,6],[6,9]),([10,6],[6,10]),([6],[6]),([11,12,6],[6,11,12]),([6,13],[6,13])])
def r4_Under.B5 : List Nat:=[0,0,3,7,15,31,63,127,127,511,1023,2047,127,8191,16383]
theorem r4_Under.tab5 : rtab .any (Qcj Tryz.f77 5) = r4_Under.T5:=by kernel_rfl
theorem r4_Under.bits5 : Qau r4_Under.T5.2 r4_Under.B5 = true:=by kernel_rfl
def r4_Under.T6 : Bool × List (List Nat × List Nat):=(true,[([],[]),([],[]),([],[]),([1,2],[1,2]),([3],[3]),([4],[4]),([],[]),([],[]),([6,7],[6,7]),([8],[8]),([9],[9]),([5,10],[5,10]),([11],[11]),([0,12],[0,12]),([13,13,0,1,2,3,4,5,6,7,8,9,10,11,12,13],[0,13])])
def r4_Under.B6 : List Nat:=[0,0,0,6,14,30,0,0,192,448,960,2046,4094,8191,16383]
theorem r4_Under.tab6 : rtab .any (Qcj Tryz.f77 6) = r4_Under.T6:=by kernel_rfl
theorem r4_Under.bits6 : Qau r4_Under.T6.2 r4_Under.B6 = true:=by kernel_rfl
theorem r4_Under.calls (k : Nat) (A0 : Option Addr) (c0 : Nat) (l0 : List (SOp)) (a1_0 : Int) (a1_1 : Int) (a1_2 : Int) (r : List (SElem)) (w : World) (hr0 : Kd.C kOp w A0 l0.length l0) (hc0 : l0.length <= c0) (hT : GT w) (h : r4_Under.f k l0 a1_0 a1_1 a1_2 = some r) :
  Calls Tryz.prog 77 #[.slice A0 l0.length c0, .agg #[.int .i64 a1_0, .int .i64 a1_1, .int .i64 a1_2]] w fun e w' => ∃ v0_ : Value,e = .returned (v0_) /\ Kd.R Qao 32 w' w.heap.size (fun _ => True) v0_ r /\ Below w.heap.size w w':=by
 have hu32:=Tryz.underlying32
 have HR0:=Zz.k hr0
 have HC0:=Zz.k hc0
 clear hr0 hc0
 have HB:=Zz.k (Below.refl w.heap.size w)
 unfold r4_Under.f at h; have H:=h
 clear h
 have H':=Zz.k H
 clear H
 go_enter Tryz.func77,Tryz.ntmps77
 go_wp2_with (first | ((with_reducible refine Qaf (N:=3) rfl ?_); refine bx 3 #[.int .i64 a1_0, .int .i64 a1_1, .int .i64 a1_2] 32 (h := ?_); intro gb295 hg w3 hbox hb; have BK295:=Zz.k (hbox); have GW295:=bz HB hg; have GE295:=bz HB hg; replace HB:=bs HB hb; clear hb hbox hg))
 go_loopg [5,6] k (fun kq v5 v6 w' => ∃ (x5_1 : List (SElem)) (x6_1 : Int),v6 = .int .i64 x6_1 /\ Zz (r4_Under.l0 kq l0 x5_1 x6_1 a1_0 a1_1 a1_2 = some r) /\ Zz (kq <= k) /\ Zz (Kd.R Qao 32 w' w.heap.size (fun k_ => k_ ≠ gb295) v5 x5_1) /\ Zz (w'.heap[gb295]? = some (.cells #[.int .i64 a1_0, .int .i64 a1_1, .int .i64 a1_2] 32 (0,0))) /\ Zz (Below w.heap.size w w'))
 case atStart => exact ⟨(([] : List (SElem))),(wrap64 ((l0.length : Int) - 1)),rf,H',⟨Nat.le_refl _⟩,⟨by first | exact Kd.R_nil _ _ _ _ _ | exact Kd.N_nil _ _ _ _ _ | exact Kd.V_nil _ _ _ _ _ | exact Kd.Q_nil _ _ _ _ _ | exact Kd.S_nil _ _ _ _ _⟩,⟨kk BK295⟩,⟨bw HB⟩⟩
 case round =>
  clear H'
  obtain ⟨x5_1,x6_1,rfl,HA,HK1,HO_5,BK295,HB⟩:=hrel
  cases gk with
  | zero => exact absurd HA.out (by simp [r4_Under.l0])
  | succ k1 =>
   have H:=HA.out
   clear HA
   simp only [r4_Under.l0] at H
   by_cases c4 : x6_1 >= 0; rotate_left
   ·rw [if_neg c4] at H
    have c4b0:=Ze c4
    clear c4
    obtain ⟨t303,A15,H⟩:=bE H
    by_cases c16 : t303 = true
    ·subst c16
     rw [if_pos rfl] at H
     obtain rfl:=Zo H
     obtain ⟨_,_,_,_,_,_⟩:=kc3 BK295
     go_wp2_with (first | ((with_reducible refine Qac (f:=47) rfl ?_); refine gl (some 45) Tryz.func47 #[.agg #[.int .i64 a1_0, .int .i64 a1_1, .int .i64 a1_2]] (h := ?_); (with_reducible refine (r4_Begin.calls a1_0 a1_1 a1_2 true _ A15.out).mono ?_); rintro e w18 ⟨rfl,hb⟩; refine ⟨_,rfl, ?_⟩; replace HO_5:=rb HO_5 hb; replace BK295:=bl BK295 hb; replace HB:=bs HB hb; clear hb))
     go_ret
     exact ⟨_,re,by (with_reducible repeat (first | apply Kd.R_alloc | apply Kd.R_drewN | apply Kd.R_drew)); exact Kd.R_mono HO_5.out (fun _ hk => trivial),bw HB⟩
    replace c16:=Zf c16
    subst c16
    rw [if_neg nft] at H
    obtain ⟨t305,A19,H⟩:=bE H
    by_cases c20 : t305 = true; rotate_left
    ·replace c20:=Zf c20
     subst c20
     rw [if_neg nft] at H
     obtain rfl:=Zo H
     obtain ⟨_,_,_,_,_,_⟩:=kc3 BK295
     go_wp2_with (first | ((with_reducible refine Qac (f:=47) rfl ?_); refine gl (some 45) Tryz.func47 #[.agg #[.int .i64 a1_0, .int .i64 a1_1, .int .i64 a1_2]] (h := ?_); (with_reducible refine (r4_Begin.calls a1_0 a1_1 a1_2 false _ A15.out).mono ?_); rintro e w32 ⟨rfl,hb⟩; refine ⟨_,rfl, ?_⟩; replace HO_5:=rb HO_5 hb; replace BK295:=bl BK295 hb; replace HB:=bs HB hb; clear hb; obtain ⟨_,_,_,_,_,_⟩:=kc3 BK295) | ((with_reducible refine Qaf (N:=7) rfl ?_); refine bx 7 #[.int .i64 0, .int .i64 0, .int .i64 0] 32 (h := ?_); intro gb304 hg w34 hbox hb; have BK304:=Zz.k (hbox); have GW304:=bz HB hg; have GE304:=bz HB hg; have NB295_304:=bn BK295 hg; have NB304_295:=bm BK295 hg; replace HO_5:=Zz.k (Kd.R_below (Kd.R_elderB (rk HO_5) gb304 (Nat.le_of_eq hg.symm)) hb); replace BK295:=bl BK295 hb; replace HB:=bs HB hb; clear hb hbox hg; have hnb35:=NB304_295.out; have hnc35:=NB295_304.out; obtain ⟨_,_,_,_,_,_⟩:=kc3 BK304) | ((with_reducible refine Qac (f:=48) rfl ?_); refine gl (some 57) Tryz.func48 #[.slice A0 l0.length c0, .agg #[.int .i64 a1_0, .int .i64 a1_1, .int .i64 (wrap64 (a1_2 + 1))]] (h := ?_); (with_reducible refine (r4_written.calls k1 _ _ l0 a1_0 a1_1 (wrap64 (a1_2 + 1)) false _ ?side1 ?side2 ?side3 A19.out).mono ?_); (case side1 => exact Kd.C_below HR0.out (bw HB)); (case side2 => exact HC0.out); (case side3 => exact (hT.below (bw HB))); rintro e w37 ⟨rfl,hb⟩; refine ⟨_,rfl, ?_⟩; replace HO_5:=Zz.k (Kd.R_below (by (with_reducible repeat (first | apply Kd.R_alloc | apply Kd.R_drewN | apply Kd.R_drew)); exact (Kd.R_mono (Kd.R_far (p:=⟨gb304,2,none⟩) (Kd.R_far (p:=⟨gb304,1,none⟩) (Kd.R_far (p:=⟨gb304,0,none⟩) (Kd.R_mono HO_5.out (fun k_ hk => (⟨hk,hk.2⟩ : _ /\ k_ ≠ gb304))) (fun _ hk => hk.2) (.int .i64 a1_0)) (fun _ hk => hk.2) (.int .i64 a1_1)) (fun _ hk => hk.2) (.int .i64 (wrap64 (a1_2 + 1)))) (fun _ h_ => h_.1))) hb); replace BK295:=bl BK295 hb; replace BK304:=Zz.k (Qcz (g:=gb304) (o:=.cells #[.int .i64 a1_0, .int .i64 a1_1, .int .i64 (wrap64 (a1_2 + 1))] 32 (0,0)) (bp (bp (bp (kk BK304) 0) 1) 2) hb); replace HB:=bs HB hb; clear hb))
     go_ret
     exact ⟨_,re,by (with_reducible repeat (first | apply Kd.R_alloc | apply Kd.R_drewN | apply Kd.R_drew)); exact Kd.R_mono HO_5.out (fun _ hk => trivial),bw HB⟩
    subst c20
    rw [if_pos rfl] at H
    by_cases c21 : x5_1.length < 5864062014805; rotate_left
    ·rw [if_neg c21] at H
     exact absurd H (by simp)
    rw [if_pos c21] at H
    have LMc21:=Zz.k c21
    clear c21
    obtain ⟨y306,hy306⟩ : ∃ y_ : List (SElem),y_ = (x5_1 ++ [(⟨a1_0,a1_1,wrap64 (a1_2 + 1)⟩ : SElem)]):=⟨_,rfl⟩
    first | rw [Option.bind_some,<- hy306] at H | rw [<- hy306] at H
    have Ny306:=Zz.k hy306
    clear hy306
    obtain rfl:=Zo H
    obtain ⟨_,_,_,_,_,_⟩:=kc3 BK295
    go_wp2_with (first | ((with_reducible refine Qac (f:=47) rfl ?_); refine gl (some 45) Tryz.func47 #[.agg #[.int .i64 a1_0, .int .i64 a1_1, .int .i64 a1_2]] (h := ?_); (with_reducible refine (r4_Begin.calls a1_0 a1_1 a1_2 false _ A15.out).mono ?_); rintro e w23 ⟨rfl,hb⟩; refine ⟨_,rfl, ?_⟩; replace HO_5:=rb HO_5 hb; replace BK295:=bl BK295 hb; replace HB:=bs HB hb; clear hb; obtain ⟨_,_,_,_,_,_⟩:=kc3 BK295) | ((with_reducible refine Qaf (N:=7) rfl ?_); refine bx 7 #[.int .i64 0, .int .i64 0, .int .i64 0] 32 (h := ?_); intro gb304 hg w25 hbox hb; have BK304:=Zz.k (hbox); have GW304:=bz HB hg; have GE304:=bz HB hg; have NB295_304:=bn BK295 hg; have NB304_295:=bm BK295 hg; replace HO_5:=Zz.k (Kd.R_below (Kd.R_elderB (rk HO_5) gb304 (Nat.le_of_eq hg.symm)) hb); replace BK295:=bl BK295 hb; replace HB:=bs HB hb; clear hb hbox hg; have hnb26:=NB304_295.out; have hnc26:=NB295_304.out; obtain ⟨_,_,_,_,_,_⟩:=kc3 BK304) | ((with_reducible refine Qac (f:=48) rfl ?_); refine gl (some 57) Tryz.func48 #[.slice A0 l0.length c0, .agg #[.int .i64 a1_0, .int .i64 a1_1, .int .i64 (wrap64 (a1_2 + 1))]] (h := ?_); (with_reducible refine (r4_written.calls k1 _ _ l0 a1_0 a1_1 (wrap64 (a1_2 + 1)) true _ ?side1 ?side2 ?side3 A19.out).mono ?_); (case side1 => exact Kd.C_below HR0.out (bw HB)); (case side2 => exact HC0.out); (case side3 => exact (hT.below (bw HB))); rintro e w28 ⟨rfl,hb⟩; refine ⟨_,rfl, ?_⟩; replace HO_5:=Zz.k (Kd.R_below (by (with_reducible repeat (first | apply Kd.R_alloc | apply Kd.R_drewN | apply Kd.R_drew)); exact (Kd.R_mono (Kd.R_far (p:=⟨gb304,2,none⟩) (Kd.R_far (p:=⟨gb304,1,none⟩) (Kd.R_far (p:=⟨gb304,0,none⟩) (Kd.R_mono HO_5.out (fun k_ hk => (⟨hk,hk.2⟩ : _ /\ k_ ≠ gb304))) (fun _ hk => hk.2) (.int .i64 a1_0)) (fun _ hk => hk.2) (.int .i64 a1_1)) (fun _ hk => hk.2) (.int .i64 (wrap64 (a1_2 + 1)))) (fun _ h_ => h_.1))) hb); replace BK295:=bl BK295 hb; replace BK304:=Zz.k (Qcz (g:=gb304) (o:=.cells #[.int .i64 a1_0, .int .i64 a1_1, .int .i64 (wrap64 (a1_2 + 1))] 32 (0,0)) (bp (bp (bp (kk BK304) 0) 1) 2) hb); replace HB:=bs HB hb; clear hb; obtain ⟨_,_,_,_,_,_⟩:=kc3 BK304) | ((with_reducible refine Qbs (b:=.append) (xs:=#[.tmp 58, .tmp 60]) rfl ?_); at_builtin; refine Kd.R_append Qao (w0:=w) w.heap.size rfl (.tmp 58) (.tmp 60) 23 32 (.agg #[(.int .i64 0),(.int .i64 0),(.int .i64 0)]) 24 rfl Tryz.underlying23 info32 rfl (by decide) (by omega) u5 x5_1 (⟨a1_0,a1_1,wrap64 (a1_2 + 1)⟩ : SElem) [.int .i64 a1_0, .int .i64 a1_1, .int .i64 (wrap64 (a1_2 + 1))] (fun k_ => k_ ≠ gb295 /\ k_ ≠ gb304) (fun _ => False) rfl rfl ?aP (fun _ hk => hk.elim) ?aF ?aO ?aB ?aS ?aL ?_; (case aP => exact Qcc _ _ _ (⟨a1_0,a1_1,wrap64 (a1_2 + 1)⟩ : SElem)); (case aB => exact (bw HB)); (case aF => exact (fun k_ hk => ⟨Kd.freshB (kk BK295) k_ hk,Kd.freshB (kk BK304) k_ hk⟩)); (case aO => exact (rk HO_5)); (case aS => exact (Qaj (bw HB))); (case aL => have:=LMc21.out; omega); intro v307 w30 ho hb hg hat; rw [<- Ny306.out] at ho; have n0_:=Zz.k (Qcm (kk BK295) hg (Kd.R_away HO_5.out (fun _ hk => hk.1))); have n1_:=Zz.k (Qcm (kk BK304) hg (Kd.R_away HO_5.out (fun _ hk => hk.2))); have n2_:=Zz.k (hb); have n3_:=Zz.k (ho); clear BK295; clear BK304; clear HB; clear HO_5; have BK295:=n0_; have BK304:=n1_; have HB:=n2_; have HO308:=n3_; clear n0_ n1_ n2_ n3_; clear ho hb hg hat))
    go_ret
    exact ⟨_,re,by (with_reducible repeat (first | apply Kd.R_alloc | apply Kd.R_drewN | apply Kd.R_drew)); exact Kd.R_mono HO308.out (fun _ hk => trivial),bw HB⟩
   rw [if_pos c4] at H
   have c4b0:=Zd c4
   clear c4
   by_cases c5 : 0 <= x6_1; rotate_left
   ·rw [if_neg c5] at H
    exact absurd H (by simp)
   rw [if_pos c5] at H
   have c5b0:=Zd c5
   clear c5
   by_cases c6 : x6_1 < (l0.length : Int); rotate_left
   ·rw [if_neg c6] at H
    exact absurd H (by simp)
   rw [if_pos c6] at H
   have c6b0:=Zd c6
   clear c6
   by_cases c7 : ((Qad l0 x6_1).f4).toList = ([] : List UInt8)
   ·rw [if_pos c7] at H
    obtain ⟨c7b0,c7b1⟩:=bT c7
    clear c7
    have H':=Zz.k H
    clear H
    try go_wp2
    have n0_:=Zz.k (Kd.R_drew HO_5.out)
    have n1_:=Zz.k (Qal BK295.out)
    have n2_:=Zz.k (Qae HB.out)
    clear HO_5
    clear BK295
    clear HB
    have HO_5:=n0_
    have BK295:=n1_
    have HB:=n2_
    clear n0_ n1_ n2_
    have p296 : 0 <= (x6_1 : Int):=od
    have q296 : x6_1 < (l0.length : Int):=od
    obtain ⟨ad296,A296_7,c296_7,e296,hx296_0,hx296_1,hx296_2,hx296_3,hx296_4,hx296_5,hx296_6,hx296_7,hx296_8,hx296_9,hx296_10,hl296_7,hi296_7⟩:=Qby HR0.out x6_1 p296 q296
    have hw296_10:=hx296_10
    have hw296_9:=hx296_9
    have hw296_8:=hx296_8
    have hw296_7:=hx296_7
    have hw296_6:=hx296_6
    have hw296_5:=hx296_5
    have hw296_4:=hx296_4
    have hw296_3:=hx296_3
    have hw296_2:=hx296_2
    have hw296_1:=hx296_1
    have hw296_0:=hx296_0
    cases e296
    replace hx296_0:=cl HB hx296_0
    replace hx296_1:=cl HB hx296_1
    replace hx296_2:=cl HB hx296_2
    replace hx296_3:=cl HB hx296_3
    replace hx296_4:=cl HB hx296_4
    replace hx296_5:=cl HB hx296_5
    replace hx296_6:=cl HB hx296_6
    replace hx296_7:=cl HB hx296_7
    replace hx296_8:=cl HB hx296_8
    replace hx296_9:=cl HB hx296_9
    replace hx296_10:=cl HB hx296_10
    have HR296_7:=Zz.k hi296_7
    have HC296_7:=Zz.k hl296_7
    clear hi296_7 hl296_7
    replace p296:=eq_true p296
    replace q296:=eq_true q296
    refine stP (fun w' => Q11 w' (ad296.add ((x6_1).toNat * 11)) (Qad l0 x6_1) A296_7 c296_7) 15 ⟨(cW HB hw296_0),(cW HB hw296_1),(cW HB hw296_2),(cW HB hw296_3),(cW HB hw296_4),(cW HB hw296_5),(cW HB hw296_6),(cW HB hw296_7),(cW HB hw296_8),(cW HB hw296_9),(cW HB hw296_10)⟩ (h:=fun hHeld => ?_); refine Qap r4_Under.tab5 r4_Under.bits5 (fun HT_ HW_ => ?_)
    generalize wr.drew = w8 at HO_5 BK295 HB HR296_7 hx296_0 hx296_1 hx296_10 hx296_2 hx296_3 hx296_4 hx296_5 hx296_6 hx296_7 hx296_8 hx296_9 hHeld ⊢
    refine pu HT_ 0 15 1 (h := ?_)
    refine pu HT_ 1 16 3 (h := ?_)
    refine pu HT_ 2 17 7 (h := ?_)
    refine pu HT_ 3 18 15 (h := ?_)
    refine tk HT_ HW_ hHeld 4 19 31 (h := ?_)
    refine pu HT_ 5 20 63 (h := ?_)
    refine pu HT_ 6 21 127 (h := ?_)
    refine off HT_ 7 22 255 (h := ?_)
    refine off HT_ 8 23 511 (h := ?_)
    refine off HT_ 9 24 1023 (h := ?_)
    refine off HT_ 10 25 2047 (h := ?_)
    refine off HT_ 11 26 4095 (h := ?_)
    refine off HT_ 12 27 8191 (h := ?_)
    refine off HT_ 13 28 16383 (h := ?_)
    refine pu HT_ 14 29 32767 (h := ?_)
    refine dn HT_ (h := ?_)
    try go_wp2
    go_roundg k1
    case measure => have:=HK1.out; omega
    case rel => exact ⟨(x5_1),(wrap64 (x6_1 - 1)),rf,H',⟨by have:=HK1.out; omega⟩,⟨rk HO_5⟩,⟨kk BK295⟩,⟨bw HB⟩⟩
   rw [if_neg c7] at H
   obtain ⟨c7b0,c7b1⟩:=bF c7
   by_cases c9 : (((Qad l0 x6_1).f3.f0) == a1_0 && (((Qad l0 x6_1).f3.f1) == a1_1 && (((Qad l0 x6_1).f3.f2) == a1_2))) = true; rotate_left
   ·rw [if_neg c9] at H
    have c9b0 : (((Qad l0 x6_1).f3.f0) == a1_0 && (((Qad l0 x6_1).f3.f1) == a1_1 && (((Qad l0 x6_1).f3.f2) == a1_2))) = false:=by simpa using c9
    (try (have c9b1 : decide (((Qad l0 x6_1).f3.f0) = a1_0 && (((Qad l0 x6_1).f3.f1) == a1_1 && (((Qad l0 x6_1).f3.f2) == a1_2))) = false:=by simpa using c9))
    (try (have c9b2 : (((Qad l0 x6_1).f3.f0) == a1_0 && (((Qad l0 x6_1).f3.f1) == a1_1 && (((Qad l0 x6_1).f3.f2) == a1_2))) = false:=by simpa using c9))
    (try (have c9b3 : ¬ (((Qad l0 x6_1).f3.f0) = a1_0 && (((Qad l0 x6_1).f3.f1) == a1_1 && (((Qad l0 x6_1).f3.f2) == a1_2))):=by simpa using c9))
    clear c9
    have H':=Zz.k H
    clear H
    try go_wp2
    have n0_:=Zz.k (Kd.R_drew HO_5.out)
    have n1_:=Zz.k (Qal BK295.out)
    have n2_:=Zz.k (Qae HB.out)
    clear HO_5
    clear BK295
    clear HB
    have HO_5:=n0_
    have BK295:=n1_
    have HB:=n2_
    clear n0_ n1_ n2_
    have p296 : 0 <= (x6_1 : Int):=od
    have q296 : x6_1 < (l0.length : Int):=od
    obtain ⟨ad296,A296_7,c296_7,e296,hx296_0,hx296_1,hx296_2,hx296_3,hx296_4,hx296_5,hx296_6,hx296_7,hx296_8,hx296_9,hx296_10,hl296_7,hi296_7⟩:=Qby HR0.out x6_1 p296 q296
    have hw296_10:=hx296_10
    have hw296_9:=hx296_9
    have hw296_8:=hx296_8
    have hw296_7:=hx296_7
    have hw296_6:=hx296_6
    have hw296_5:=hx296_5
    have hw296_4:=hx296_4
    have hw296_3:=hx296_3
    have hw296_2:=hx296_2
    have hw296_1:=hx296_1
    have hw296_0:=hx296_0
    cases e296
    replace hx296_0:=cl HB hx296_0
    replace hx296_1:=cl HB hx296_1
    replace hx296_2:=cl HB hx296_2
    replace hx296_3:=cl HB hx296_3
    replace hx296_4:=cl HB hx296_4
    replace hx296_5:=cl HB hx296_5
    replace hx296_6:=cl HB hx296_6
    replace hx296_7:=cl HB hx296_7
    replace hx296_8:=cl HB hx296_8
    replace hx296_9:=cl HB hx296_9
    replace hx296_10:=cl HB hx296_10
    have HR296_7:=Zz.k hi296_7
    have HC296_7:=Zz.k hl296_7
    clear hi296_7 hl296_7
    replace p296:=eq_true p296
    replace q296:=eq_true q296
    refine stP (fun w' => B3 w' gb295 (.int .i64 a1_0) (.int .i64 a1_1) (.int .i64 a1_2) (Q11 w' (ad296.add ((x6_1).toNat * 11)) (Qad l0 x6_1) A296_7 c296_7)) 15 (b3 BK295 ⟨(cW HB hw296_0),(cW HB hw296_1),(cW HB hw296_2),(cW HB hw296_3),(cW HB hw296_4),(cW HB hw296_5),(cW HB hw296_6),(cW HB hw296_7),(cW HB hw296_8),(cW HB hw296_9),(cW HB hw296_10)⟩) (h:=fun hHeld => ?_); refine Qap r4_Under.tab5 r4_Under.bits5 (fun HT_ HW_ => ?_)
    generalize wr.drew = w14 at HO_5 BK295 HB HR296_7 HR296_7 hx296_0 hx296_1 hx296_10 hx296_2 hx296_3 hx296_4 hx296_5 hx296_6 hx296_7 hx296_8 hx296_9 hx296_0 hx296_1 hx296_10 hx296_2 hx296_3 hx296_4 hx296_5 hx296_6 hx296_7 hx296_8 hx296_9 hHeld ⊢
    refine pu HT_ 0 15 1 (h := ?_)
    refine pu HT_ 1 16 3 (h := ?_)
    refine pu HT_ 2 17 7 (h := ?_)
    refine pu HT_ 3 18 15 (h := ?_)
    refine tk HT_ HW_ hHeld 4 19 31 (h := ?_)
    refine pu HT_ 5 20 63 (h := ?_)
    refine pu HT_ 6 21 127 (h := ?_)
    refine pu HT_ 7 22 255 (h := ?_)
    refine pu HT_ 8 23 511 (h := ?_)
    refine pu HT_ 9 24 1023 (h := ?_)
    refine pu HT_ 10 25 2047 (h := ?_)
    refine tk HT_ HW_ hHeld 11 26 4095 (h := ?_)
    refine tk HT_ HW_ hHeld 12 27 8191 (h := ?_)
    refine pu HT_ 13 28 16383 (h := ?_)
    refine pu HT_ 14 29 32767 (h := ?_)
    refine dn HT_ (h := ?_)
    try go_wp2
    go_roundg k1
    case measure => have:=HK1.out; omega
    case rel => exact ⟨(x5_1),(wrap64 (x6_1 - 1)),rf,H',⟨by have:=HK1.out; omega⟩,⟨rk HO_5⟩,⟨kk BK295⟩,⟨bw HB⟩⟩
   rw [if_pos c9] at H
   have c9b0 : (((Qad l0 x6_1).f3.f0) == a1_0 && (((Qad l0 x6_1).f3.f1) == a1_1 && (((Qad l0 x6_1).f3.f2) == a1_2))) = true:=c9
   (try (have c9b1 : decide (((Qad l0 x6_1).f3.f0) = a1_0 && (((Qad l0 x6_1).f3.f1) == a1_1 && (((Qad l0 x6_1).f3.f2) == a1_2))) = true:=by simpa using c9))
   (try (have c9b2 : (((Qad l0 x6_1).f3.f0) == a1_0 && (((Qad l0 x6_1).f3.f1) == a1_1 && (((Qad l0 x6_1).f3.f2) == a1_2))) = true:=by simpa using c9))
   clear c9
   by_cases c10 : x5_1.length < 5864062014805; rotate_left
   ·rw [if_neg c10] at H
    exact absurd H (by simp)
   rw [if_pos c10] at H
   have LMc10:=Zz.k c10
   clear c10
   obtain ⟨y300,hy300⟩ : ∃ y_ : List (SElem),y_ = (x5_1 ++ [(⟨(Qad l0 x6_1).f0,(Qad l0 x6_1).f1,0⟩ : SElem)]):=⟨_,rfl⟩
   first | rw [Option.bind_some,<- hy300] at H | rw [<- hy300] at H
   have Ny300:=Zz.k hy300
   clear hy300
   have H':=Zz.k H
   clear H
   try go_wp2
   have n0_:=Zz.k (Kd.R_drew HO_5.out)
   have n1_:=Zz.k (Qal BK295.out)
   have n2_:=Zz.k (Qae HB.out)
   clear HO_5
   clear BK295
   clear HB
   have HO_5:=n0_
   have BK295:=n1_
   have HB:=n2_
   clear n0_ n1_ n2_
   have p296 : 0 <= (x6_1 : Int):=od
   have q296 : x6_1 < (l0.length : Int):=od
   obtain ⟨ad296,A296_7,c296_7,e296,hx296_0,hx296_1,hx296_2,hx296_3,hx296_4,hx296_5,hx296_6,hx296_7,hx296_8,hx296_9,hx296_10,hl296_7,hi296_7⟩:=Qby HR0.out x6_1 p296 q296
   have hw296_10:=hx296_10
   have hw296_9:=hx296_9
   have hw296_8:=hx296_8
   have hw296_7:=hx296_7
   have hw296_6:=hx296_6
   have hw296_5:=hx296_5
   have hw296_4:=hx296_4
   have hw296_3:=hx296_3
   have hw296_2:=hx296_2
   have hw296_1:=hx296_1
   have hw296_0:=hx296_0
   cases e296
   replace hx296_0:=cl HB hx296_0
   replace hx296_1:=cl HB hx296_1
   replace hx296_2:=cl HB hx296_2
   replace hx296_3:=cl HB hx296_3
   replace hx296_4:=cl HB hx296_4
   replace hx296_5:=cl HB hx296_5
   replace hx296_6:=cl HB hx296_6
   replace hx296_7:=cl HB hx296_7
   replace hx296_8:=cl HB hx296_8
   replace hx296_9:=cl HB hx296_9
   replace hx296_10:=cl HB hx296_10
   have HR296_7:=Zz.k hi296_7
   have HC296_7:=Zz.k hl296_7
   clear hi296_7 hl296_7
   replace p296:=eq_true p296
   replace q296:=eq_true q296
   refine stP (fun w' => B3 w' gb295 (.int .i64 a1_0) (.int .i64 a1_1) (.int .i64 a1_2) (Q11 w' (ad296.add ((x6_1).toNat * 11)) (Qad l0 x6_1) A296_7 c296_7)) 15 (b3 BK295 ⟨(cW HB hw296_0),(cW HB hw296_1),(cW HB hw296_2),(cW HB hw296_3),(cW HB hw296_4),(cW HB hw296_5),(cW HB hw296_6),(cW HB hw296_7),(cW HB hw296_8),(cW HB hw296_9),(cW HB hw296_10)⟩) (h:=fun hHeld => ?_); refine Qap r4_Under.tab5 r4_Under.bits5 (fun HT_ HW_ => ?_)
   generalize wr.drew = w11 at HO_5 BK295 HB HR296_7 HR296_7 hx296_0 hx296_1 hx296_10 hx296_2 hx296_3 hx296_4 hx296_5 hx296_6 hx296_7 hx296_8 hx296_9 hx296_0 hx296_1 hx296_10 hx296_2 hx296_3 hx296_4 hx296_5 hx296_6 hx296_7 hx296_8 hx296_9 hHeld ⊢
   refine pu HT_ 0 15 1 (h := ?_)
   refine pu HT_ 1 16 3 (h := ?_)
   refine pu HT_ 2 17 7 (h := ?_)
   refine pu HT_ 3 18 15 (h := ?_)
   refine tk HT_ HW_ hHeld 4 19 31 (h := ?_)
   refine pu HT_ 5 20 63 (h := ?_)
   refine pu HT_ 6 21 127 (h := ?_)
   refine pu HT_ 7 22 255 (h := ?_)
   refine pu HT_ 8 23 511 (h := ?_)
   refine pu HT_ 9 24 1023 (h := ?_)
   refine pu HT_ 10 25 2047 (h := ?_)
   refine tk HT_ HW_ hHeld 11 26 4095 (h := ?_)
   refine tk HT_ HW_ hHeld 12 27 8191 (h := ?_)
   refine pu HT_ 13 28 16383 (h := ?_)
   refine pu HT_ 14 29 32767 (h := ?_)
   refine dn HT_ (h := ?_)
   try go_wp2
   have n0_:=Zz.k (Kd.R_drew HO_5.out)
   have n1_:=Zz.k (Qal BK295.out)
   have n2_:=Zz.k (Qae HB.out)
   clear HO_5
   clear BK295
   clear HB
   have HO_5:=n0_
   have BK295:=n1_
   have HB:=n2_
   clear n0_ n1_ n2_
   have p298 : 0 <= (x6_1 : Int):=od
   have q298 : x6_1 < (l0.length : Int):=od
   obtain ⟨ad298,A298_7,c298_7,e298,hx298_0,hx298_1,hx298_2,hx298_3,hx298_4,hx298_5,hx298_6,hx298_7,hx298_8,hx298_9,hx298_10,hl298_7,hi298_7⟩:=Qby HR0.out x6_1 p298 q298
   have hw298_10:=hx298_10
   have hw298_9:=hx298_9
   have hw298_8:=hx298_8
   have hw298_7:=hx298_7
   have hw298_6:=hx298_6
   have hw298_5:=hx298_5
   have hw298_4:=hx298_4
   have hw298_3:=hx298_3
   have hw298_2:=hx298_2
   have hw298_1:=hx298_1
   have hw298_0:=hx298_0
   obtain rfl : ad296 = ad298:=(by injection e298)
   replace hx298_0:=cl HB hx298_0
   replace hx298_1:=cl HB hx298_1
   replace hx298_2:=cl HB hx298_2
   replace hx298_3:=cl HB hx298_3
   replace hx298_4:=cl HB hx298_4
   replace hx298_5:=cl HB hx298_5
   replace hx298_6:=cl HB hx298_6
   replace hx298_7:=cl HB hx298_7
   replace hx298_8:=cl HB hx298_8
   replace hx298_9:=cl HB hx298_9
   replace hx298_10:=cl HB hx298_10
   have HR298_7:=Zz.k hi298_7
   have HC298_7:=Zz.k hl298_7
   clear hi298_7 hl298_7
   replace p298:=eq_true p298
   replace q298:=eq_true q298
   refine stP (fun w' => Q11 w' (ad296.add ((x6_1).toNat * 11)) (Qad l0 x6_1) A298_7 c298_7) 15 ⟨(cW HB hw298_0),(cW HB hw298_1),(cW HB hw298_2),(cW HB hw298_3),(cW HB hw298_4),(cW HB hw298_5),(cW HB hw298_6),(cW HB hw298_7),(cW HB hw298_8),(cW HB hw298_9),(cW HB hw298_10)⟩ (h:=fun hHeld => ?_); refine Qap r4_Under.tab6 r4_Under.bits6 (fun HT_ HW_ => ?_)
   generalize w11.drew = w12 at HO_5 BK295 HB HR298_7 HR298_7 hx298_0 hx298_1 hx298_10 hx298_2 hx298_3 hx298_4 hx298_5 hx298_6 hx298_7 hx298_8 hx298_9 hx298_0 hx298_1 hx298_10 hx298_2 hx298_3 hx298_4 hx298_5 hx298_6 hx298_7 hx298_8 hx298_9 hHeld ⊢
   refine pu HT_ 0 30 1 (h := ?_)
   refine pu HT_ 1 31 3 (h := ?_)
   refine pu HT_ 2 32 7 (h := ?_)
   refine pu HT_ 3 33 15 (h := ?_)
   refine pu HT_ 4 34 31 (h := ?_)
   refine pu HT_ 6 36 95 (h := ?_)
   refine pu HT_ 7 37 223 (h := ?_)
   refine pu HT_ 8 38 479 (h := ?_)
   refine pu HT_ 9 39 991 (h := ?_)
   refine tk HT_ HW_ hHeld 5 35 1023 (h := ?_)
   refine tk HT_ HW_ hHeld 10 40 2047 (h := ?_)
   refine pu HT_ 11 41 4095 (h := ?_)
   refine on HT_ 12 (some 42) 8191 (h:=fun K hK => ?_)
   refine value_ (w1 := ?_) (v := ?_) (by rfl) rfl ?_ ?_
   rotate_left 2
   ·go_simp
    constructor
    ·rfl
    rfl
   refine hK.out _ _ ⟨(World.cell?_alloc_lt _ _ _ (World.block_lt_of_cell? _ _ ((cW HB hw298_0)))).trans ((cW HB hw298_0)),(World.cell?_alloc_lt _ _ _ (World.block_lt_of_cell? _ _ ((cW HB hw298_1)))).trans ((cW HB hw298_1)),(World.cell?_alloc_lt _ _ _ (World.block_lt_of_cell? _ _ ((cW HB hw298_2)))).trans ((cW HB hw298_2)),(World.cell?_alloc_lt _ _ _ (World.block_lt_of_cell? _ _ ((cW HB hw298_3)))).trans ((cW HB hw298_3)),(World.cell?_alloc_lt _ _ _ (World.block_lt_of_cell? _ _ ((cW HB hw298_4)))).trans ((cW HB hw298_4)),(World.cell?_alloc_lt _ _ _ (World.block_lt_of_cell? _ _ ((cW HB hw298_5)))).trans ((cW HB hw298_5)),(World.cell?_alloc_lt _ _ _ (World.block_lt_of_cell? _ _ ((cW HB hw298_6)))).trans ((cW HB hw298_6)),(World.cell?_alloc_lt _ _ _ (World.block_lt_of_cell? _ _ ((cW HB hw298_7)))).trans ((cW HB hw298_7)),(World.cell?_alloc_lt _ _ _ (World.block_lt_of_cell? _ _ ((cW HB hw298_8)))).trans ((cW HB hw298_8)),(World.cell?_alloc_lt _ _ _ (World.block_lt_of_cell? _ _ ((cW HB hw298_9)))).trans ((cW HB hw298_9)),(World.cell?_alloc_lt _ _ _ (World.block_lt_of_cell? _ _ ((cW HB hw298_10)))).trans ((cW HB hw298_10))⟩ (fun hHeld => ?_)
   clear hK K
   refine nn 42 (h := ?_)
   refine on HT_ 13 (some 43) 16383 (h:=fun K hK => ?_)
   refine Kd.R_append_step Qao (w0:=w) w.heap.size (by rfl) (.tmp 30) (.tmp 42) 23 32 (.agg #[(.int .i64 0),(.int .i64 0),(.int .i64 0)]) 24 rfl Tryz.underlying23 info32 rfl (by decide) (by omega) u5 x5_1 (⟨(Qad l0 x6_1).f0,(Qad l0 x6_1).f1,0⟩ : SElem) [.int .i64 ((Qad l0 x6_1).f0), .int .i64 ((Qad l0 x6_1).f1), .int .i64 0] (fun k_ => k_ ≠ gb295) (fun _ => False) rfl rfl ?aP (fun _ hk => hk.elim) ?aF ?aO ?aB ?aS ?aL ?_
   (case aP => exact Qcc _ _ _ (⟨(Qad l0 x6_1).f0,(Qad l0 x6_1).f1,0⟩ : SElem))
   (case aB => exact (bw HB))
   (case aF => exact (fun k_ hk => Kd.freshB (kk BK295) k_ hk))
   (case aO => exact (rk HO_5))
   (case aS => exact (Qaj (bw HB)))
   (case aL => have:=LMc10.out; omega)
   intro v301 w13 ho hb hg hat
   rw [<- Ny300.out] at ho
   have n0_:=Zz.k (Qcm (kk BK295) hg (Kd.R_away HO_5.out (fun _ hk => hk)))
   have n1_:=Zz.k (hb)
   have n2_:=Zz.k (ho)
   clear BK295
   clear HB
   clear HO_5
   have BK295:=n0_
   have HB:=n1_
   have HO302:=n2_
   clear n0_ n1_ n2_
   clear ho hb hg hat
   refine hK.out _ _ ⟨(cW HB hw298_0),(cW HB hw298_1),(cW HB hw298_2),(cW HB hw298_3),(cW HB hw298_4),(cW HB hw298_5),(cW HB hw298_6),(cW HB hw298_7),(cW HB hw298_8),(cW HB hw298_9),(cW HB hw298_10)⟩ (fun hHeld => ?_)
   clear hK K
   refine nn 43 (h := ?_)
   refine pu HT_ 14 5 32767 (h := ?_)
   refine dn HT_ (h := ?_)
   try go_wp2
   go_roundg k1
   case measure => have:=HK1.out; omega
   case rel => exact ⟨(y300),(wrap64 (x6_1 - 1)),rf,H',⟨by have:=HK1.out; omega⟩,⟨rk HO302⟩,⟨kk BK295⟩,⟨bw HB⟩⟩
end
section
attribute [local go_sem] Qbl Qbj Qbp Qbo Qba Qaz Qbk Qbi
attribute [local go_sem high] Qdi
mutual
def r4_Order.l0 : Nat -> List (SOp) -> List (SElem) -> List (SElem) -> Option ((List (SElem)))
 | 0,_,_,_ => none
 | k + 1,x0,x3,x4 => if (x4.length : Int) > 0 then (if 0 <= (wrap64 ((x4.length : Int) - 1)) then (if (wrap64 ((x4.length : Int) - 1)) < (x4.length : Int) then (if (wrap64 ((x4.length : Int) - 1)) <= (x4.length : Int) then ((some (x4.take ((wrap64 ((x4.length : Int) - 1)) : Int).toNat : List (SElem))).bind fun y314 => ((r4_Begin.f ((Qaa x4 (wrap64 ((x4.length : Int) - 1))).f0) ((Qaa x4 (wrap64 ((x4.length : Int) - 1))).f1) ((Qaa x4 (wrap64 ((x4.length : Int) - 1))).f2)).bind fun t317 => (if t317 = true then (r4_Order.j1 k x0 x3 y314 ((Qaa x4 (wrap64 ((x4.length : Int) - 1))).f0) ((Qaa x4 (wrap64 ((x4.length : Int) - 1))).f1) ((Qaa x4 (wrap64 ((x4.length : Int) - 1))).f2)) else (if x3.length < 5864062014805 then (r4_Order.j1 k x0 (x3 ++ [(⟨(Qaa x4 (wrap64 ((x4.length : Int) - 1))).f0,(Qaa x4 (wrap64 ((x4.length : Int) - 1))).f1,(Qaa x4 (wrap64 ((x4.length : Int) - 1))).f2⟩ : SElem)]) y314 ((Qaa x4 (wrap64 ((x4.length : Int) - 1))).f0) ((Qaa x4 (wrap64 ((x4.length : Int) - 1))).f1) ((Qaa x4 (wrap64 ((x4.length : Int) - 1))).f2)) else (none))))) else (none)) else (none)) else (none)) else (some x3)
def r4_Order.j1 : Nat -> List (SOp) -> List (SElem) -> List (SElem) -> Int -> Int -> Int -> Option ((List (SElem)))
 | 0,_,_,_,_,_,_ => none
 | k + 1,x0,x3,x4,x314000,x314001,x314002 => (r4_Under.f k x0 x314000 x314001 x314002).bind fun t321 => (r4_Order.l1 k x0 x3 x4 t321 (wrap64 ((t321.length : Int) - 1)))
def r4_Order.l1 : Nat -> List (SOp) -> List (SElem) -> List (SElem) -> List (SElem) -> Int -> Option ((List (SElem)))
 | 0,_,_,_,_,_ => none
 | k + 1,x0,x3,x4,x6,x7 => if x7 >= 0 then (if 0 <= x7 then (if x7 < (x6.length : Int) then (if x4.length < 5864062014805 then (r4_Order.l1 k x0 x3 (x4 ++ [(⟨(Qaa x6 x7).f0,(Qaa x6 x7).f1,(Qaa x6 x7).f2⟩ : SElem)]) x6 (wrap64 (x7 - 1))) else (none)) else (none)) else (none)) else (r4_Order.l0 k x0 x3 x4)
end
def r4_Order.f (k : Nat) (l0 : List (SOp)) : Option ((List (SElem))):=r4_Order.l0 k l0 ([] : List (SElem)) (([(⟨0,0,0⟩ : SElem)] : List (SElem)))
theorem r4_Order.calls (k : Nat) (A0 : Option Addr) (c0 : Nat) (l0 : List (SOp)) (r : List (SElem)) (w : World) (hr0 : Kd.C kOp w A0 l0.length l0) (hc0 : l0.length <= c0) (hT : GT w) (h : r4_Order.f k l0 = some r) :
  Calls Tryz.prog 49 #[.slice A0 l0.length c0] w fun e w' => ∃ v0_ : Value,e = .returned (v0_) /\ Kd.R Qao 32 w' w.heap.size (fun _ => True) v0_ r /\ Below w.heap.size w w':=by
 have hu32:=Tryz.underlying32
 have HR0:=Zz.k hr0
 have HC0:=Zz.k hc0
 clear hr0 hc0
 have HB:=Zz.k (Below.refl w.heap.size w)
 unfold r4_Order.f at h; have H:=h
 clear h
 obtain ⟨y309,hy309⟩ : ∃ y_ : List (SElem),y_ = (([(⟨0,0,0⟩ : SElem)] : List (SElem))):=⟨_,rfl⟩
 first | rw [Option.bind_some,<- hy309] at H | rw [<- hy309] at H
 have Ny309:=Zz.k hy309
 clear hy309
 have H':=Zz.k H
 clear H
 go_enter Tryz.func49,Tryz.ntmps49
 go_wp2_with (first | ((with_reducible refine Qaf (N:=9) rfl ?_); refine Kd.R_lit Qao _ 32 ?hg (N:=9) ?hd (xs:=([(⟨0,0,0⟩ : SElem)] : List (SElem))) (inner:=[.int .i64 0, .int .i64 0, .int .i64 0]) (ok:=fun _ => True) (okp:=fun _ => True) ?hr ?hp (fun _ hk => hk) trivial (Below.refl _ _) (Nat.le_refl _) (by simp) ?_; (case hd => rfl); (case hg => rfl); (case hr => first | (go_simp; done) | (go_simp; rfl)); (case hp => exact (Reps.c3 (show Kd.M Qao _ _ _ (⟨0,0,0⟩ : SElem) [.int .i64 0, .int .i64 0, .int .i64 0] from (Qcc _ _ _ (⟨0,0,0⟩ : SElem) )) (Reps.none _ _))); intro v310 w2 ho3 hb hg_ hnew_; clear hg_ hnew_; (first | rw [<- Ny309.out] at ho3 | (simp only [Int.reduceToNat] at ho3; rw [<- Ny309.out] at ho3)); have HO311:=Zz.k (Kd.R_lower ho3 (Qaj (bw HB))); replace HB:=bs HB hb; clear hb ho3))
 go_loopg [3,4] k (fun kq v3 v4 w' => ∃ (x3_1 : List (SElem)) (x4_1 : List (SElem)),Zz (r4_Order.l0 kq l0 x3_1 x4_1 = some r) /\ Zz (kq <= k) /\ Zz (Kd.R Qao 32 w' w.heap.size (fun k_ => some k_ ≠ (v4 : Value).ownBlock) v3 x3_1) /\ Zz (Kd.R Qao 32 w' w.heap.size (fun k_ => some k_ ≠ (v3 : Value).ownBlock) v4 x4_1) /\ Zz (Below w.heap.size w w'))
 case atStart => exact ⟨(([] : List (SElem))),(y309),H',⟨Nat.le_refl _⟩,⟨by first | exact Kd.R_nil _ _ _ _ _ | exact Kd.N_nil _ _ _ _ _ | exact Kd.V_nil _ _ _ _ _ | exact Kd.Q_nil _ _ _ _ _ | exact Kd.S_nil _ _ _ _ _⟩,⟨by (with_reducible repeat (first | apply Kd.R_alloc | apply Kd.R_drewN | apply Kd.R_drew)); exact Kd.R_mono HO311.out (fun _ hk => (by simp [Value.ownBlock]))⟩,⟨bw HB⟩⟩
 case round =>
  clear H'
  obtain ⟨x3_1,x4_1,HA,HK1,HO_3,HO_4,HB⟩:=hrel
  cases gk with
  | zero => exact absurd HA.out (by simp [r4_Order.l0])
  | succ k1 =>
   have H:=HA.out
   clear HA
   simp only [r4_Order.l0] at H
   by_cases c4 : (x4_1.length : Int) > 0; rotate_left
   ·rw [if_neg c4] at H
    have c4b0:=Ze c4
    have c4b1 : decide (0 < x4_1.length) = false:=Ze (by omega)
    clear c4
    obtain rfl:=Zo H
    obtain ⟨Ao31,co31,eo31⟩:=Kd.R_slice HO_4.out
    subst eo31
    go_wp2
    go_ret
    exact ⟨_,re,by (with_reducible repeat (first | apply Kd.R_alloc | apply Kd.R_drewN | apply Kd.R_drew)); exact Kd.R_mono HO_3.out (fun _ hk => trivial),bw HB⟩
   rw [if_pos c4] at H
   have c4b0:=Zd c4
   have c4b1 : decide (0 < x4_1.length) = true:=Zd (by omega)
   clear c4
   obtain ⟨ji5,hji5⟩ : ∃ j_ : Int,(wrap64 ((x4_1.length : Int) - 1)) = j_:=⟨_,rfl⟩
   replace H : (if 0 <= (ji5) then (if (ji5) < (x4_1.length : Int) then (if (ji5) <= (x4_1.length : Int) then ((some (x4_1.take ((ji5) : Int).toNat : List (SElem))).bind fun y314 => ((r4_Begin.f ((Qaa x4_1 (ji5)).f0) ((Qaa x4_1 (ji5)).f1) ((Qaa x4_1 (ji5)).f2)).bind fun t317 => (if t317 = true then (r4_Order.j1 k1 l0 x3_1 y314 ((Qaa x4_1 (ji5)).f0) ((Qaa x4_1 (ji5)).f1) ((Qaa x4_1 (ji5)).f2)) else (if x3_1.length < 5864062014805 then (r4_Order.j1 k1 l0 (x3_1 ++ [(⟨(Qaa x4_1 (ji5)).f0,(Qaa x4_1 (ji5)).f1,(Qaa x4_1 (ji5)).f2⟩ : SElem)]) y314 ((Qaa x4_1 (ji5)).f0) ((Qaa x4_1 (ji5)).f1) ((Qaa x4_1 (ji5)).f2)) else (none))))) else (none)) else (none)) else (none)) = some r:=by first | (rw [hji5] at H; exact H) | (simp only [hji5] at H ⊢; exact H)
   have hji5w : (IntKind.i64.wrap ((x4_1.length : Int) - 1)) = ji5:=(Qbc _).trans hji5
   by_cases c6 : 0 <= (ji5); rotate_left
   ·rw [if_neg c6] at H
    exact absurd H (by simp)
   rw [if_pos c6] at H
   have c6b0:=Zd c6
   clear c6
   by_cases c7 : (ji5) < (x4_1.length : Int); rotate_left
   ·rw [if_neg c7] at H
    exact absurd H (by simp)
   rw [if_pos c7] at H
   have c7b0:=Zd c7
   clear c7
   by_cases c8 : (ji5) <= (x4_1.length : Int); rotate_left
   ·rw [if_neg c8] at H
    exact absurd H (by simp)
   rw [if_pos c8] at H
   have c8b0:=eq_true c8
   have c8b1:=Zd c8
   clear c8
   obtain ⟨y314,hy314⟩ : ∃ y_ : List (SElem),y_ = (x4_1.take ((ji5) : Int).toNat):=⟨_,rfl⟩
   first | rw [Option.bind_some,<- hy314] at H | rw [<- hy314] at H
   have Ny314:=Zz.k hy314
   clear hy314
   obtain ⟨t317,A9,H⟩:=bE H
   have HC10:=Zz.k H
   clear H
   obtain ⟨Ao11,co11,eo11⟩:=Kd.R_slice HO_4.out
   subst eo11
   have p312 : 0 <= ((ji5) : Int):=od
   have q312 : (ji5) < (x4_1.length : Int):=od
   obtain ⟨ad312,e312,hx312_0,hx312_1,hx312_2⟩:=Qat (Kd.R_reads' HO_4.out).2.2 (ji5) p312 q312
   cases e312
   replace p312:=eq_true p312
   replace q312:=eq_true q312
   go_upto_if 26 with (first | ((with_reducible refine Qaf (N:=5) rfl ?_); refine bx 5 #[.int .i64 0, .int .i64 0, .int .i64 0] 32 (h := ?_); intro gb313 hg w12 hbox hb; have BK313:=Zz.k (hbox); have GW313:=bz HB hg; have GE313:=bz HB hg; replace HO_3:=Zz.k (Kd.R_below (Kd.R_elderB (rk HO_3) gb313 (Nat.le_of_eq hg.symm)) hb); replace HO_4:=Zz.k (Kd.R_below (Kd.R_elderB (rk HO_4) gb313 (Nat.le_of_eq hg.symm)) hb); replace HB:=bs HB hb; clear hb hbox hg; obtain ⟨_,_,_,_,_,_⟩:=kc3 BK313) | ((with_reducible refine gate_store (t:=32) (p:=5) rfl ?_); refine Qdd (t:=32) (p:=5) (v := ?vo_w14) (w1:=(((w12.setCell ⟨gb313,0,none⟩ (.int .i64 ((Qaa x4_1 (ji5)).f0))).setCell ⟨gb313,1,none⟩ (.int .i64 ((Qaa x4_1 (ji5)).f1))).setCell ⟨gb313,2,none⟩ (.int .i64 ((Qaa x4_1 (ji5)).f2)))) ?hg ?ho ?hn ?hr ?_; (case ho => rfl); (case hg => rfl); (case hn => rfl); (case hr => first | (go_simp; done) | (go_simp; rfl)); intro w14 hw; have n0_ : Zz (Kd.R Qao 32 w14 w.heap.size (fun k_ => some k_ ≠ (.slice (some ad312) x4_1.length co11 : Value).ownBlock /\ k_ ≠ gb313) u3 x3_1):=⟨(by rw [hw]; exact (by (with_reducible repeat (first | apply Kd.R_alloc | apply Kd.R_drewN | apply Kd.R_drew)); exact Kd.R_mono (Kd.R_far (p:=⟨gb313,2,none⟩) (Kd.R_far (p:=⟨gb313,1,none⟩) (Kd.R_far (p:=⟨gb313,0,none⟩) (Kd.R_mono HO_3.out (fun k_ hk => (⟨hk,hk.2⟩ : _ /\ k_ ≠ gb313))) (fun _ hk => hk.2) (.int .i64 ((Qaa x4_1 (ji5)).f0))) (fun _ hk => hk.2) (.int .i64 ((Qaa x4_1 (ji5)).f1))) (fun _ hk => hk.2) (.int .i64 ((Qaa x4_1 (ji5)).f2))) (fun _ hk => ⟨hk.1.1,hk.1.2⟩)))⟩; have n1_ : Zz (Kd.R Qao 32 w14 w.heap.size (fun k_ => some k_ ≠ (u3 : Value).ownBlock /\ k_ ≠ gb313) (.slice (some ad312) x4_1.length co11) x4_1):=⟨(by rw [hw]; exact (by (with_reducible repeat (first | apply Kd.R_alloc | apply Kd.R_drewN | apply Kd.R_drew)); exact Kd.R_mono (Kd.R_far (p:=⟨gb313,2,none⟩) (Kd.R_far (p:=⟨gb313,1,none⟩) (Kd.R_far (p:=⟨gb313,0,none⟩) (Kd.R_mono HO_4.out (fun k_ hk => (⟨hk,hk.2⟩ : _ /\ k_ ≠ gb313))) (fun _ hk => hk.2) (.int .i64 ((Qaa x4_1 (ji5)).f0))) (fun _ hk => hk.2) (.int .i64 ((Qaa x4_1 (ji5)).f1))) (fun _ hk => hk.2) (.int .i64 ((Qaa x4_1 (ji5)).f2))) (fun _ hk => ⟨hk.1.1,hk.1.2⟩)))⟩; have n2_ : Zz (w14.heap[gb313]? = some (.cells #[.int .i64 ((Qaa x4_1 (ji5)).f0), .int .i64 ((Qaa x4_1 (ji5)).f1), .int .i64 ((Qaa x4_1 (ji5)).f2)] 32 (0,0))):=⟨(by rw [hw]; exact (bp (bp (bp (kk BK313) 0) 1) 2))⟩; have n3_ : Zz (Below w.heap.size w w14):=⟨(by rw [hw]; exact (bw HB))⟩; clear hw; clear HO_3; clear HO_4; clear BK313; clear HB; have HO_3:=n0_; have HO_4:=n1_; have BK313:=n2_; have HB:=n3_; clear n0_ n1_ n2_ n3_; have q15 : ((ji5) : Int) <= ((x4_1.length : Int) : Int):=od; obtain ⟨i015,hi015,_,hsz15,_⟩:=info_parts info32; have hcut15:=cut_to (P:=Tryz.prog) 23 32 .i64 Tryz.underlying23 hi015 (some ad312) x4_1.length co11 (ji5) (od) q15 (Kd.R_reads' HO_4.out).2.1; have hr15:=Kd.R_take (m:=((ji5) : Int).toNat) HO_4.out (by omega); have hy15 : y314.length = ((ji5) : Int).toNat:=(by rw [Ny314.out,List.length_take]; omega); rw [<- Ny314.out] at hr15; rw [<- hy15] at hr15 hcut15; clear hy15 hi015 hsz15 HO_4; have HO316:=Zz.k hr15; clear hr15; replace q15:=eq_true q15; obtain ⟨_,_,_,_,_,_⟩:=kc3 BK313) | ((with_reducible refine Qac (f:=47) rfl ?_); refine goesL_ (some 25) rfl rfl Tryz.func47 (by kernel_rfl) rfl #[.agg #[.int .i64 ((Qaa x4_1 (ji5)).f0), .int .i64 ((Qaa x4_1 (ji5)).f1), .int .i64 ((Qaa x4_1 (ji5)).f2)]] rfl (by (try simp only [List.map_toArray,List.map_cons,List.map_nil]); first | done | (simp only [hji5]; rfl) | rfl | (simp only [List.length_drop,List.length_take]; rfl)) ?_; (with_reducible refine (r4_Begin.calls ((Qaa x4_1 (ji5)).f0) ((Qaa x4_1 (ji5)).f1) ((Qaa x4_1 (ji5)).f2) t317 _ A9.out).mono ?_); rintro e w17 ⟨rfl,hb⟩; refine ⟨_,rfl, ?_⟩; replace HO_3:=rb HO_3 hb; replace HO316:=rb HO316 hb; replace BK313:=bl BK313 hb; replace HB:=bs HB hb; clear hb))
   (try simp only [Act.put,List.setIfInBounds_toArray,List.set_cons_zero,List.set_cons_succ])
   go_cut [3] (fun v3 wc => ∃ (kq : Nat) (x3_9 : List (SElem)),Zz (r4_Order.j1 kq l0 x3_9 y314 ((Qaa x4_1 (ji5)).f0) ((Qaa x4_1 (ji5)).f1) ((Qaa x4_1 (ji5)).f2) = some r) /\ Zz (kq <= k1) /\ Zz (Kd.R Qao 32 wc w.heap.size (fun k_ => some k_ ≠ ((.slice (some ad312) y314.length co11) : Value).ownBlock /\ k_ ≠ gb313) v3 x3_9) /\ Zz (Kd.R Qao 32 wc w.heap.size (fun k_ => some k_ ≠ (v3 : Value).ownBlock /\ k_ ≠ gb313) (.slice (some ad312) y314.length co11) y314) /\ Zz (wc.heap[gb313]? = some (.cells #[.int .i64 ((Qaa x4_1 (ji5)).f0), .int .i64 ((Qaa x4_1 (ji5)).f1), .int .i64 ((Qaa x4_1 (ji5)).f2)] 32 (0,0))) /\ Zz (Below w.heap.size w wc))
   case first =>
    have H:=HC10.out
    clear HC10
    by_cases c18 : t317 = true
    ·subst c18
     rw [if_pos rfl] at H
     have H':=Zz.k H
     clear H
     go_wp2
     go_meet
     case rel => exact ⟨_,(x3_1),H',⟨by have:=HK1.out; first | omega | exact Nat.le_refl _⟩,⟨rk HO_3⟩,⟨rk HO316⟩,⟨kk BK313⟩,⟨bw HB⟩⟩
    replace c18:=Zf c18
    subst c18
    rw [if_neg nft] at H
    by_cases c19 : x3_1.length < 5864062014805; rotate_left
    ·rw [if_neg c19] at H
     exact absurd H (by simp)
    rw [if_pos c19] at H
    have LMc19:=Zz.k c19
    clear c19
    obtain ⟨y318,hy318⟩ : ∃ y_ : List (SElem),y_ = (x3_1 ++ [(⟨(Qaa x4_1 (ji5)).f0,(Qaa x4_1 (ji5)).f1,(Qaa x4_1 (ji5)).f2⟩ : SElem)]):=⟨_,rfl⟩
    first | rw [Option.bind_some,<- hy318] at H | rw [<- hy318] at H
    have Ny318:=Zz.k hy318
    clear hy318
    have H':=Zz.k H
    clear H
    obtain ⟨_,_,_,_,_,_⟩:=kc3 BK313
    go_wp2_with (first | ((with_reducible refine Qbs (b:=.append) (xs:=#[.tmp 27, .tmp 29]) rfl ?_); at_builtin; refine Kd.R_append Qao (w0:=w) w.heap.size rfl (.tmp 27) (.tmp 29) 23 32 (.agg #[(.int .i64 0),(.int .i64 0),(.int .i64 0)]) 24 rfl Tryz.underlying23 info32 rfl (by decide) (by omega) u3 x3_1 (⟨(Qaa x4_1 (ji5)).f0,(Qaa x4_1 (ji5)).f1,(Qaa x4_1 (ji5)).f2⟩ : SElem) [.int .i64 ((Qaa x4_1 (ji5)).f0), .int .i64 ((Qaa x4_1 (ji5)).f1), .int .i64 ((Qaa x4_1 (ji5)).f2)] (fun k_ => some k_ ≠ (.slice (some ad312) y314.length co11 : Value).ownBlock /\ k_ ≠ gb313) (fun _ => False) rfl rfl ?aP (fun _ hk => hk.elim) ?aF ?aO ?aB ?aS ?aL ?_; (case aP => exact Qcc _ _ _ (⟨(Qaa x4_1 (ji5)).f0,(Qaa x4_1 (ji5)).f1,(Qaa x4_1 (ji5)).f2⟩ : SElem)); (case aB => exact (bw HB)); (case aF => exact (fun k_ hk => ⟨Kd.fresh' (Kd.R_lt (rk HO316)) k_ hk,Kd.freshB (kk BK313) k_ hk⟩)); (case aO => exact (rk HO_3)); (case aS => exact (Qaj (bw HB))); (case aL => have:=LMc19.out; omega); intro v319 w21 ho hb hg hat; rw [<- Ny318.out] at ho; have n0_:=Zz.k (Kd.R_after (ok:=(fun k_ => k_ ≠ gb313)) (by (with_reducible repeat (first | apply Kd.R_alloc | apply Kd.R_drewN | apply Kd.R_drew)); exact Kd.R_mono HO316.out (fun _ hk => ⟨hk.2,hk.1⟩)) hg hat); have n1_:=Zz.k (Qcm (kk BK313) hg (Kd.R_away HO_3.out (fun _ hk => hk.2))); have n2_:=Zz.k (hb); have n3_:=Zz.k (ho); clear HO316; clear BK313; clear HB; clear HO_3; have HO316:=n0_; have BK313:=n1_; have HB:=n2_; have HO320:=n3_; clear n0_ n1_ n2_ n3_; clear ho hb hg hat))
    go_meet
    case rel => exact ⟨_,(y318),H',⟨by have:=HK1.out; first | omega | exact Nat.le_refl _⟩,⟨rk HO320⟩,⟨by (with_reducible repeat (first | apply Kd.R_alloc | apply Kd.R_drewN | apply Kd.R_drew)); exact Kd.R_mono HO316.out (fun _ hk => ⟨hk.2,hk.1⟩)⟩,⟨kk BK313⟩,⟨bw HB⟩⟩
   case rest =>
    clear HC10
    try clear c4b0; try clear c4b1; try clear c6b0; try clear c7b0; try clear c8b0; try clear c8b1; try clear q15; try clear hx312_0; try clear hx312_1; try clear hx312_2; try clear p312; try clear q15; try clear q312
    obtain ⟨kq,x3_9,HA,HJ9,HO_3,HO_4,BK313,HB⟩:=hcut
    cases kq with
    | zero => exact absurd HA.out (by simp [r4_Order.j1])
    | succ kj9 =>
     have H:=HA.out
     clear HA
     simp only [r4_Order.j1] at H
     obtain ⟨t321,A22,H⟩:=bE H
     have H':=Zz.k H
     clear H
     obtain ⟨_,_,_,_,_,_⟩:=kc3 BK313
     go_wp2_with (first | ((with_reducible refine Qac (f:=77) rfl ?_); refine goesL_ (some 33) rfl rfl Tryz.func77 (by kernel_rfl) rfl #[.slice A0 l0.length c0, .agg #[.int .i64 ((Qaa x4_1 (ji5)).f0), .int .i64 ((Qaa x4_1 (ji5)).f1), .int .i64 ((Qaa x4_1 (ji5)).f2)]] rfl (by (try simp only [List.map_toArray,List.map_cons,List.map_nil]); first | done | (simp only [hji5]; rfl) | rfl | (simp only [List.length_drop,List.length_take]; rfl)) ?_; (with_reducible refine (r4_Under.calls kj9 _ _ l0 ((Qaa x4_1 (ji5)).f0) ((Qaa x4_1 (ji5)).f1) ((Qaa x4_1 (ji5)).f2) t321 _ ?side1 ?side2 ?side3 A22.out).mono ?_); (case side1 => exact cb HR0 HB); (case side2 => exact HC0.out); (case side3 => exact (hT.below (bw HB))); rintro e w24 ⟨v322,rfl,ho0,hb⟩; refine ⟨_,rfl, ?_⟩; have HO323:=Zz.k (Kd.R_lower (Kd.R_newB (Kd.R_new' (Kd.R_new' ho0 (Kd.R_lt (rk HO_3))) (Kd.R_lt (rk HO_4))) (kk BK313)) (Qaj (bw HB))); replace HO_3:=Zz.k (Kd.R_elder' (rk HO_3) (Kd.R_base ho0) hb); replace HO_4:=Zz.k (Kd.R_elder' (rk HO_4) (Kd.R_base ho0) hb); replace BK313:=bl BK313 hb; replace HB:=bs HB hb; clear hb; clear ho0; obtain ⟨Ao25,co25,eo25⟩:=Kd.R_slice HO323.out; subst eo25))
     go_loopg [4,7] kj9 (fun kq v4 v7 w' => ∃ (x4_3 : List (SElem)) (x7_3 : Int),v7 = .int .i64 x7_3 /\ Zz (r4_Order.l1 kq l0 x3_9 x4_3 t321 x7_3 = some r) /\ Zz (kq <= kj9) /\ Zz (Kd.R Qao 32 w' w.heap.size (fun k_ => some k_ ≠ (v4 : Value).ownBlock /\ some k_ ≠ ((.slice Ao25 t321.length co25) : Value).ownBlock /\ k_ ≠ gb313) u3 x3_9) /\ Zz (Kd.R Qao 32 w' w.heap.size (fun k_ => some k_ ≠ (u3 : Value).ownBlock /\ some k_ ≠ ((.slice Ao25 t321.length co25) : Value).ownBlock /\ k_ ≠ gb313) v4 x4_3) /\ Zz (Kd.R Qao 32 w' w.heap.size (fun k_ => some k_ ≠ (u3 : Value).ownBlock /\ some k_ ≠ (v4 : Value).ownBlock /\ k_ ≠ gb313) (.slice Ao25 t321.length co25) t321) /\ Zz (w'.heap[gb313]? = some (.cells #[.int .i64 ((Qaa x4_1 (ji5)).f0), .int .i64 ((Qaa x4_1 (ji5)).f1), .int .i64 ((Qaa x4_1 (ji5)).f2)] 32 (0,0))) /\ Zz (Below w.heap.size w w'))
     case atStart => exact ⟨(y314),(wrap64 ((t321.length : Int) - 1)),rf,H',⟨Nat.le_refl _⟩,⟨by (with_reducible repeat (first | apply Kd.R_alloc | apply Kd.R_drewN | apply Kd.R_drew)); exact Kd.R_mono HO_3.out (fun _ hk => ⟨hk.1.1,⟨hk.2,hk.1.2⟩⟩)⟩,⟨by (with_reducible repeat (first | apply Kd.R_alloc | apply Kd.R_drewN | apply Kd.R_drew)); exact Kd.R_mono HO_4.out (fun _ hk => ⟨hk.1.1,⟨hk.2,hk.1.2⟩⟩)⟩,⟨by (with_reducible repeat (first | apply Kd.R_alloc | apply Kd.R_drewN | apply Kd.R_drew)); exact Kd.R_mono HO323.out (fun _ hk => ⟨hk.1.1.2,⟨hk.1.2,hk.2⟩⟩)⟩,⟨kk BK313⟩,⟨bw HB⟩⟩
     case round =>
      clear H'
      obtain ⟨x4_3,x7_3,rfl,HA,HK3,HO_3,HO_4,HO_6,BK313,HB⟩:=hrel
      cases gk with
      | zero => exact absurd HA.out (by simp [r4_Order.l1])
      | succ k3 =>
       have H:=HA.out
       clear HA
       simp only [r4_Order.l1] at H
       by_cases c26 : x7_3 >= 0; rotate_left
       ·rw [if_neg c26] at H
        have c26b0:=Ze c26
        clear c26
        have H':=Zz.k H
        clear H
        go_wp2
        go_roundg k3
        case measure => have:=HK1.out; have:=HJ9.out; have:=HK3.out; omega
        case rel => exact ⟨(x3_9),(x4_3),H',⟨by have:=HK1.out; have:=HJ9.out; have:=HK3.out; omega⟩,⟨by (with_reducible repeat (first | apply Kd.R_alloc | apply Kd.R_drewN | apply Kd.R_drew)); exact Kd.R_mono HO_3.out (fun _ hk => hk.1)⟩,⟨by (with_reducible repeat (first | apply Kd.R_alloc | apply Kd.R_drewN | apply Kd.R_drew)); exact Kd.R_mono HO_4.out (fun _ hk => hk.1)⟩,⟨bw HB⟩⟩
       rw [if_pos c26] at H
       have c26b0:=Zd c26
       clear c26
       by_cases c27 : 0 <= x7_3; rotate_left
       ·rw [if_neg c27] at H
        exact absurd H (by simp)
       rw [if_pos c27] at H
       have c27b0:=Zd c27
       clear c27
       by_cases c28 : x7_3 < (t321.length : Int); rotate_left
       ·rw [if_neg c28] at H
        exact absurd H (by simp)
       rw [if_pos c28] at H
       have c28b0:=Zd c28
       clear c28
       by_cases c29 : x4_3.length < 5864062014805; rotate_left
       ·rw [if_neg c29] at H
        exact absurd H (by simp)
       rw [if_pos c29] at H
       have LMc29:=Zz.k c29
       clear c29
       obtain ⟨y325,hy325⟩ : ∃ y_ : List (SElem),y_ = (x4_3 ++ [(⟨(Qaa t321 x7_3).f0,(Qaa t321 x7_3).f1,(Qaa t321 x7_3).f2⟩ : SElem)]):=⟨_,rfl⟩
       first | rw [Option.bind_some,<- hy325] at H | rw [<- hy325] at H
       have Ny325:=Zz.k hy325
       clear hy325
       have H':=Zz.k H
       clear H
       have p324 : 0 <= (x7_3 : Int):=od
       have q324 : x7_3 < (t321.length : Int):=od
       obtain ⟨ad324,e324,hx324_0,hx324_1,hx324_2⟩:=Qat (Kd.R_reads' HO_6.out).2.2 x7_3 p324 q324
       cases e324
       replace p324:=eq_true p324
       replace q324:=eq_true q324
       go_wp2_with (first | ((with_reducible refine Qbs (b:=.append) (xs:=#[.tmp 41, .tmp 46]) rfl ?_); at_builtin; refine Kd.R_append Qao (w0:=w) w.heap.size rfl (.tmp 41) (.tmp 46) 23 32 (.agg #[(.int .i64 0),(.int .i64 0),(.int .i64 0)]) 24 rfl Tryz.underlying23 info32 rfl (by decide) (by omega) u4 x4_3 (⟨(Qaa t321 x7_3).f0,(Qaa t321 x7_3).f1,(Qaa t321 x7_3).f2⟩ : SElem) [.int .i64 ((Qaa t321 x7_3).f0), .int .i64 ((Qaa t321 x7_3).f1), .int .i64 ((Qaa t321 x7_3).f2)] (fun k_ => some k_ ≠ (u3 : Value).ownBlock /\ some k_ ≠ (.slice (some ad324) t321.length co25 : Value).ownBlock /\ k_ ≠ gb313) (fun _ => False) rfl rfl ?aP (fun _ hk => hk.elim) ?aF ?aO ?aB ?aS ?aL ?_; (case aP => exact Qcc _ _ _ (⟨(Qaa t321 x7_3).f0,(Qaa t321 x7_3).f1,(Qaa t321 x7_3).f2⟩ : SElem)); (case aB => exact (bw HB)); (case aF => exact (fun k_ hk => ⟨Kd.fresh' (Kd.R_lt (rk HO_3)) k_ hk,Kd.fresh' (Kd.R_lt (rk HO_6)) k_ hk,Kd.freshB (kk BK313) k_ hk⟩)); (case aO => exact (rk HO_4)); (case aS => exact (Qaj (bw HB))); (case aL => have:=LMc29.out; omega); intro v326 w30 ho hb hg hat; rw [<- Ny325.out] at ho; have n0_:=Zz.k (Kd.R_after (ok:=(fun k_ => some k_ ≠ (.slice (some ad324) t321.length co25 : Value).ownBlock /\ k_ ≠ gb313)) (by (with_reducible repeat (first | apply Kd.R_alloc | apply Kd.R_drewN | apply Kd.R_drew)); exact Kd.R_mono HO_3.out (fun _ hk => ⟨⟨hk.2.1,hk.2.2⟩,hk.1⟩)) hg hat); have n1_:=Zz.k (Kd.R_after (ok:=(fun k_ => some k_ ≠ (u3 : Value).ownBlock /\ k_ ≠ gb313)) (by (with_reducible repeat (first | apply Kd.R_alloc | apply Kd.R_drewN | apply Kd.R_drew)); exact Kd.R_mono HO_6.out (fun _ hk => ⟨⟨hk.1,hk.2.2⟩,hk.2.1⟩)) hg hat); have n2_:=Zz.k (Qcm (kk BK313) hg (Kd.R_away HO_4.out (fun _ hk => hk.2.2))); have n3_:=Zz.k (hb); have n4_:=Zz.k (ho); clear HO_3; clear HO_6; clear BK313; clear HB; clear HO_4; have HO_3:=n0_; have HO_6:=n1_; have BK313:=n2_; have HB:=n3_; have HO327:=n4_; clear n0_ n1_ n2_ n3_ n4_; clear ho hb hg hat))
       go_roundg k3
       case measure => have:=HK1.out; have:=HJ9.out; have:=HK3.out; omega
       case rel => exact ⟨(y325),(wrap64 (x7_3 - 1)),rf,H',⟨by have:=HK1.out; have:=HJ9.out; have:=HK3.out; omega⟩,⟨by (with_reducible repeat (first | apply Kd.R_alloc | apply Kd.R_drewN | apply Kd.R_drew)); exact Kd.R_mono HO_3.out (fun _ hk => ⟨hk.2,⟨hk.1.1,hk.1.2⟩⟩)⟩,⟨rk HO327⟩,⟨by (with_reducible repeat (first | apply Kd.R_alloc | apply Kd.R_drewN | apply Kd.R_drew)); exact Kd.R_mono HO_6.out (fun _ hk => ⟨hk.1.1,⟨hk.2,hk.1.2⟩⟩)⟩,⟨kk BK313⟩,⟨bw HB⟩⟩
def r0_At.l0 : Nat -> List (SElem) -> Int -> Int -> Int -> Int -> Option (Int)
 | 0,_,_,_,_,_ => none
 | k + 1,x0,x5,x329000,x329001,x329002 => if x5 < (x0.length : Int) then (if 0 <= x5 then (if (((Qaa x0 x5).f0) == x329000 && (((Qaa x0 x5).f1) == x329001 && (((Qaa x0 x5).f2) == x329002))) = true then (some x5) else (r0_At.l0 k x0 (wrap64 (x5 + 1)) x329000 x329001 x329002)) else (none)) else (some (-1))
def r0_At.f (k : Nat) (l0 : List (SElem)) (a1_0 : Int) (a1_1 : Int) (a1_2 : Int) : Option (Int):=r0_At.l0 k l0 0 a1_0 a1_1 a1_2
theorem r0_At.calls (k : Nat) (A0 : Option Addr) (c0 : Nat) (l0 : List (SElem)) (a1_0 : Int) (a1_1 : Int) (a1_2 : Int) (r : Int) (w : World) (hr0 : Kd.C Qao w A0 l0.length l0) (hc0 : l0.length <= c0) (h : r0_At.f k l0 a1_0 a1_1 a1_2 = some r) :
  Calls Tryz.prog 50 #[.slice A0 l0.length c0, .agg #[.int .i64 a1_0, .int .i64 a1_1, .int .i64 a1_2]] w fun e w' => e = .returned (.int .i64 r) /\ Below w.heap.size w w':=by
 have hu32:=Tryz.underlying32
 have HR0:=Zz.k hr0
 have HC0:=Zz.k hc0
 clear hr0 hc0
 have HB:=Zz.k (Below.refl w.heap.size w)
 unfold r0_At.f at h; have H:=h
 clear h
 have H':=Zz.k H
 clear H
 go_enter Tryz.func50,Tryz.ntmps50
 go_wp2_with (first | ((with_reducible refine Qaf (N:=3) rfl ?_); refine bx 3 #[.int .i64 a1_0, .int .i64 a1_1, .int .i64 a1_2] 32 (h := ?_); intro gb328 hg w3 hbox hb; have BK328:=Zz.k (hbox); have GW328:=bz HB hg; have GE328:=bz HB hg; replace HB:=bs HB hb; clear hb hbox hg))
 repeat (go_quiet (first | ((with_reducible refine Qaf (N:=3) rfl ?_); refine bx 3 #[.int .i64 a1_0, .int .i64 a1_1, .int .i64 a1_2] 32 (h := ?_); intro gb328 hg w3 hbox hb; have BK328:=Zz.k (hbox); have GW328:=bz HB hg; have GE328:=bz HB hg; replace HB:=bs HB hb; clear hb hbox hg)); try go_wp2_with (first | ((with_reducible refine Qaf (N:=3) rfl ?_); refine bx 3 #[.int .i64 a1_0, .int .i64 a1_1, .int .i64 a1_2] 32 (h := ?_); intro gb328 hg w3 hbox hb; have BK328:=Zz.k (hbox); have GW328:=bz HB hg; have GE328:=bz HB hg; replace HB:=bs HB hb; clear hb hbox hg)))
 go_loopg [5] k (fun kq v5 w' => ∃ (x5_1 : Int),v5 = .int .i64 x5_1 /\ Zz (r0_At.l0 kq l0 x5_1 a1_0 a1_1 a1_2 = some r) /\ Zz (kq <= k) /\ Zz (w'.heap[gb328]? = some (.cells #[.int .i64 a1_0, .int .i64 a1_1, .int .i64 a1_2] 32 (0,0))) /\ Zz (Below w.heap.size w w'))
 case atStart => exact ⟨(0),rf,H',⟨Nat.le_refl _⟩,⟨kk BK328⟩,⟨bw HB⟩⟩
 case round =>
  clear H'
  obtain ⟨x5_1,rfl,HA,HK1,BK328,HB⟩:=hrel
  cases gk with
  | zero => exact absurd HA.out (by simp [r0_At.l0])
  | succ k1 =>
   have H:=HA.out
   clear HA
   simp only [r0_At.l0] at H
   by_cases c4 : x5_1 < (l0.length : Int); rotate_left
   ·rw [if_neg c4] at H
    have c4b0:=Ze c4
    clear c4
    obtain rfl:=Zo H
    go_wp2
    repeat (go_quiet (fail); try go_wp2)
    go_ret
    exact ⟨re,bw HB⟩
   rw [if_pos c4] at H
   have c4b0:=Zd c4
   clear c4
   by_cases c5 : 0 <= x5_1; rotate_left
   ·rw [if_neg c5] at H
    exact absurd H (by simp)
   rw [if_pos c5] at H
   have c5b0:=Zd c5
   clear c5
   by_cases c6 : (((Qaa l0 x5_1).f0) == a1_0 && (((Qaa l0 x5_1).f1) == a1_1 && (((Qaa l0 x5_1).f2) == a1_2))) = true
   ·rw [if_pos c6] at H
    have c6b0 : (((Qaa l0 x5_1).f0) == a1_0 && (((Qaa l0 x5_1).f1) == a1_1 && (((Qaa l0 x5_1).f2) == a1_2))) = true:=c6
    (try (have c6b1 : decide (((Qaa l0 x5_1).f0) = a1_0 && (((Qaa l0 x5_1).f1) == a1_1 && (((Qaa l0 x5_1).f2) == a1_2))) = true:=by simpa using c6))
    (try (have c6b2 : (((Qaa l0 x5_1).f0) == a1_0 && (((Qaa l0 x5_1).f1) == a1_1 && (((Qaa l0 x5_1).f2) == a1_2))) = true:=by simpa using c6))
    clear c6
    obtain rfl:=Zo H
    have p329 : 0 <= (x5_1 : Int):=od
    have q329 : x5_1 < (l0.length : Int):=od
    obtain ⟨ad329,e329,hx329_0,hx329_1,hx329_2⟩:=Qat HR0.out x5_1 p329 q329
    cases e329
    replace hx329_0:=cl HB hx329_0
    replace hx329_1:=cl HB hx329_1
    replace hx329_2:=cl HB hx329_2
    replace p329:=eq_true p329
    replace q329:=eq_true q329
    obtain ⟨_,_,_,_,_,_⟩:=kc3 BK328
    go_wp2
    repeat (go_quiet (fail); try go_wp2)
    go_ret
    exact ⟨re,bw HB⟩
   rw [if_neg c6] at H
   have c6b0 : (((Qaa l0 x5_1).f0) == a1_0 && (((Qaa l0 x5_1).f1) == a1_1 && (((Qaa l0 x5_1).f2) == a1_2))) = false:=by simpa using c6
   (try (have c6b1 : decide (((Qaa l0 x5_1).f0) = a1_0 && (((Qaa l0 x5_1).f1) == a1_1 && (((Qaa l0 x5_1).f2) == a1_2))) = false:=by simpa using c6))
   (try (have c6b2 : (((Qaa l0 x5_1).f0) == a1_0 && (((Qaa l0 x5_1).f1) == a1_1 && (((Qaa l0 x5_1).f2) == a1_2))) = false:=by simpa using c6))
   (try (have c6b3 : ¬ (((Qaa l0 x5_1).f0) = a1_0 && (((Qaa l0 x5_1).f1) == a1_1 && (((Qaa l0 x5_1).f2) == a1_2))):=by simpa using c6))
   clear c6
   have H':=Zz.k H
   clear H
   have p329 : 0 <= (x5_1 : Int):=od
   have q329 : x5_1 < (l0.length : Int):=od
   obtain ⟨ad329,e329,hx329_0,hx329_1,hx329_2⟩:=Qat HR0.out x5_1 p329 q329
   cases e329
   replace hx329_0:=cl HB hx329_0
   replace hx329_1:=cl HB hx329_1
   replace hx329_2:=cl HB hx329_2
   replace p329:=eq_true p329
   replace q329:=eq_true q329
   obtain ⟨_,_,_,_,_,_⟩:=kc3 BK328
   go_wp2
   repeat (go_quiet (fail); try go_wp2)
   go_roundg k1
   case measure => have:=HK1.out; omega
   case rel => exact ⟨(wrap64 (x5_1 + 1)),rf,H',⟨by have:=HK1.out; omega⟩,⟨kk BK328⟩,⟨bw HB⟩⟩
end
section
attribute [local go_sem] Qbl Qbj Qbp Qbo Qba Qaz Qbk Qbi
mutual
def r4_Visible.l0 : Nat -> List (SOp) -> List Bool -> Int -> Option ((List (SElem)))
 | 0,_,_,_ => none
 | k + 1,x0,x3,x4 => if x4 < (x0.length : Int) then (if 0 <= x4 then (if ((Qad x0 x4).f2) = 1 then ((r4_Effective.f k x0 ((Qad x0 x4).f0) ((Qad x0 x4).f1)).bind fun t336 => (if x4 < (x3.length : Int) then (r4_Visible.l0 k x0 (x3.set (x4 : Int).toNat t336) (wrap64 (x4 + 1))) else (none))) else (if x4 < (x3.length : Int) then (r4_Visible.l0 k x0 (x3.set (x4 : Int).toNat false) (wrap64 (x4 + 1))) else (none))) else (none)) else ((r4_Order.f k x0).bind fun t339 => (r4_Visible.l1 k x0 x3 ([] : List (SElem)) t339 0))
def r4_Visible.l1 : Nat -> List (SOp) -> List Bool -> List (SElem) -> List (SElem) -> Int -> Option ((List (SElem)))
 | 0,_,_,_,_,_ => none
 | k + 1,x0,x3,x5,x6,x7 => if x7 < (x6.length : Int) then (if 0 <= x7 then ((r4_Find.f k x0 ((Qaa x6 x7).f0) ((Qaa x6 x7).f1)).bind fun t344 => (if 0 <= t344 then (if t344 < (x3.length : Int) then (r4_Visible.l2 k x0 x3 x5 x6 x7 (rdOf false x3 t344) 0) else (none)) else (none))) else (none)) else (some x5)
def r4_Visible.l2 : Nat -> List (SOp) -> List Bool -> List (SElem) -> List (SElem) -> Int -> Bool -> Int -> Option ((List (SElem)))
 | 0,_,_,_,_,_,_,_ => none
 | k + 1,x0,x3,x5,x6,x7,x8,x9 => if x9 < (x0.length : Int) then (if x8 = true then (if 0 <= x9 then (if x9 < (x3.length : Int) then (if rdOf false x3 x9 = true then (if 0 <= x7 then (if x7 < (x6.length : Int) then ((r0_At.f k ((Qad x0 x9).f5) ((Qaa x6 x7).f0) ((Qaa x6 x7).f1) ((Qaa x6 x7).f2)).bind fun t349 => (r4_Visible.l2 k x0 x3 x5 x6 x7 (decide (t349 < 0)) (wrap64 (x9 + 1)))) else (none)) else (none)) else (r4_Visible.l2 k x0 x3 x5 x6 x7 true (wrap64 (x9 + 1)))) else (none)) else (none)) else (r4_Visible.l1 k x0 x3 x5 x6 (wrap64 (x7 + 1)))) else (if x8 = true then (if 0 <= x7 then (if x7 < (x6.length : Int) then (if x5.length < 5864062014805 then (r4_Visible.l1 k x0 x3 (x5 ++ [(⟨(Qaa x6 x7).f0,(Qaa x6 x7).f1,(Qaa x6 x7).f2⟩ : SElem)]) x6 (wrap64 (x7 + 1))) else (none)) else (none)) else (none)) else (r4_Visible.l1 k x0 x3 x5 x6 (wrap64 (x7 + 1))))
end
def r4_Visible.f (k : Nat) (l0 : List (SOp)) : Option ((List (SElem))):=if 0 <= (l0.length : Int) then (if ((l0.length : Int) : Int).toNat <= 281474976710656 then (r4_Visible.l0 k l0 (List.replicate ((l0.length : Int) : Int).toNat false) 0) else (none)) else (none)
def r4_Visible.T5 : Bool × List (List Nat × List Nat):=(true,[([],[]),([],[]),([],[]),([],[]),([2,3],[2,3]),([4],[4]),([5],[5]),([6],[6]),([7],[7]),([8],[8]),([8],[8]),([8],[8]),([10,11,8],[8,10,11]),([12,8],[8,12]),([13,8],[8,13]),([8],[8]),([8],[8]),([15,16,8],[8,15,16]),([17,8],[8,17]),([18,8],[8,18]),([9,14,19,8,8],[8,9,14,19]),([8,20],[8,20]),([0,1,0,1,2,3,4,5,6,7,8,9,10,11,12,13,14,15,16,17,18,19,20,21],[0,1]),([22,21,20,0,1,2,3,4,5,6,7,8,9,10,11,12,13,14,15,16,17,18,19,20,21],[21,22])])
def r4_Visible.B5 : List Nat:=[0,0,0,0,12,28,60,124,252,508,508,508,3580,7676,15868,508,508,98812,229884,492028,1048572,2097148,4194303,8388607]
theorem r4_Visible.tab5 : rtab .any (Qcj Tryz.f21 5) = r4_Visible.T5:=by kernel_rfl
theorem r4_Visible.bits5 : Qau r4_Visible.T5.2 r4_Visible.B5 = true:=by kernel_rfl
def r4_Visible.T11 : Bool × List (List Nat × List Nat):=(true,[([],[]),([],[]),([],[]),([],[]),([2,3],[2,3]),([4],[4]),([5],[5]),([],[]),([],[]),([7,8],[7,8]),([9],[9]),([10],[10]),([1,6,11],[1,6,11]),([0,12],[0,12]),([13],[13]),([14,12,0,1,2,3,4,5,6,7,8,9,10,11,12,13,14],[14])])
def r4_Visible.B11 : List Nat:=[0,0,0,0,12,28,60,0,0,384,896,1920,4094,8191,16383,32767]
theorem r4_Visible.tab11 : rtab .any (Qcj Tryz.f21 11) = r4_Visible.T11:=by kernel_rfl
theorem r4_Visible.bits11 : Qau r4_Visible.T11.2 r4_Visible.B11 = true:=by kernel_rfl
def r4_Visible.T15 : Bool × List (List Nat × List Nat):=(true,[([],[]),([],[]),([0,1],[0,1]),([2],[2]),([3],[3]),([4],[4]),([5],[5]),([5],[5]),([6,7,5],[5,6,7]),([8,5],[5,8]),([9,5],[5,9]),([5],[5]),([5],[5]),([11,12,5],[5,11,12]),([13,5],[5,13]),([10,14,5,5],[5,10,14]),([15,5],[5,15]),([5,16],[5,16]),([17,15,0,1,2,3,4,5,6,7,8,9,10,11,12,13,14,15,16,17],[17])])
def r4_Visible.B15 : List Nat:=[0,0,3,7,15,31,63,63,255,511,1023,63,63,6207,14399,32767,65535,131071,262143]
theorem r4_Visible.tab15 : rtab .any (Qcj Tryz.f21 15) = r4_Visible.T15:=by kernel_rfl
theorem r4_Visible.bits15 : Qau r4_Visible.T15.2 r4_Visible.B15 = true:=by kernel_rfl
theorem r4_Visible.calls (k : Nat) (A0 : Option Addr) (c0 : Nat) (l0 : List (SOp)) (r : List (SElem)) (w : World) (hr0 : Kd.C kOp w A0 l0.length l0) (hc0 : l0.length <= c0) (hT : GT w) (h : r4_Visible.f k l0 = some r) :
  Calls Tryz.prog 21 #[.slice A0 l0.length c0] w fun e w' => ∃ v0_ : Value,e = .returned (v0_) /\ Kd.R Qao 32 w' w.heap.size (fun _ => True) v0_ r /\ Below w.heap.size w w':=by
 have hu32:=Tryz.underlying32
 have HR0:=Zz.k hr0
 have HC0:=Zz.k hc0
 clear hr0 hc0
 have HB:=Zz.k (Below.refl w.heap.size w)
 unfold r4_Visible.f at h; have H:=h
 clear h
 by_cases c2 : 0 <= (l0.length : Int); rotate_left
 ·rw [if_neg c2] at H
  exact absurd H (by simp)
 rw [if_pos c2] at H
 have c2b0:=eq_true c2
 have c2b1:=Zd c2
 clear c2
 by_cases c3 : ((l0.length : Int) : Int).toNat <= 281474976710656; rotate_left
 ·rw [if_neg c3] at H
  exact absurd H (by simp)
 rw [if_pos c3] at H
 have c3b0:=eq_true c3
 have c3b1:=Zd c3
 clear c3
 obtain ⟨y330,hy330⟩ : ∃ y_ : List Bool,y_ = (List.replicate ((l0.length : Int) : Int).toNat false):=⟨_,rfl⟩
 first | rw [Option.bind_some,<- hy330] at H | rw [<- hy330] at H
 have Ny330:=Zz.k hy330
 clear hy330
 have H':=Zz.k H
 clear H
 go_enter Tryz.func21,Tryz.ntmps21
 go_wp2_with (first | ((with_reducible refine Qaf (N:=12) rfl ?_); refine Kd.R_make Kd.bool _ 4 rfl (N:=12) rfl 78 _ _ rfl (l0.length : Int) rfl rfl Tryz.underlying78 (.bool false) 1 info4 rfl (by decide) (by omega) false (ok:=fun _ => True) (okp:=fun _ => True) rfl (fun _ hk => hk) trivial (od) (Nat.le_trans (Nat.mul_le_mul_right _ (od : (l0.length : Int).toNat <= 281474976710656)) (by omega)) (Below.refl _ _) (Nat.le_refl _) ?_; intro v331 w4 ho5 hb hg_ hnew_; clear hg_ hnew_; (first | rw [<- Ny330.out] at ho5 | (simp only [Int.reduceToNat] at ho5; rw [<- Ny330.out] at ho5)); have HO332:=Zz.k (Kd.R_lower ho5 (Qaj (bw HB))); replace HB:=bs HB hb; clear hb ho5))
 go_loopg [4] k (fun kq v4 w' => ∃ (x3_1 : List Bool) (x4_1 : Int),v4 = .int .i64 x4_1 /\ Zz (r4_Visible.l0 kq l0 x3_1 x4_1 = some r) /\ Zz (kq <= k) /\ Zz (Kd.R Kd.bool 4 w' w.heap.size (fun _ => True) v331 x3_1) /\ Zz (Below w.heap.size w w'))
 case atStart => exact ⟨(y330),(0),rf,H',⟨Nat.le_refl _⟩,⟨rk HO332⟩,⟨bw HB⟩⟩
 case round =>
  clear H'
  try clear c2b0; try clear c2b1; try clear c3b0; try clear c3b1
  obtain ⟨x3_1,x4_1,rfl,HA,HK1,HO_3,HB⟩:=hrel
  cases gk with
  | zero => exact absurd HA.out (by simp [r4_Visible.l0])
  | succ k1 =>
   have H:=HA.out
   clear HA
   simp only [r4_Visible.l0] at H
   by_cases c6 : x4_1 < (l0.length : Int); rotate_left
   ·rw [if_neg c6] at H
    have c6b0:=Ze c6
    clear c6
    obtain ⟨t339,A18,H⟩:=bE H
    have H':=Zz.k H
    clear H
    go_wp2_with (first | ((with_reducible refine Qac (f:=49) rfl ?_); refine gl (some 43) Tryz.func49 #[.slice A0 l0.length c0] (h := ?_); (with_reducible refine (r4_Order.calls k1 _ _ l0 t339 _ ?side1 ?side2 ?side3 A18.out).mono ?_); (case side1 => exact cb HR0 HB); (case side2 => exact HC0.out); (case side3 => exact (hT.below (bw HB))); rintro e w19 ⟨v340,rfl,ho0,hb⟩; refine ⟨_,rfl, ?_⟩; have HO341:=Zz.k (Kd.R_lower ho0 (Qaj (bw HB))); replace HO_3:=rb HO_3 hb; replace HB:=bs HB hb; clear hb; clear ho0))
    go_loopg [5,7] k1 (fun kq v5 v7 w' => ∃ (x5_2 : List (SElem)) (x7_2 : Int),v7 = .int .i64 x7_2 /\ Zz (r4_Visible.l1 kq l0 x3_1 x5_2 t339 x7_2 = some r) /\ Zz (kq <= k1) /\ Zz (Kd.R Kd.bool 4 w' w.heap.size (fun _ => True) v331 x3_1) /\ Zz (Kd.R Qao 32 w' w.heap.size (fun k_ => some k_ ≠ (v340 : Value).ownBlock) v5 x5_2) /\ Zz (Kd.R Qao 32 w' w.heap.size (fun k_ => some k_ ≠ (v5 : Value).ownBlock) v340 t339) /\ Zz (Below w.heap.size w w'))
    case atStart => exact ⟨(([] : List (SElem))),(0),rf,H',⟨Nat.le_refl _⟩,⟨rk HO_3⟩,⟨by first | exact Kd.R_nil _ _ _ _ _ | exact Kd.N_nil _ _ _ _ _ | exact Kd.V_nil _ _ _ _ _ | exact Kd.Q_nil _ _ _ _ _ | exact Kd.S_nil _ _ _ _ _⟩,⟨by (with_reducible repeat (first | apply Kd.R_alloc | apply Kd.R_drewN | apply Kd.R_drew)); exact Kd.R_mono HO341.out (fun _ hk => (by simp [Value.ownBlock]))⟩,⟨bw HB⟩⟩
    case round =>
     clear H'
     try clear c6b0
     obtain ⟨x5_2,x7_2,rfl,HA,HK2,HO_3,HO_5,HO_6,HB⟩:=hrel
     cases gk with
     | zero => exact absurd HA.out (by simp [r4_Visible.l1])
     | succ k2 =>
      have H:=HA.out
      clear HA
      simp only [r4_Visible.l1] at H
      by_cases c20 : x7_2 < (t339.length : Int); rotate_left
      ·rw [if_neg c20] at H
       have c20b0:=Ze c20
       clear c20
       obtain rfl:=Zo H
       obtain ⟨Ao45,co45,eo45⟩:=Kd.R_slice HO_6.out
       subst eo45
       go_wp2
       go_ret
       exact ⟨_,re,by (with_reducible repeat (first | apply Kd.R_alloc | apply Kd.R_drewN | apply Kd.R_drew)); exact Kd.R_mono HO_5.out (fun _ hk => trivial),bw HB⟩
      rw [if_pos c20] at H
      have c20b0:=Zd c20
      clear c20
      by_cases c21 : 0 <= x7_2; rotate_left
      ·rw [if_neg c21] at H
       exact absurd H (by simp)
      rw [if_pos c21] at H
      have c21b0:=Zd c21
      clear c21
      obtain ⟨t344,A22,H⟩:=bE H
      by_cases c23 : 0 <= t344; rotate_left
      ·rw [if_neg c23] at H
       exact absurd H (by simp)
      rw [if_pos c23] at H
      have c23b0:=Zd c23
      clear c23
      by_cases c24 : t344 < (x3_1.length : Int); rotate_left
      ·rw [if_neg c24] at H
       exact absurd H (by simp)
      rw [if_pos c24] at H
      have c24b0:=Zd c24
      clear c24
      have H':=Zz.k H
      clear H
      obtain ⟨Ao25,co25,eo25⟩:=Kd.R_slice HO_6.out
      subst eo25
      try go_wp2
      have n0_:=Zz.k (Kd.R_drew HO_3.out)
      have n1_:=Zz.k (Kd.R_drew HO_5.out)
      have n2_:=Zz.k (Kd.R_drew HO_6.out)
      have n3_:=Zz.k (Qae HB.out)
      clear HO_3
      clear HO_5
      clear HO_6
      clear HB
      have HO_3:=n0_
      have HO_5:=n1_
      have HO_6:=n2_
      have HB:=n3_
      clear n0_ n1_ n2_ n3_
      have p342 : 0 <= (x7_2 : Int):=od
      have q342 : x7_2 < (t339.length : Int):=od
      obtain ⟨ad342,e342,hx342_0,hx342_1,hx342_2⟩:=Qat (Kd.R_reads' HO_6.out).2.2 x7_2 p342 q342
      cases e342
      replace p342:=eq_true p342
      replace q342:=eq_true q342
      try (obtain ⟨Ao3_,co3_,rfl⟩:=Kd.R_slice HO_3.out)
      have p345 : 0 <= (t344 : Int):=od
      have q345 : t344 < (x3_1.length : Int):=od
      obtain ⟨ad345,e345,hx345_0⟩:=Kd.at_bool (Kd.R_reads' HO_3.out).2.2 t344 p345 q345
      cases e345
      replace p345:=eq_true p345
      replace q345:=eq_true q345
      refine stP (fun w' => w'.cell? (ad342.add ((x7_2).toNat * 3)) = some (.int .i64 ((Qaa t339 x7_2).f0)) /\ w'.cell? ⟨(ad342.add ((x7_2).toNat * 3)).block,(ad342.add ((x7_2).toNat * 3)).off + 1,none⟩ = some (.int .i64 ((Qaa t339 x7_2).f1)) /\ w'.cell? ⟨(ad342.add ((x7_2).toNat * 3)).block,(ad342.add ((x7_2).toNat * 3)).off + 2,none⟩ = some (.int .i64 ((Qaa t339 x7_2).f2)) /\ w'.cell? (ad345.add (t344).toNat) = some (.bool (rdOf false x3_1 t344))) 16 ⟨hx342_0,hx342_1,hx342_2,hx345_0⟩ (h:=fun hHeld => ?_); refine Qap r4_Visible.tab11 r4_Visible.bits11 (fun HT_ HW_ => ?_)
      generalize wr.drew = w26 at HO_3 HO_5 HO_6 HB hx342_0 hx342_1 hx342_2 hx342_0 hx342_1 hx342_2 hx345_0 hHeld ⊢
      refine pu HT_ 0 50 1 (h := ?_)
      refine pu HT_ 1 51 3 (h := ?_)
      refine pu HT_ 2 52 7 (h := ?_)
      refine pu HT_ 3 53 15 (h := ?_)
      refine pu HT_ 4 54 31 (h := ?_)
      refine pu HT_ 5 55 63 (h := ?_)
      refine pu HT_ 7 57 191 (h := ?_)
      refine pu HT_ 8 58 447 (h := ?_)
      refine pu HT_ 9 59 959 (h := ?_)
      refine pu HT_ 10 60 1983 (h := ?_)
      refine tk HT_ HW_ hHeld 6 56 2047 (h := ?_)
      refine tk HT_ HW_ hHeld 11 61 4095 (h := ?_)
      refine on HT_ 12 (some 62) 8191 (h:=fun K hK => ?_)
      refine gS Tryz.func53 #[.slice A0 l0.length c0, .int .i64 ((Qaa t339 x7_2).f0), .int .i64 ((Qaa t339 x7_2).f1)] (h := ?_)
      with_reducible refine (r4_Find.calls k2 _ _ l0 ((Qaa t339 x7_2).f0) ((Qaa t339 x7_2).f1) t344 _ ?side1 ?side2 A22.out).mono ?_
      (case side1 => exact cb HR0 HB)
      (case side2 => exact HC0.out)
      rintro e w' ⟨rfl,⟨nd,rfl⟩⟩
      refine ⟨_,rfl, ?_⟩
      obtain ⟨Ao27,co27,eo27⟩:=Kd.R_slice HO_3.out
      (first | subst eo27 | (injection eo27 with f1_ f2_ f3_; have f4_:=f1_.symm; have f5_:=f3_.symm; clear f1_ f2_ f3_; subst f4_; subst f5_))
      refine hK.out _ _ ⟨hHeld.1,hHeld.2.1,hHeld.2.2.1,hHeld.2.2.2⟩ (fun hHeld => ?_)
      clear hK K
      refine nn 62 (h := ?_)
      refine pu HT_ 13 63 16383 (h := ?_)
      refine tk HT_ HW_ hHeld 14 64 32767 (h := ?_)
      refine pu HT_ 15 8 65535 (h := ?_)
      refine dn HT_ (h := ?_)
      try go_wp2
      go_loopg [8,9] k2 (fun kq v8 v9 w' => ∃ (x8_3 : Bool) (x9_3 : Int),v8 = .bool x8_3 /\ v9 = .int .i64 x9_3 /\ Zz (r4_Visible.l2 kq l0 x3_1 x5_2 t339 x7_2 x8_3 x9_3 = some r) /\ Zz (kq <= k2) /\ Zz (Kd.R Kd.bool 4 w' w.heap.size (fun _ => True) (.slice (some ad345) x3_1.length co27) x3_1) /\ Zz (Kd.R Qao 32 w' w.heap.size (fun k_ => some k_ ≠ ((.slice (some ad342) t339.length co25) : Value).ownBlock) u5 x5_2) /\ Zz (Kd.R Qao 32 w' w.heap.size (fun k_ => some k_ ≠ (u5 : Value).ownBlock) (.slice (some ad342) t339.length co25) t339) /\ Zz (Below w.heap.size w w'))
      case atStart => exact ⟨(rdOf false x3_1 t344),(0),rf,rf,H',⟨Nat.le_refl _⟩,⟨rk HO_3⟩,⟨rk HO_5⟩,⟨rk HO_6⟩,⟨bw HB⟩⟩
      case round =>
       clear H'
       try clear c20b0; try clear c21b0; try clear c23b0; try clear c24b0; try clear hx342_0; try clear hx342_1; try clear hx342_2; try clear hx342_0; try clear hx342_1; try clear hx342_2; try clear hx345_0; try clear p342; try clear p342; try clear p345; try clear q342; try clear q342; try clear q345
       obtain ⟨x8_3,x9_3,rfl,rfl,HA,HK3,HO_3,HO_5,HO_6,HB⟩:=hrel
       cases gk with
       | zero => exact absurd HA.out (by simp [r4_Visible.l2])
       | succ k3 =>
        have H:=HA.out
        clear HA
        simp only [r4_Visible.l2] at H
        by_cases c28 : x9_3 < (l0.length : Int); rotate_left
        ·rw [if_neg c28] at H
         have c28b0:=Ze c28
         clear c28
         by_cases c40 : x8_3 = true; rotate_left
         ·replace c40:=Zf c40
          subst c40
          rw [if_neg nft] at H
          have H':=Zz.k H
          clear H
          go_wp2
          go_roundg k3
          case measure => have:=HK1.out; have:=HK2.out; have:=HK3.out; omega
          case rel => exact ⟨(x5_2),(wrap64 (x7_2 + 1)),rf,H',⟨by have:=HK1.out; have:=HK2.out; have:=HK3.out; omega⟩,⟨rk HO_3⟩,⟨rk HO_5⟩,⟨rk HO_6⟩,⟨bw HB⟩⟩
         subst c40
         rw [if_pos rfl] at H
         by_cases c41 : 0 <= x7_2; rotate_left
         ·rw [if_neg c41] at H
          exact absurd H (by simp)
         rw [if_pos c41] at H
         have c41b0:=Zd c41
         clear c41
         by_cases c42 : x7_2 < (t339.length : Int); rotate_left
         ·rw [if_neg c42] at H
          exact absurd H (by simp)
         rw [if_pos c42] at H
         have c42b0:=Zd c42
         clear c42
         by_cases c43 : x5_2.length < 5864062014805; rotate_left
         ·rw [if_neg c43] at H
          exact absurd H (by simp)
         rw [if_pos c43] at H
         have LMc43:=Zz.k c43
         clear c43
         obtain ⟨y351,hy351⟩ : ∃ y_ : List (SElem),y_ = (x5_2 ++ [(⟨(Qaa t339 x7_2).f0,(Qaa t339 x7_2).f1,(Qaa t339 x7_2).f2⟩ : SElem)]):=⟨_,rfl⟩
         first | rw [Option.bind_some,<- hy351] at H | rw [<- hy351] at H
         have Ny351:=Zz.k hy351
         clear hy351
         have H':=Zz.k H
         clear H
         have p350 : 0 <= (x7_2 : Int):=od
         have q350 : x7_2 < (t339.length : Int):=od
         obtain ⟨ad350,e350,hx350_0,hx350_1,hx350_2⟩:=Qat (Kd.R_reads' HO_6.out).2.2 x7_2 p350 q350
         obtain rfl : ad342 = ad350:=(by injection e350)
         replace p350:=eq_true p350
         replace q350:=eq_true q350
         go_wp2_with (first | ((with_reducible refine Qbs (b:=.append) (xs:=#[.tmp 93, .tmp 98]) rfl ?_); at_builtin; refine Kd.R_append Qao (w0:=w) w.heap.size rfl (.tmp 93) (.tmp 98) 23 32 (.agg #[(.int .i64 0),(.int .i64 0),(.int .i64 0)]) 24 rfl Tryz.underlying23 info32 rfl (by decide) (by omega) u5 x5_2 (⟨(Qaa t339 x7_2).f0,(Qaa t339 x7_2).f1,(Qaa t339 x7_2).f2⟩ : SElem) [.int .i64 ((Qaa t339 x7_2).f0), .int .i64 ((Qaa t339 x7_2).f1), .int .i64 ((Qaa t339 x7_2).f2)] (fun k_ => some k_ ≠ (.slice (some ad342) t339.length co25 : Value).ownBlock) (fun _ => False) rfl rfl ?aP (fun _ hk => hk.elim) ?aF ?aO ?aB ?aS ?aL ?_; (case aP => exact Qcc _ _ _ (⟨(Qaa t339 x7_2).f0,(Qaa t339 x7_2).f1,(Qaa t339 x7_2).f2⟩ : SElem)); (case aB => exact (bw HB)); (case aF => exact (fun k_ hk => Kd.fresh' (Kd.R_lt (rk HO_6)) k_ hk)); (case aO => exact (rk HO_5)); (case aS => exact (Qaj (bw HB))); (case aL => have:=LMc43.out; omega); intro v352 w44 ho hb hg hat; rw [<- Ny351.out] at ho; have n0_:=Zz.k (Kd.R_over' (rk HO_3) (Kd.R_typed (rk HO_5)) (by decide) hg); have n1_:=Zz.k (Kd.R_after (ok:=(fun _ => True)) (by (with_reducible repeat (first | apply Kd.R_alloc | apply Kd.R_drewN | apply Kd.R_drew)); exact Kd.R_mono HO_6.out (fun _ hk => ⟨trivial,hk⟩)) hg hat); have n2_:=Zz.k (hb); have n3_:=Zz.k (ho); clear HO_3; clear HO_6; clear HB; clear HO_5; have HO_3:=n0_; have HO_6:=n1_; have HB:=n2_; have HO353:=n3_; clear n0_ n1_ n2_ n3_; clear ho hb hg hat))
         go_roundg k3
         case measure => have:=HK1.out; have:=HK2.out; have:=HK3.out; omega
         case rel => exact ⟨(y351),(wrap64 (x7_2 + 1)),rf,H',⟨by have:=HK1.out; have:=HK2.out; have:=HK3.out; omega⟩,⟨rk HO_3⟩,⟨rk HO353⟩,⟨by (with_reducible repeat (first | apply Kd.R_alloc | apply Kd.R_drewN | apply Kd.R_drew)); exact Kd.R_mono HO_6.out (fun _ hk => hk.2)⟩,⟨bw HB⟩⟩
        rw [if_pos c28] at H
        have c28b0:=Zd c28
        clear c28
        by_cases c29 : x8_3 = true; rotate_left
        ·replace c29:=Zf c29
         subst c29
         rw [if_neg nft] at H
         have H':=Zz.k H
         clear H
         go_wp2
         go_roundg k3
         case measure => have:=HK1.out; have:=HK2.out; have:=HK3.out; omega
         case rel => exact ⟨(x5_2),(wrap64 (x7_2 + 1)),rf,H',⟨by have:=HK1.out; have:=HK2.out; have:=HK3.out; omega⟩,⟨rk HO_3⟩,⟨rk HO_5⟩,⟨rk HO_6⟩,⟨bw HB⟩⟩
        subst c29
        rw [if_pos rfl] at H
        by_cases c30 : 0 <= x9_3; rotate_left
        ·rw [if_neg c30] at H
         exact absurd H (by simp)
        rw [if_pos c30] at H
        have c30b0:=Zd c30
        clear c30
        by_cases c31 : x9_3 < (x3_1.length : Int); rotate_left
        ·rw [if_neg c31] at H
         exact absurd H (by simp)
        rw [if_pos c31] at H
        have c31b0:=Zd c31
        clear c31
        obtain ⟨bq32,hbq32⟩ : ∃ b_ : Bool,b_ = (rdOf false x3_1 x9_3):=⟨_,rfl⟩
        replace H : (if bq32 = true then (if 0 <= x7_2 then (if x7_2 < (t339.length : Int) then ((r0_At.f k3 ((Qad l0 x9_3).f5) ((Qaa t339 x7_2).f0) ((Qaa t339 x7_2).f1) ((Qaa t339 x7_2).f2)).bind fun t349 => (r4_Visible.l2 k3 l0 x3_1 x5_2 t339 x7_2 (decide (t349 < 0)) (wrap64 (x9_3 + 1)))) else (none)) else (none)) else (r4_Visible.l2 k3 l0 x3_1 x5_2 t339 x7_2 true (wrap64 (x9_3 + 1)))) = some r:=by rw [<- hbq32] at H; exact H
        have Nbq32:=Zz.k hbq32
        clear hbq32
        by_cases c33 : bq32 = true; rotate_left
        ·replace c33:=Zf c33
         subst c33
         rw [if_neg nft] at H
         have H':=Zz.k H
         clear H
         try go_wp2
         have n0_:=Zz.k (Kd.R_drew HO_3.out)
         have n1_:=Zz.k (Kd.R_drew HO_5.out)
         have n2_:=Zz.k (Kd.R_drew HO_6.out)
         have n3_:=Zz.k (Qae HB.out)
         clear HO_3
         clear HO_5
         clear HO_6
         clear HB
         have HO_3:=n0_
         have HO_5:=n1_
         have HO_6:=n2_
         have HB:=n3_
         clear n0_ n1_ n2_ n3_
         try (obtain ⟨Ao3_,co3_,rfl⟩:=Kd.R_slice HO_3.out)
         have p346 : 0 <= (x9_3 : Int):=od
         have q346 : x9_3 < (x3_1.length : Int):=od
         obtain ⟨ad346,e346,hx346_0⟩:=Kd.at_bool (Kd.R_reads' HO_3.out).2.2 x9_3 p346 q346
         (try rw [<- Nbq32.out] at hx346_0)
         obtain rfl : ad345 = ad346:=(by injection e346)
         replace p346:=eq_true p346
         replace q346:=eq_true q346
         refine stP (fun w' => w'.cell? (ad345.add (x9_3).toNat) = some (.bool false)) 19 (hx346_0) (h:=fun hHeld => ?_); refine Qap r4_Visible.tab15 r4_Visible.bits15 (fun HT_ HW_ => ?_)
         generalize wr.drew = w39 at HO_3 HO_5 HO_6 HB hx346_0 hHeld ⊢
         refine pu HT_ 0 74 1 (h := ?_)
         refine pu HT_ 1 75 3 (h := ?_)
         refine pu HT_ 2 76 7 (h := ?_)
         refine tk HT_ HW_ hHeld 3 77 15 (h := ?_)
         refine pu HT_ 4 78 31 (h := ?_)
         refine pu HT_ 5 79 63 (h := ?_)
         refine off HT_ 6 80 127 (h := ?_)
         refine off HT_ 7 81 255 (h := ?_)
         refine off HT_ 8 82 511 (h := ?_)
         refine off HT_ 9 83 1023 (h := ?_)
         refine off HT_ 10 84 2047 (h := ?_)
         refine off HT_ 11 85 4095 (h := ?_)
         refine off HT_ 12 86 8191 (h := ?_)
         refine off HT_ 13 87 16383 (h := ?_)
         refine off HT_ 14 88 32767 (h := ?_)
         refine off HT_ 15 89 65535 (h := ?_)
         refine off HT_ 16 90 131071 (h := ?_)
         refine pu HT_ 17 91 262143 (h := ?_)
         refine pu HT_ 18 8 524287 (h := ?_)
         refine dn HT_ (h := ?_)
         try go_wp2
         go_roundg k3
         case measure => have:=HK1.out; have:=HK2.out; have:=HK3.out; omega
         case rel => exact ⟨(true),(wrap64 (x9_3 + 1)),rf,rf,H',⟨by have:=HK1.out; have:=HK2.out; have:=HK3.out; omega⟩,⟨rk HO_3⟩,⟨rk HO_5⟩,⟨rk HO_6⟩,⟨bw HB⟩⟩
        subst c33
        rw [if_pos rfl] at H
        by_cases c34 : 0 <= x7_2; rotate_left
        ·rw [if_neg c34] at H
         exact absurd H (by simp)
        rw [if_pos c34] at H
        have c34b0:=Zd c34
        clear c34
        by_cases c35 : x7_2 < (t339.length : Int); rotate_left
        ·rw [if_neg c35] at H
         exact absurd H (by simp)
        rw [if_pos c35] at H
        have c35b0:=Zd c35
        clear c35
        obtain ⟨t349,A36,H⟩:=bE H
        have H':=Zz.k H
        clear H
        try go_wp2
        have n0_:=Zz.k (Kd.R_drew HO_3.out)
        have n1_:=Zz.k (Kd.R_drew HO_5.out)
        have n2_:=Zz.k (Kd.R_drew HO_6.out)
        have n3_:=Zz.k (Qae HB.out)
        clear HO_3
        clear HO_5
        clear HO_6
        clear HB
        have HO_3:=n0_
        have HO_5:=n1_
        have HO_6:=n2_
        have HB:=n3_
        clear n0_ n1_ n2_ n3_
        try (obtain ⟨Ao3_,co3_,rfl⟩:=Kd.R_slice HO_3.out)
        have p346 : 0 <= (x9_3 : Int):=od
        have q346 : x9_3 < (x3_1.length : Int):=od
        obtain ⟨ad346,e346,hx346_0⟩:=Kd.at_bool (Kd.R_reads' HO_3.out).2.2 x9_3 p346 q346
        (try rw [<- Nbq32.out] at hx346_0)
        obtain rfl : ad345 = ad346:=(by injection e346)
        replace p346:=eq_true p346
        replace q346:=eq_true q346
        have p347 : 0 <= (x9_3 : Int):=od
        have q347 : x9_3 < (l0.length : Int):=od
        obtain ⟨ad347,A347_7,c347_7,e347,hx347_0,hx347_1,hx347_2,hx347_3,hx347_4,hx347_5,hx347_6,hx347_7,hx347_8,hx347_9,hx347_10,hl347_7,hi347_7⟩:=Qby HR0.out x9_3 p347 q347
        have hw347_10:=hx347_10
        have hw347_9:=hx347_9
        have hw347_8:=hx347_8
        have hw347_7:=hx347_7
        have hw347_6:=hx347_6
        have hw347_5:=hx347_5
        have hw347_4:=hx347_4
        have hw347_3:=hx347_3
        have hw347_2:=hx347_2
        have hw347_1:=hx347_1
        have hw347_0:=hx347_0
        cases e347
        replace hx347_0:=cl HB hx347_0
        replace hx347_1:=cl HB hx347_1
        replace hx347_2:=cl HB hx347_2
        replace hx347_3:=cl HB hx347_3
        replace hx347_4:=cl HB hx347_4
        replace hx347_5:=cl HB hx347_5
        replace hx347_6:=cl HB hx347_6
        replace hx347_7:=cl HB hx347_7
        replace hx347_8:=cl HB hx347_8
        replace hx347_9:=cl HB hx347_9
        replace hx347_10:=cl HB hx347_10
        have HR347_7:=Zz.k hi347_7
        have HC347_7:=Zz.k hl347_7
        clear hi347_7 hl347_7
        replace p347:=eq_true p347
        replace q347:=eq_true q347
        have p348 : 0 <= (x7_2 : Int):=od
        have q348 : x7_2 < (t339.length : Int):=od
        obtain ⟨ad348,e348,hx348_0,hx348_1,hx348_2⟩:=Qat (Kd.R_reads' HO_6.out).2.2 x7_2 p348 q348
        obtain rfl : ad342 = ad348:=(by injection e348)
        replace p348:=eq_true p348
        replace q348:=eq_true q348
        refine stP (fun w' => w'.cell? (ad345.add (x9_3).toNat) = some (.bool true) /\ P11 w' (ad347.add ((x9_3).toNat * 11)) (Qad l0 x9_3) A347_7 c347_7 (w'.cell? (ad342.add ((x7_2).toNat * 3)) = some (.int .i64 ((Qaa t339 x7_2).f0)) /\ w'.cell? ⟨(ad342.add ((x7_2).toNat * 3)).block,(ad342.add ((x7_2).toNat * 3)).off + 1,none⟩ = some (.int .i64 ((Qaa t339 x7_2).f1)) /\ w'.cell? ⟨(ad342.add ((x7_2).toNat * 3)).block,(ad342.add ((x7_2).toNat * 3)).off + 2,none⟩ = some (.int .i64 ((Qaa t339 x7_2).f2)))) 19 ⟨hx346_0,(cW HB hw347_0),(cW HB hw347_1),(cW HB hw347_2),(cW HB hw347_3),(cW HB hw347_4),(cW HB hw347_5),(cW HB hw347_6),(cW HB hw347_7),(cW HB hw347_8),(cW HB hw347_9),(cW HB hw347_10),hx348_0,hx348_1,hx348_2⟩ (h:=fun hHeld => ?_); refine Qap r4_Visible.tab15 r4_Visible.bits15 (fun HT_ HW_ => ?_)
        generalize wr.drew = w37 at HO_3 HO_5 HO_6 HB HR347_7 hx346_0 hx347_0 hx347_1 hx347_10 hx347_2 hx347_3 hx347_4 hx347_5 hx347_6 hx347_7 hx347_8 hx347_9 hx348_0 hx348_1 hx348_2 hHeld ⊢
        refine pu HT_ 0 74 1 (h := ?_)
        refine pu HT_ 1 75 3 (h := ?_)
        refine pu HT_ 2 76 7 (h := ?_)
        refine tk HT_ HW_ hHeld 3 77 15 (h := ?_)
        refine pu HT_ 4 78 31 (h := ?_)
        refine pu HT_ 5 79 63 (h := ?_)
        refine pu HT_ 6 80 127 (h := ?_)
        refine pu HT_ 7 81 255 (h := ?_)
        refine pu HT_ 8 82 511 (h := ?_)
        refine pu HT_ 9 83 1023 (h := ?_)
        refine pu HT_ 11 85 3071 (h := ?_)
        refine pu HT_ 12 86 7167 (h := ?_)
        refine pu HT_ 13 87 15359 (h := ?_)
        refine tk HT_ HW_ hHeld 10 84 16383 (h := ?_)
        refine tk HT_ HW_ hHeld 14 88 32767 (h := ?_)
        refine on HT_ 15 (some 89) 65535 (h:=fun K hK => ?_)
        refine gS Tryz.func50 #[.slice A347_7 ((Qad l0 x9_3).f5).length c347_7, .agg #[.int .i64 ((Qaa t339 x7_2).f0), .int .i64 ((Qaa t339 x7_2).f1), .int .i64 ((Qaa t339 x7_2).f2)]] (h := ?_)
        with_reducible refine (r0_At.calls k3 _ _ ((Qad l0 x9_3).f5) ((Qaa t339 x7_2).f0) ((Qaa t339 x7_2).f1) ((Qaa t339 x7_2).f2) t349 _ ?side1 ?side2 A36.out).mono ?_
        (case side1 => exact cb HR347_7 HB)
        (case side2 => exact HC347_7.out)
        rintro e w38 ⟨rfl,hb⟩
        have HS0_:=(hb.cell (World.block_lt_of_cell? _ _ (hHeld.1))).trans (hHeld.1)
        have HS12_:=(hb.cell (World.block_lt_of_cell? _ _ (hHeld.2.2.2.2.2.2.2.2.2.2.2.2.1))).trans (hHeld.2.2.2.2.2.2.2.2.2.2.2.2.1)
        have HS13_:=(hb.cell (World.block_lt_of_cell? _ _ (hHeld.2.2.2.2.2.2.2.2.2.2.2.2.2.1))).trans (hHeld.2.2.2.2.2.2.2.2.2.2.2.2.2.1)
        have HS14_:=(hb.cell (World.block_lt_of_cell? _ _ (hHeld.2.2.2.2.2.2.2.2.2.2.2.2.2.2))).trans (hHeld.2.2.2.2.2.2.2.2.2.2.2.2.2.2)
        refine ⟨_,rfl, ?_⟩
        have n0_:=rb HO_3 hb
        have n1_:=rb HO_5 hb
        have n2_:=rb HO_6 hb
        have n3_:=bs HB hb
        clear HO_3
        clear HO_5
        clear HO_6
        clear HB
        have HO_3:=n0_
        have HO_5:=n1_
        have HO_6:=n2_
        have HB:=n3_
        clear n0_ n1_ n2_ n3_
        (try clear hb)
        (try clear hb2)
        (try clear hk)
        (try clear hi)
        refine hK.out _ _ ⟨HS0_,(cW HB hw347_0),(cW HB hw347_1),(cW HB hw347_2),(cW HB hw347_3),(cW HB hw347_4),(cW HB hw347_5),(cW HB hw347_6),(cW HB hw347_7),(cW HB hw347_8),(cW HB hw347_9),(cW HB hw347_10),HS12_,HS13_,HS14_⟩ (fun hHeld => ?_)
        clear hK K
        refine nn 89 (h := ?_)
        refine pu HT_ 16 90 131071 (h := ?_)
        refine pu HT_ 17 91 262143 (h := ?_)
        refine pu HT_ 18 8 524287 (h := ?_)
        refine dn HT_ (h := ?_)
        try go_wp2
        go_roundg k3
        case measure => have:=HK1.out; have:=HK2.out; have:=HK3.out; omega
        case rel => exact ⟨(decide (t349 < 0)),(wrap64 (x9_3 + 1)),rf,rf,H',⟨by have:=HK1.out; have:=HK2.out; have:=HK3.out; omega⟩,⟨rk HO_3⟩,⟨rk HO_5⟩,⟨rk HO_6⟩,⟨bw HB⟩⟩
   rw [if_pos c6] at H
   have c6b0:=Zd c6
   clear c6
   by_cases c7 : 0 <= x4_1; rotate_left
   ·rw [if_neg c7] at H
    exact absurd H (by simp)
   rw [if_pos c7] at H
   have c7b0:=Zd c7
   clear c7
   by_cases c8 : ((Qad l0 x4_1).f2) = 1; rotate_left
   ·rw [if_neg c8] at H
    obtain ⟨c8b0,c8b1⟩:=bF c8
    by_cases c14 : x4_1 < (x3_1.length : Int); rotate_left
    ·rw [if_neg c14] at H
     exact absurd H (by simp)
    rw [if_pos c14] at H
    have c14b0:=Zd c14
    clear c14
    obtain ⟨y338,hy338⟩ : ∃ y_ : List Bool,y_ = (x3_1.set (x4_1 : Int).toNat false):=⟨_,rfl⟩
    first | rw [Option.bind_some,<- hy338] at H | rw [<- hy338] at H
    have Ny338:=Zz.k hy338
    clear hy338
    have H':=Zz.k H
    clear H
    try go_wp2
    have n0_:=Zz.k (Kd.R_drew HO_3.out)
    have n1_:=Zz.k (Qae HB.out)
    clear HO_3
    clear HB
    have HO_3:=n0_
    have HB:=n1_
    clear n0_ n1_
    have p333 : 0 <= (x4_1 : Int):=od
    have q333 : x4_1 < (l0.length : Int):=od
    obtain ⟨ad333,A333_7,c333_7,e333,hx333_0,hx333_1,hx333_2,hx333_3,hx333_4,hx333_5,hx333_6,hx333_7,hx333_8,hx333_9,hx333_10,hl333_7,hi333_7⟩:=Qby HR0.out x4_1 p333 q333
    have hw333_10:=hx333_10
    have hw333_9:=hx333_9
    have hw333_8:=hx333_8
    have hw333_7:=hx333_7
    have hw333_6:=hx333_6
    have hw333_5:=hx333_5
    have hw333_4:=hx333_4
    have hw333_3:=hx333_3
    have hw333_2:=hx333_2
    have hw333_1:=hx333_1
    have hw333_0:=hx333_0
    cases e333
    replace hx333_0:=cl HB hx333_0
    replace hx333_1:=cl HB hx333_1
    replace hx333_2:=cl HB hx333_2
    replace hx333_3:=cl HB hx333_3
    replace hx333_4:=cl HB hx333_4
    replace hx333_5:=cl HB hx333_5
    replace hx333_6:=cl HB hx333_6
    replace hx333_7:=cl HB hx333_7
    replace hx333_8:=cl HB hx333_8
    replace hx333_9:=cl HB hx333_9
    replace hx333_10:=cl HB hx333_10
    have HR333_7:=Zz.k hi333_7
    have HC333_7:=Zz.k hl333_7
    clear hi333_7 hl333_7
    replace p333:=eq_true p333
    replace q333:=eq_true q333
    have p15 : 0 <= (x4_1 : Int):=od
    have q15 : (x4_1 : Int) < ((x3_1.length : Int) : Int):=od
    obtain ⟨go15,co15,eo15,gb15,gl15,cl15,HG15⟩:=Kd.R_form HO_3.out (by omega)
    (first | cases eo15 | (injection eo15 with ea_ en_ ec_; (first | subst ea_ | (injection ea_ with ea_; subst ea_)); subst ec_; clear en_))
    have GB15:=Zz.k gb15
    have GG15:=Zz.k HG15
    clear gb15 gl15 HG15
    obtain ⟨hx15_0,hf15_0⟩:=Kd.R_celln false HO_3.out (x4_1 : Int) p15 q15
    replace p15:=eq_true p15
    replace q15:=eq_true q15
    have HP17:=Kd.R_putn HO_3.out (x4_1 : Int) false
    rw [<- Ny338.out] at HP17
    have HQ17:=Zz.k HP17
    clear HP17
    refine start_ (n:=24) (S:=fun w' => Q11 w' (ad333.add ((x4_1).toNat * 11)) (Qad l0 x4_1) A333_7 c333_7) (ds:=[23]) #[false,false,false,false,false,false,false,false,false,false,false,false,false,false,false,false,false,false,false,false,false,false,false,false] (by kernel_rfl) rfl rfl ⟨(cW HB hw333_0),(cW HB hw333_1),(cW HB hw333_2),(cW HB hw333_3),(cW HB hw333_4),(cW HB hw333_5),(cW HB hw333_6),(cW HB hw333_7),(cW HB hw333_8),(cW HB hw333_9),(cW HB hw333_10)⟩ (fun hHeld => ?_); refine Qap r4_Visible.tab5 r4_Visible.bits5 (fun HT_ HW_ => ?_)
    generalize wr.drew = w16 at HO_3 HB GG15 HQ17 HR333_7 hf15_0 hx15_0 hx333_0 hx333_1 hx333_10 hx333_2 hx333_3 hx333_4 hx333_5 hx333_6 hx333_7 hx333_8 hx333_9 hHeld ⊢
    refine Qcb (i:=0) (N:=some 19) (v := ?_) (a' := ?_) #[true,false,false,false,false,false,false,false,false,false,false,false,false,false,false,false,false,false,false,false,false,false,false,false] rfl rfl (Qbm HT_.out (by kernel_rfl)) (fun _ _ _ h => h) (Or.inl ⟨by rfl, ?_⟩) ?_ ?_
    rotate_left
    ·intro w'
     go_simp
     with_reducible rfl
    rotate_left
    ·simp only [Act.put,List.setIfInBounds_toArray,List.set_cons_zero,List.set_cons_succ,Qbc,Qbg]
     rfl
    refine Qcb (i:=1) (N:=some 20) (v := ?_) (a' := ?_) #[true,true,false,false,false,false,false,false,false,false,false,false,false,false,false,false,false,false,false,false,false,false,false,false] rfl rfl (Qbm HT_.out (by kernel_rfl)) (fun _ _ _ h => h) (Or.inl ⟨by rfl, ?_⟩) ?_ ?_
    rotate_left
    ·intro w'
     go_simp
     with_reducible rfl
    rotate_left
    ·simp only [Act.put,List.setIfInBounds_toArray,List.set_cons_zero,List.set_cons_succ,Qbc,Qbg]
     rfl
    refine Qcb (i:=2) (N:=some 21) (v := ?_) (a' := ?_) #[true,true,true,false,false,false,false,false,false,false,false,false,false,false,false,false,false,false,false,false,false,false,false,false] rfl rfl (Qbm HT_.out (by kernel_rfl)) (fun _ _ _ h => h) (Or.inl ⟨by rfl, ?_⟩) ?_ ?_
    rotate_left
    ·intro w'
     go_simp
     with_reducible rfl
    rotate_left
    ·simp only [Act.put,List.setIfInBounds_toArray,List.set_cons_zero,List.set_cons_succ,Qbc,Qbg]
     rfl
    refine Qcb (i:=3) (N:=some 22) (v := ?_) (a' := ?_) #[true,true,true,true,false,false,false,false,false,false,false,false,false,false,false,false,false,false,false,false,false,false,false,false] rfl rfl (Qbm HT_.out (by kernel_rfl)) (fun _ _ _ h => h) (Or.inl ⟨by rfl, ?_⟩) ?_ ?_
    rotate_left
    ·intro w'
     go_simp
     with_reducible rfl
    rotate_left
    ·simp only [Act.put,List.setIfInBounds_toArray,List.set_cons_zero,List.set_cons_succ,Qbc,Qbg]
     rfl
    refine Qcb (i:=4) (N:=some 23) (v := ?_) (a' := ?_) #[true,true,true,true,true,false,false,false,false,false,false,false,false,false,false,false,false,false,false,false,false,false,false,false] rfl rfl (Qbm HT_.out (by kernel_rfl)) (fun _ _ _ h => h) (Or.inl ⟨by rfl, ?_⟩) ?_ ?_
    rotate_left
    ·intro w'
     go_simp
     with_reducible rfl
    rotate_left
    ·simp only [Act.put,List.setIfInBounds_toArray,List.set_cons_zero,List.set_cons_succ,Qbc,Qbg]
     rfl
    refine Qcb (i:=5) (N:=some 24) (v := ?_) (a' := ?_) #[true,true,true,true,true,true,false,false,false,false,false,false,false,false,false,false,false,false,false,false,false,false,false,false] rfl rfl (Qbm HT_.out (by kernel_rfl)) (fun _ _ _ h => h) (Or.inl ⟨by rfl, ?_⟩) ?_ ?_
    rotate_left
    ·intro w'
     go_simp
     with_reducible rfl
    rotate_left
    ·simp only [Act.put,List.setIfInBounds_toArray,List.set_cons_zero,List.set_cons_succ,Qbc,Qbg]
     rfl
    refine take_ (i:=6) (N:=some 25) (v := ?_) (a' := ?_) #[true,true,true,true,true,true,true,false,false,false,false,false,false,false,false,false,false,false,false,false,false,false,false,false] rfl rfl (take_ofW HT_.out HW_.out (by kernel_rfl)) (fun _ _ _ h => h) (Or.inl ⟨by rfl, ?_⟩) hHeld ?_ ?_
    rotate_left
    ·rintro w' ⟨s0,s1,s2,s3,s4,s5,s6,s7,s8,s9,s10⟩
     go_simp
     with_reducible rfl
    rotate_left
    ·simp only [Act.put,List.setIfInBounds_toArray,List.set_cons_zero,List.set_cons_succ,Qbc,Qbg]
     rfl
    refine Qcb (i:=7) (N:=some 26) (v := ?_) (a' := ?_) #[true,true,true,true,true,true,true,true,false,false,false,false,false,false,false,false,false,false,false,false,false,false,false,false] rfl rfl (Qbm HT_.out (by kernel_rfl)) (fun _ _ _ h => h) (Or.inl ⟨by rfl, ?_⟩) ?_ ?_
    rotate_left
    ·intro w'
     go_simp
     with_reducible rfl
    rotate_left
    ·simp only [Act.put,List.setIfInBounds_toArray,List.set_cons_zero,List.set_cons_succ,Qbc,Qbg]
     rfl
    refine Qcb (i:=8) (N:=some 27) (v := ?_) (a' := ?_) #[true,true,true,true,true,true,true,true,true,false,false,false,false,false,false,false,false,false,false,false,false,false,false,false] rfl rfl (Qbm HT_.out (by kernel_rfl)) (fun _ _ _ h => h) (Or.inl ⟨by rfl, ?_⟩) ?_ ?_
    rotate_left
    ·intro w'
     go_simp
     with_reducible rfl
    rotate_left
    ·simp only [Act.put,List.setIfInBounds_toArray,List.set_cons_zero,List.set_cons_succ,Qbc,Qbg]
     rfl
    refine Qcb (i:=9) (N:=some 28) (v:=undef) (a' := ?_) #[true,true,true,true,true,true,true,true,true,true,false,false,false,false,false,false,false,false,false,false,false,false,false,false] rfl rfl (Qbm HT_.out (by kernel_rfl)) (fun _ _ _ h => h) (Or.inr ⟨by rfl,rfl⟩) ?_ ?_
    rotate_left
    ·simp only [Act.put,List.setIfInBounds_toArray,List.set_cons_zero,List.set_cons_succ,Qbc,Qbg]
     rfl
    refine Qcb (i:=10) (N:=some 29) (v:=undef) (a' := ?_) #[true,true,true,true,true,true,true,true,true,true,true,false,false,false,false,false,false,false,false,false,false,false,false,false] rfl rfl (Qbm HT_.out (by kernel_rfl)) (fun _ _ _ h => h) (Or.inr ⟨by rfl,rfl⟩) ?_ ?_
    rotate_left
    ·simp only [Act.put,List.setIfInBounds_toArray,List.set_cons_zero,List.set_cons_succ,Qbc,Qbg]
     rfl
    refine Qcb (i:=11) (N:=some 30) (v:=undef) (a' := ?_) #[true,true,true,true,true,true,true,true,true,true,true,true,false,false,false,false,false,false,false,false,false,false,false,false] rfl rfl (Qbm HT_.out (by kernel_rfl)) (fun _ _ _ h => h) (Or.inr ⟨by rfl,rfl⟩) ?_ ?_
    rotate_left
    ·simp only [Act.put,List.setIfInBounds_toArray,List.set_cons_zero,List.set_cons_succ,Qbc,Qbg]
     rfl
    refine Qcb (i:=12) (N:=some 31) (v:=undef) (a' := ?_) #[true,true,true,true,true,true,true,true,true,true,true,true,true,false,false,false,false,false,false,false,false,false,false,false] rfl rfl (Qbm HT_.out (by kernel_rfl)) (fun _ _ _ h => h) (Or.inr ⟨by rfl,rfl⟩) ?_ ?_
    rotate_left
    ·simp only [Act.put,List.setIfInBounds_toArray,List.set_cons_zero,List.set_cons_succ,Qbc,Qbg]
     rfl
    refine Qcb (i:=13) (N:=some 32) (v:=undef) (a' := ?_) #[true,true,true,true,true,true,true,true,true,true,true,true,true,true,false,false,false,false,false,false,false,false,false,false] rfl rfl (Qbm HT_.out (by kernel_rfl)) (fun _ _ _ h => h) (Or.inr ⟨by rfl,rfl⟩) ?_ ?_
    rotate_left
    ·simp only [Act.put,List.setIfInBounds_toArray,List.set_cons_zero,List.set_cons_succ,Qbc,Qbg]
     rfl
    refine Qcb (i:=14) (N:=some 33) (v:=undef) (a' := ?_) #[true,true,true,true,true,true,true,true,true,true,true,true,true,true,true,false,false,false,false,false,false,false,false,false] rfl rfl (Qbm HT_.out (by kernel_rfl)) (fun _ _ _ h => h) (Or.inr ⟨by rfl,rfl⟩) ?_ ?_
    rotate_left
    ·simp only [Act.put,List.setIfInBounds_toArray,List.set_cons_zero,List.set_cons_succ,Qbc,Qbg]
     rfl
    refine Qcb (i:=15) (N:=some 34) (v:=undef) (a' := ?_) #[true,true,true,true,true,true,true,true,true,true,true,true,true,true,true,true,false,false,false,false,false,false,false,false] rfl rfl (Qbm HT_.out (by kernel_rfl)) (fun _ _ _ h => h) (Or.inr ⟨by rfl,rfl⟩) ?_ ?_
    rotate_left
    ·simp only [Act.put,List.setIfInBounds_toArray,List.set_cons_zero,List.set_cons_succ,Qbc,Qbg]
     rfl
    refine Qcb (i:=16) (N:=some 35) (v:=undef) (a' := ?_) #[true,true,true,true,true,true,true,true,true,true,true,true,true,true,true,true,true,false,false,false,false,false,false,false] rfl rfl (Qbm HT_.out (by kernel_rfl)) (fun _ _ _ h => h) (Or.inr ⟨by rfl,rfl⟩) ?_ ?_
    rotate_left
    ·simp only [Act.put,List.setIfInBounds_toArray,List.set_cons_zero,List.set_cons_succ,Qbc,Qbg]
     rfl
    refine Qcb (i:=17) (N:=some 36) (v:=undef) (a' := ?_) #[true,true,true,true,true,true,true,true,true,true,true,true,true,true,true,true,true,true,false,false,false,false,false,false] rfl rfl (Qbm HT_.out (by kernel_rfl)) (fun _ _ _ h => h) (Or.inr ⟨by rfl,rfl⟩) ?_ ?_
    rotate_left
    ·simp only [Act.put,List.setIfInBounds_toArray,List.set_cons_zero,List.set_cons_succ,Qbc,Qbg]
     rfl
    refine Qcb (i:=18) (N:=some 37) (v:=undef) (a' := ?_) #[true,true,true,true,true,true,true,true,true,true,true,true,true,true,true,true,true,true,true,false,false,false,false,false] rfl rfl (Qbm HT_.out (by kernel_rfl)) (fun _ _ _ h => h) (Or.inr ⟨by rfl,rfl⟩) ?_ ?_
    rotate_left
    ·simp only [Act.put,List.setIfInBounds_toArray,List.set_cons_zero,List.set_cons_succ,Qbc,Qbg]
     rfl
    refine Qcb (i:=19) (N:=some 38) (v:=undef) (a' := ?_) #[true,true,true,true,true,true,true,true,true,true,true,true,true,true,true,true,true,true,true,true,false,false,false,false] rfl rfl (Qbm HT_.out (by kernel_rfl)) (fun _ _ _ h => h) (Or.inr ⟨by rfl,rfl⟩) ?_ ?_
    rotate_left
    ·simp only [Act.put,List.setIfInBounds_toArray,List.set_cons_zero,List.set_cons_succ,Qbc,Qbg]
     rfl
    refine Qcb (i:=20) (N:=some 39) (v:=undef) (a' := ?_) #[true,true,true,true,true,true,true,true,true,true,true,true,true,true,true,true,true,true,true,true,true,false,false,false] rfl rfl (Qbm HT_.out (by kernel_rfl)) (fun _ _ _ h => h) (Or.inr ⟨by rfl,rfl⟩) ?_ ?_
    rotate_left
    ·simp only [Act.put,List.setIfInBounds_toArray,List.set_cons_zero,List.set_cons_succ,Qbc,Qbg]
     rfl
    refine Qcb (i:=21) (N:=some 40) (v := ?_) (a' := ?_) #[true,true,true,true,true,true,true,true,true,true,true,true,true,true,true,true,true,true,true,true,true,true,false,false] rfl rfl (Qbm HT_.out (by kernel_rfl)) (fun _ _ _ h => h) (Or.inl ⟨by rfl, ?_⟩) ?_ ?_
    rotate_left
    ·intro w'
     go_simp
     with_reducible rfl
    rotate_left
    ·simp only [Act.put,List.setIfInBounds_toArray,List.set_cons_zero,List.set_cons_succ,Qbc,Qbg]
     rfl
    refine Qcb (i:=22) (N:=some 41) (v := ?_) (a' := ?_) #[true,true,true,true,true,true,true,true,true,true,true,true,true,true,true,true,true,true,true,true,true,true,true,false] rfl rfl (Qbm HT_.out (by kernel_rfl)) (fun _ _ _ h => h) (Or.inl ⟨by rfl, ?_⟩) ?_ ?_
    rotate_left
    ·intro w'
     go_simp
     with_reducible rfl
    rotate_left
    ·simp only [Act.put,List.setIfInBounds_toArray,List.set_cons_zero,List.set_cons_succ,Qbc,Qbg]
     rfl
    refine last_ (i:=23) (N:=none) #[true,true,true,true,true,true,true,true,true,true,true,true,true,true,true,true,true,true,true,true,true,true,true,true] rfl rfl (one_of HT_.out (by kernel_rfl)) (by decide) (fun K hK => ?_)
    refine skip_ (w1 := ?_) (by rfl) rfl ?_ ?_
    rotate_left
    ·go_simp
     rfl
    refine hK.out _ _ ?_
    clear hK K
    refine done_ (done_of HT_.out (by kernel_rfl)) ?_
    try go_wp2
    go_roundg k1
    case measure => have:=HK1.out; omega
    case rel => exact ⟨(y338),(wrap64 (x4_1 + 1)),rf,H',⟨by have:=HK1.out; omega⟩,⟨rk HQ17⟩,⟨by repeat (first | (with_reducible first | exact HB.out | apply Qag | apply Qbf | apply Qae | refine Qbw ?_ GB15.out) | exact HB.out)⟩⟩
   rw [if_pos c8] at H
   obtain ⟨c8b0,c8b1⟩:=bT c8
   clear c8
   obtain ⟨t336,A9,H⟩:=bE H
   by_cases c10 : x4_1 < (x3_1.length : Int); rotate_left
   ·rw [if_neg c10] at H
    exact absurd H (by simp)
   rw [if_pos c10] at H
   have c10b0:=Zd c10
   clear c10
   obtain ⟨y337,hy337⟩ : ∃ y_ : List Bool,y_ = (x3_1.set (x4_1 : Int).toNat t336):=⟨_,rfl⟩
   first | rw [Option.bind_some,<- hy337] at H | rw [<- hy337] at H
   have Ny337:=Zz.k hy337
   clear hy337
   have H':=Zz.k H
   clear H
   try go_wp2
   have n0_:=Zz.k (Kd.R_drew HO_3.out)
   have n1_:=Zz.k (Qae HB.out)
   clear HO_3
   clear HB
   have HO_3:=n0_
   have HB:=n1_
   clear n0_ n1_
   have p333 : 0 <= (x4_1 : Int):=od
   have q333 : x4_1 < (l0.length : Int):=od
   obtain ⟨ad333,A333_7,c333_7,e333,hx333_0,hx333_1,hx333_2,hx333_3,hx333_4,hx333_5,hx333_6,hx333_7,hx333_8,hx333_9,hx333_10,hl333_7,hi333_7⟩:=Qby HR0.out x4_1 p333 q333
   have hw333_10:=hx333_10
   have hw333_9:=hx333_9
   have hw333_8:=hx333_8
   have hw333_7:=hx333_7
   have hw333_6:=hx333_6
   have hw333_5:=hx333_5
   have hw333_4:=hx333_4
   have hw333_3:=hx333_3
   have hw333_2:=hx333_2
   have hw333_1:=hx333_1
   have hw333_0:=hx333_0
   cases e333
   replace hx333_0:=cl HB hx333_0
   replace hx333_1:=cl HB hx333_1
   replace hx333_2:=cl HB hx333_2
   replace hx333_3:=cl HB hx333_3
   replace hx333_4:=cl HB hx333_4
   replace hx333_5:=cl HB hx333_5
   replace hx333_6:=cl HB hx333_6
   replace hx333_7:=cl HB hx333_7
   replace hx333_8:=cl HB hx333_8
   replace hx333_9:=cl HB hx333_9
   replace hx333_10:=cl HB hx333_10
   have HR333_7:=Zz.k hi333_7
   have HC333_7:=Zz.k hl333_7
   clear hi333_7 hl333_7
   replace p333:=eq_true p333
   replace q333:=eq_true q333
   refine start_ (n:=24) (S:=fun w' => Q11 w' (ad333.add ((x4_1).toNat * 11)) (Qad l0 x4_1) A333_7 c333_7) (ds:=[23]) #[false,false,false,false,false,false,false,false,false,false,false,false,false,false,false,false,false,false,false,false,false,false,false,false] (by kernel_rfl) rfl rfl ⟨(cW HB hw333_0),(cW HB hw333_1),(cW HB hw333_2),(cW HB hw333_3),(cW HB hw333_4),(cW HB hw333_5),(cW HB hw333_6),(cW HB hw333_7),(cW HB hw333_8),(cW HB hw333_9),(cW HB hw333_10)⟩ (fun hHeld => ?_); refine Qap r4_Visible.tab5 r4_Visible.bits5 (fun HT_ HW_ => ?_)
   generalize wr.drew = w12 at HO_3 HB HR333_7 HR333_7 HR333_7 hx333_0 hx333_1 hx333_10 hx333_2 hx333_3 hx333_4 hx333_5 hx333_6 hx333_7 hx333_8 hx333_9 hx333_0 hx333_1 hx333_10 hx333_2 hx333_3 hx333_4 hx333_5 hx333_6 hx333_7 hx333_8 hx333_9 hx333_0 hx333_1 hx333_10 hx333_2 hx333_3 hx333_4 hx333_5 hx333_6 hx333_7 hx333_8 hx333_9 hHeld ⊢
   refine Qcb (i:=0) (N:=some 19) (v := ?_) (a' := ?_) #[true,false,false,false,false,false,false,false,false,false,false,false,false,false,false,false,false,false,false,false,false,false,false,false] rfl rfl (Qbm HT_.out (by kernel_rfl)) (fun _ _ _ h => h) (Or.inl ⟨by rfl, ?_⟩) ?_ ?_
   rotate_left
   ·intro w'
    go_simp
    with_reducible rfl
   rotate_left
   ·simp only [Act.put,List.setIfInBounds_toArray,List.set_cons_zero,List.set_cons_succ,Qbc,Qbg]
    rfl
   refine Qcb (i:=1) (N:=some 20) (v := ?_) (a' := ?_) #[true,true,false,false,false,false,false,false,false,false,false,false,false,false,false,false,false,false,false,false,false,false,false,false] rfl rfl (Qbm HT_.out (by kernel_rfl)) (fun _ _ _ h => h) (Or.inl ⟨by rfl, ?_⟩) ?_ ?_
   rotate_left
   ·intro w'
    go_simp
    with_reducible rfl
   rotate_left
   ·simp only [Act.put,List.setIfInBounds_toArray,List.set_cons_zero,List.set_cons_succ,Qbc,Qbg]
    rfl
   refine Qcb (i:=2) (N:=some 21) (v := ?_) (a' := ?_) #[true,true,true,false,false,false,false,false,false,false,false,false,false,false,false,false,false,false,false,false,false,false,false,false] rfl rfl (Qbm HT_.out (by kernel_rfl)) (fun _ _ _ h => h) (Or.inl ⟨by rfl, ?_⟩) ?_ ?_
   rotate_left
   ·intro w'
    go_simp
    with_reducible rfl
   rotate_left
   ·simp only [Act.put,List.setIfInBounds_toArray,List.set_cons_zero,List.set_cons_succ,Qbc,Qbg]
    rfl
   refine Qcb (i:=3) (N:=some 22) (v := ?_) (a' := ?_) #[true,true,true,true,false,false,false,false,false,false,false,false,false,false,false,false,false,false,false,false,false,false,false,false] rfl rfl (Qbm HT_.out (by kernel_rfl)) (fun _ _ _ h => h) (Or.inl ⟨by rfl, ?_⟩) ?_ ?_
   rotate_left
   ·intro w'
    go_simp
    with_reducible rfl
   rotate_left
   ·simp only [Act.put,List.setIfInBounds_toArray,List.set_cons_zero,List.set_cons_succ,Qbc,Qbg]
    rfl
   refine Qcb (i:=4) (N:=some 23) (v := ?_) (a' := ?_) #[true,true,true,true,true,false,false,false,false,false,false,false,false,false,false,false,false,false,false,false,false,false,false,false] rfl rfl (Qbm HT_.out (by kernel_rfl)) (fun _ _ _ h => h) (Or.inl ⟨by rfl, ?_⟩) ?_ ?_
   rotate_left
   ·intro w'
    go_simp
    with_reducible rfl
   rotate_left
   ·simp only [Act.put,List.setIfInBounds_toArray,List.set_cons_zero,List.set_cons_succ,Qbc,Qbg]
    rfl
   refine Qcb (i:=5) (N:=some 24) (v := ?_) (a' := ?_) #[true,true,true,true,true,true,false,false,false,false,false,false,false,false,false,false,false,false,false,false,false,false,false,false] rfl rfl (Qbm HT_.out (by kernel_rfl)) (fun _ _ _ h => h) (Or.inl ⟨by rfl, ?_⟩) ?_ ?_
   rotate_left
   ·intro w'
    go_simp
    with_reducible rfl
   rotate_left
   ·simp only [Act.put,List.setIfInBounds_toArray,List.set_cons_zero,List.set_cons_succ,Qbc,Qbg]
    rfl
   refine take_ (i:=6) (N:=some 25) (v := ?_) (a' := ?_) #[true,true,true,true,true,true,true,false,false,false,false,false,false,false,false,false,false,false,false,false,false,false,false,false] rfl rfl (take_ofW HT_.out HW_.out (by kernel_rfl)) (fun _ _ _ h => h) (Or.inl ⟨by rfl, ?_⟩) hHeld ?_ ?_
   rotate_left
   ·rintro w' ⟨s0,s1,s2,s3,s4,s5,s6,s7,s8,s9,s10⟩
    go_simp
    with_reducible rfl
   rotate_left
   ·simp only [Act.put,List.setIfInBounds_toArray,List.set_cons_zero,List.set_cons_succ,Qbc,Qbg]
    rfl
   refine Qcb (i:=7) (N:=some 26) (v := ?_) (a' := ?_) #[true,true,true,true,true,true,true,true,false,false,false,false,false,false,false,false,false,false,false,false,false,false,false,false] rfl rfl (Qbm HT_.out (by kernel_rfl)) (fun _ _ _ h => h) (Or.inl ⟨by rfl, ?_⟩) ?_ ?_
   rotate_left
   ·intro w'
    go_simp
    with_reducible rfl
   rotate_left
   ·simp only [Act.put,List.setIfInBounds_toArray,List.set_cons_zero,List.set_cons_succ,Qbc,Qbg]
    rfl
   refine Qcb (i:=8) (N:=some 27) (v := ?_) (a' := ?_) #[true,true,true,true,true,true,true,true,true,false,false,false,false,false,false,false,false,false,false,false,false,false,false,false] rfl rfl (Qbm HT_.out (by kernel_rfl)) (fun _ _ _ h => h) (Or.inl ⟨by rfl, ?_⟩) ?_ ?_
   rotate_left
   ·intro w'
    go_simp
    with_reducible rfl
   rotate_left
   ·simp only [Act.put,List.setIfInBounds_toArray,List.set_cons_zero,List.set_cons_succ,Qbc,Qbg]
    rfl
   refine Qcb (i:=9) (N:=some 28) (v := ?_) (a' := ?_) #[true,true,true,true,true,true,true,true,true,true,false,false,false,false,false,false,false,false,false,false,false,false,false,false] rfl rfl (Qbm HT_.out (by kernel_rfl)) (fun _ _ _ h => h) (Or.inl ⟨by rfl, ?_⟩) ?_ ?_
   rotate_left
   ·intro w'
    go_simp
    with_reducible rfl
   rotate_left
   ·simp only [Act.put,List.setIfInBounds_toArray,List.set_cons_zero,List.set_cons_succ,Qbc,Qbg]
    rfl
   refine Qcb (i:=10) (N:=some 29) (v := ?_) (a' := ?_) #[true,true,true,true,true,true,true,true,true,true,true,false,false,false,false,false,false,false,false,false,false,false,false,false] rfl rfl (Qbm HT_.out (by kernel_rfl)) (fun _ _ _ h => h) (Or.inl ⟨by rfl, ?_⟩) ?_ ?_
   rotate_left
   ·intro w'
    go_simp
    with_reducible rfl
   rotate_left
   ·simp only [Act.put,List.setIfInBounds_toArray,List.set_cons_zero,List.set_cons_succ,Qbc,Qbg]
    rfl
   refine Qcb (i:=11) (N:=some 30) (v := ?_) (a' := ?_) #[true,true,true,true,true,true,true,true,true,true,true,true,false,false,false,false,false,false,false,false,false,false,false,false] rfl rfl (Qbm HT_.out (by kernel_rfl)) (fun _ _ _ h => h) (Or.inl ⟨by rfl, ?_⟩) ?_ ?_
   rotate_left
   ·intro w'
    go_simp
    with_reducible rfl
   rotate_left
   ·simp only [Act.put,List.setIfInBounds_toArray,List.set_cons_zero,List.set_cons_succ,Qbc,Qbg]
    rfl
   refine Qcb (i:=12) (N:=some 31) (v := ?_) (a' := ?_) #[true,true,true,true,true,true,true,true,true,true,true,true,true,false,false,false,false,false,false,false,false,false,false,false] rfl rfl (Qbm HT_.out (by kernel_rfl)) (fun _ _ _ h => h) (Or.inl ⟨by rfl, ?_⟩) ?_ ?_
   rotate_left
   ·intro w'
    go_simp
    with_reducible rfl
   rotate_left
   ·simp only [Act.put,List.setIfInBounds_toArray,List.set_cons_zero,List.set_cons_succ,Qbc,Qbg]
    rfl
   refine Qcb (i:=13) (N:=some 32) (v := ?_) (a' := ?_) #[true,true,true,true,true,true,true,true,true,true,true,true,true,true,false,false,false,false,false,false,false,false,false,false] rfl rfl (Qbm HT_.out (by kernel_rfl)) (fun _ _ _ h => h) (Or.inl ⟨by rfl, ?_⟩) ?_ ?_
   rotate_left
   ·intro w'
    go_simp
    with_reducible rfl
   rotate_left
   ·simp only [Act.put,List.setIfInBounds_toArray,List.set_cons_zero,List.set_cons_succ,Qbc,Qbg]
    rfl
   refine Qcb (i:=15) (N:=some 34) (v := ?_) (a' := ?_) #[true,true,true,true,true,true,true,true,true,true,true,true,true,true,false,true,false,false,false,false,false,false,false,false] rfl rfl (Qbm HT_.out (by kernel_rfl)) (fun _ _ _ h => h) (Or.inl ⟨by rfl, ?_⟩) ?_ ?_
   rotate_left
   ·intro w'
    go_simp
    with_reducible rfl
   rotate_left
   ·simp only [Act.put,List.setIfInBounds_toArray,List.set_cons_zero,List.set_cons_succ,Qbc,Qbg]
    rfl
   refine Qcb (i:=16) (N:=some 35) (v := ?_) (a' := ?_) #[true,true,true,true,true,true,true,true,true,true,true,true,true,true,false,true,true,false,false,false,false,false,false,false] rfl rfl (Qbm HT_.out (by kernel_rfl)) (fun _ _ _ h => h) (Or.inl ⟨by rfl, ?_⟩) ?_ ?_
   rotate_left
   ·intro w'
    go_simp
    with_reducible rfl
   rotate_left
   ·simp only [Act.put,List.setIfInBounds_toArray,List.set_cons_zero,List.set_cons_succ,Qbc,Qbg]
    rfl
   refine Qcb (i:=17) (N:=some 36) (v := ?_) (a' := ?_) #[true,true,true,true,true,true,true,true,true,true,true,true,true,true,false,true,true,true,false,false,false,false,false,false] rfl rfl (Qbm HT_.out (by kernel_rfl)) (fun _ _ _ h => h) (Or.inl ⟨by rfl, ?_⟩) ?_ ?_
   rotate_left
   ·intro w'
    go_simp
    with_reducible rfl
   rotate_left
   ·simp only [Act.put,List.setIfInBounds_toArray,List.set_cons_zero,List.set_cons_succ,Qbc,Qbg]
    rfl
   refine Qcb (i:=18) (N:=some 37) (v := ?_) (a' := ?_) #[true,true,true,true,true,true,true,true,true,true,true,true,true,true,false,true,true,true,true,false,false,false,false,false] rfl rfl (Qbm HT_.out (by kernel_rfl)) (fun _ _ _ h => h) (Or.inl ⟨by rfl, ?_⟩) ?_ ?_
   rotate_left
   ·intro w'
    go_simp
    with_reducible rfl
   rotate_left
   ·simp only [Act.put,List.setIfInBounds_toArray,List.set_cons_zero,List.set_cons_succ,Qbc,Qbg]
    rfl
   refine take_ (i:=14) (N:=some 33) (v := ?_) (a' := ?_) #[true,true,true,true,true,true,true,true,true,true,true,true,true,true,true,true,true,true,true,false,false,false,false,false] rfl rfl (take_ofW HT_.out HW_.out (by kernel_rfl)) (fun _ _ _ h => h) (Or.inl ⟨by rfl, ?_⟩) hHeld ?_ ?_
   rotate_left
   ·rintro w' ⟨s0,s1,s2,s3,s4,s5,s6,s7,s8,s9,s10⟩
    go_simp
    with_reducible rfl
   rotate_left
   ·simp only [Act.put,List.setIfInBounds_toArray,List.set_cons_zero,List.set_cons_succ,Qbc,Qbg]
    rfl
   refine take_ (i:=19) (N:=some 38) (v := ?_) (a' := ?_) #[true,true,true,true,true,true,true,true,true,true,true,true,true,true,true,true,true,true,true,true,false,false,false,false] rfl rfl (take_ofW HT_.out HW_.out (by kernel_rfl)) (fun _ _ _ h => h) (Or.inl ⟨by rfl, ?_⟩) hHeld ?_ ?_
   rotate_left
   ·rintro w' ⟨s0,s1,s2,s3,s4,s5,s6,s7,s8,s9,s10⟩
    go_simp
    with_reducible rfl
   rotate_left
   ·simp only [Act.put,List.setIfInBounds_toArray,List.set_cons_zero,List.set_cons_succ,Qbc,Qbg]
    rfl
   refine one_ (i:=20) (N:=some 39) #[true,true,true,true,true,true,true,true,true,true,true,true,true,true,true,true,true,true,true,true,true,false,false,false] rfl rfl (one_of HT_.out (by kernel_rfl)) (by decide) (fun K hK => ?_)
   refine gS Tryz.func30 #[.slice (some ad333) l0.length c0, .int .i64 ((Qad l0 x4_1).f0), .int .i64 ((Qad l0 x4_1).f1)] (h := ?_)
   with_reducible refine (r4_Effective.calls k1 _ _ l0 ((Qad l0 x4_1).f0) ((Qad l0 x4_1).f1) t336 _ ?side1 ?side2 A9.out).mono ?_
   (case side1 => exact cb HR0 HB)
   (case side2 => exact HC0.out)
   rintro e w' ⟨rfl,⟨nd,rfl⟩⟩
   refine ⟨_,rfl, ?_⟩
   have p11 : 0 <= (x4_1 : Int):=od
   have q11 : (x4_1 : Int) < ((x3_1.length : Int) : Int):=od
   obtain ⟨go11,co11,eo11,gb11,gl11,cl11,HG11⟩:=Kd.R_form HO_3.out (by omega)
   (first | cases eo11 | (injection eo11 with ea_ en_ ec_; (first | subst ea_ | (injection ea_ with ea_; subst ea_)); subst ec_; clear en_))
   have GB11:=Zz.k gb11
   have GG11:=Zz.k HG11
   clear gb11 gl11 HG11
   obtain ⟨hx11_0,hf11_0⟩:=Kd.R_celln false HO_3.out (x4_1 : Int) p11 q11
   replace p11:=eq_true p11
   replace q11:=eq_true q11
   have HP13:=Kd.R_putn HO_3.out (x4_1 : Int) t336
   rw [<- Ny337.out] at HP13
   have HQ13:=Zz.k HP13
   clear HP13
   refine hK.out _ _ ⟨(cW HB hw333_0),(cW HB hw333_1),(cW HB hw333_2),(cW HB hw333_3),(cW HB hw333_4),(cW HB hw333_5),(cW HB hw333_6),(cW HB hw333_7),(cW HB hw333_8),(cW HB hw333_9),(cW HB hw333_10)⟩ (fun hHeld => ?_)
   clear hK K
   refine norm_ (a' := ?_) ?_ ?_
   rotate_left
   ·show Act.put _ (some 39) _ = _
    simp only [Act.put,List.setIfInBounds_toArray,List.set_cons_zero,List.set_cons_succ,Qbc,Qbg]
    rfl
   refine Qcb (i:=21) (N:=some 40) (v := ?_) (a' := ?_) #[true,true,true,true,true,true,true,true,true,true,true,true,true,true,true,true,true,true,true,true,true,true,false,false] rfl rfl (Qbm HT_.out (by kernel_rfl)) (fun _ _ _ h => h) (Or.inl ⟨by rfl, ?_⟩) ?_ ?_
   rotate_left
   ·intro w'
    go_simp
    with_reducible rfl
   rotate_left
   ·simp only [Act.put,List.setIfInBounds_toArray,List.set_cons_zero,List.set_cons_succ,Qbc,Qbg]
    rfl
   refine Qcb (i:=22) (N:=some 41) (v := ?_) (a' := ?_) #[true,true,true,true,true,true,true,true,true,true,true,true,true,true,true,true,true,true,true,true,true,true,true,false] rfl rfl (Qbm HT_.out (by kernel_rfl)) (fun _ _ _ h => h) (Or.inl ⟨by rfl, ?_⟩) ?_ ?_
   rotate_left
   ·intro w'
    go_simp
    with_reducible rfl
   rotate_left
   ·simp only [Act.put,List.setIfInBounds_toArray,List.set_cons_zero,List.set_cons_succ,Qbc,Qbg]
    rfl
   refine last_ (i:=23) (N:=none) #[true,true,true,true,true,true,true,true,true,true,true,true,true,true,true,true,true,true,true,true,true,true,true,true] rfl rfl (one_of HT_.out (by kernel_rfl)) (by decide) (fun K hK => ?_)
   refine skip_ (w1 := ?_) (by rfl) rfl ?_ ?_
   rotate_left
   ·go_simp
    rfl
   refine hK.out _ _ ?_
   clear hK K
   refine done_ (done_of HT_.out (by kernel_rfl)) ?_
   try go_wp2
   go_roundg k1
   case measure => have:=HK1.out; omega
   case rel => exact ⟨(y337),(wrap64 (x4_1 + 1)),rf,H',⟨by have:=HK1.out; omega⟩,⟨rk HQ13⟩,⟨by repeat (first | (with_reducible first | exact HB.out | apply Qag | apply Qbf | apply Qae | refine Qbw ?_ GB11.out) | exact HB.out)⟩⟩
end
section
attribute [local go_sem] Qbl Qbj Qbp Qbo Qba Qaz Qbk Qbi
mutual
def w5_Elems.j0 : Nat -> List (SOp) -> List (SElem) -> Option ((List (SElem)))
 | 0,_,_ => none
 | k + 1,x1,x5 => w5_Elems.l0 k x1 x5 0
def w5_Elems.l0 : Nat -> List (SOp) -> List (SElem) -> Int -> Option ((List (SElem)))
 | 0,_,_,_ => none
 | k + 1,x1,x5,x6 => if x6 < (x1.length : Int) then (if x6 < 40 then (if 0 <= x6 then (if x5.length < 5864062014805 then (w5_Elems.l0 k x1 (x5 ++ [(⟨(Qad x1 x6).f0,(Qad x1 x6).f1,Int.tmod x6 3⟩ : SElem)]) (wrap64 (x6 + 1))) else (none)) else (none)) else (some x5)) else (some x5)
end
def w5_Elems.f (k : Nat) (l0_0 : List (List (SOp))) (l0_1 : List (SElem)) (l0_2 : List (SOp)) (l0_3 : List Int) (l1 : List (SOp)) : Option ((List (SElem))):=(some (([(⟨0,0,0⟩ : SElem)] : List (SElem)) : List (SElem))).bind fun y361 => (if y361.length + l0_1.length < 5864062014805 then ((some (y361 ++ l0_1 : List (SElem))).bind fun y364 => (if (y364.length : Int) > 6 then (if 6 <= (y364.length : Int) then (w5_Elems.j0 k l1 (y364.take (6 : Int).toNat)) else (none)) else (w5_Elems.j0 k l1 y364))) else (none))
def w5_Elems.T7 : Bool × List (List Nat × List Nat):=(true,[([],[]),([],[]),([],[]),([1,2],[1,2]),([3],[3]),([4],[4]),([],[]),([],[]),([6,7],[6,7]),([8],[8]),([9],[9]),([],[]),([11],[11]),([5,10,12],[5,10,12]),([13],[13]),([0,14],[0,14]),([15,15,0,1,2,3,4,5,6,7,8,9,10,11,12,13,14,15],[0,15])])
def w5_Elems.B7 : List Nat:=[0,0,0,6,14,30,0,0,192,448,960,0,2048,8190,16382,32767,65535]
theorem w5_Elems.tab7 : rtab .any (Qcj Tryz.f11 7) = w5_Elems.T7:=by kernel_rfl
theorem w5_Elems.bits7 : Qau w5_Elems.T7.2 w5_Elems.B7 = true:=by kernel_rfl
theorem w5_Elems.calls (k : Nat) (A0_0 : Option Addr) (c0_0 : Nat) (l0_0 : List (List (SOp))) (A0_1 : Option Addr) (c0_1 : Nat) (l0_1 : List (SElem)) (A0_2 : Option Addr) (c0_2 : Nat) (l0_2 : List (SOp)) (A0_3 : Option Addr) (c0_3 : Nat) (l0_3 : List Int) (A1 : Option Addr) (c1 : Nat) (l1 : List (SOp)) (r : List (SElem)) (w : World) (hr0_0 : Kd.C (Kd.slice 64 kOp) w A0_0 l0_0.length l0_0) (hc0_0 : l0_0.length <= c0_0) (hr0_1 : Kd.C Qao w A0_1 l0_1.length l0_1) (hc0_1 : l0_1.length <= c0_1) (hr0_2 : Kd.C kOp w A0_2 l0_2.length l0_2) (hc0_2 : l0_2.length <= c0_2) (hr0_3 : Kd.C (Kd.int .i64) w A0_3 l0_3.length l0_3) (hc0_3 : l0_3.length <= c0_3) (hr1 : Kd.C kOp w A1 l1.length l1) (hc1 : l1.length <= c1) (h : w5_Elems.f k l0_0 l0_1 l0_2 l0_3 l1 = some r) :
  Calls Tryz.prog 11 #[.agg #[.slice A0_0 l0_0.length c0_0, .slice A0_1 l0_1.length c0_1, .slice A0_2 l0_2.length c0_2, .slice A0_3 l0_3.length c0_3], .slice A1 l1.length c1] w fun e w' => ∃ v0_ : Value,e = .returned (v0_) /\ Kd.R Qao 32 w' w.heap.size (fun _ => True) v0_ r /\ Below w.heap.size w w':=by
 have hu27:=Tryz.underlying27
 have hu32:=Tryz.underlying32
 have HR0_0:=Zz.k hr0_0
 have HC0_0:=Zz.k hc0_0
 clear hr0_0 hc0_0
 have HR0_1:=Zz.k hr0_1
 have HC0_1:=Zz.k hc0_1
 clear hr0_1 hc0_1
 have HR0_2:=Zz.k hr0_2
 have HC0_2:=Zz.k hc0_2
 clear hr0_2 hc0_2
 have HR0_3:=Zz.k hr0_3
 have HC0_3:=Zz.k hc0_3
 clear hr0_3 hc0_3
 have HR1:=Zz.k hr1
 have HC1:=Zz.k hc1
 clear hr1 hc1
 have HB:=Zz.k (Below.refl w.heap.size w)
 unfold w5_Elems.f at h; have H:=h
 clear h
 obtain ⟨y361,hy361⟩ : ∃ y_ : List (SElem),y_ = (([(⟨0,0,0⟩ : SElem)] : List (SElem))):=⟨_,rfl⟩
 first | rw [Option.bind_some,<- hy361] at H | rw [<- hy361] at H
 have Ny361:=Zz.k hy361
 clear hy361
 by_cases c3 : y361.length + l0_1.length < 5864062014805; rotate_left
 ·rw [if_neg c3] at H
  exact absurd H (by simp)
 rw [if_pos c3] at H
 have LMc3:=Zz.k c3
 clear c3
 obtain ⟨y364,hy364⟩ : ∃ y_ : List (SElem),y_ = (y361 ++ l0_1):=⟨_,rfl⟩
 first | rw [Option.bind_some,<- hy364] at H | rw [<- hy364] at H
 have Ny364:=Zz.k hy364
 clear hy364
 have HC4:=Zz.k H
 clear H
 go_enter Tryz.func11,Tryz.ntmps11
 go_upto_if 14 with (first | ((with_reducible refine Qaf (N:=2) rfl ?_); refine bx 2 #[.slice A0_0 l0_0.length c0_0, .slice A0_1 l0_1.length c0_1, .slice A0_2 l0_2.length c0_2, .slice A0_3 l0_3.length c0_3] 27 (h := ?_); intro gb360 hg w5 hbox hb; have BK360:=Zz.k (hbox); have GW360:=bz HB hg; have GE360:=bz HB hg; replace HB:=bs HB hb; clear hb hbox hg) | ((with_reducible refine Qaf (N:=8) rfl ?_); refine Kd.R_lit Qao _ 32 ?hg (N:=8) ?hd (xs:=([(⟨0,0,0⟩ : SElem)] : List (SElem))) (inner:=[.int .i64 0, .int .i64 0, .int .i64 0]) (ok:=fun _ => True) (okp:=fun _ => True) ?hr ?hp (fun _ hk => hk) trivial (Below.refl _ _) (Nat.le_refl _) (by simp) ?_; (case hd => rfl); (case hg => rfl); (case hr => first | (go_simp; done) | (go_simp; rfl)); (case hp => exact (Reps.c3 (show Kd.M Qao _ _ _ (⟨0,0,0⟩ : SElem) [.int .i64 0, .int .i64 0, .int .i64 0] from (Qcc _ _ _ (⟨0,0,0⟩ : SElem) )) (Reps.none _ _))); intro v362 w6 ho7 hb hg_ hnew_; clear hg_ hnew_; (first | rw [<- Ny361.out] at ho7 | (simp only [Int.reduceToNat] at ho7; rw [<- Ny361.out] at ho7)); have HO363:=Zz.k (Kd.R_lower ho7 (Qaj (bw HB))); replace BK360:=bl BK360 hb; replace HB:=bs HB hb; clear hb ho7; obtain ⟨_,_,_,_,_,_,_,_⟩:=kc4 BK360) | ((with_reducible refine Qbs (b:=.append) (xs:=#[.tmp 8, .tmp 10]) rfl ?_); at_builtin; refine Kd.R_append_rows Qao (w0:=w) w.heap.size rfl (.tmp 8) (.tmp 10) 23 32 (.agg #[(.int .i64 0),(.int .i64 0),(.int .i64 0)]) 24 rfl Tryz.underlying23 info32 rfl (by decide) (by omega) v362 y361 l0_1 _ _ _ (fun _ => True) (fun _ => False) rfl rfl ?aO ?aR (fun _ _ h => h) (fun _ h => h.elim) ?aF ?aB ?aS ?aL ?_; (case aR => exact cb HR0_1 HB); (case aB => exact (bw HB)); (case aF => exact (fun _ _ => trivial)); (case aO => exact (rk HO363)); (case aS => exact (Qaj (bw HB))); (case aL => have:=LMc3.out; omega); intro v365 w9 ho hb hg hat; rw [<- Ny364.out] at ho; have n0_:=Zz.k (Qcm (kk BK360) hg (Kd.R_ne HO363.out BK360.out (by decide))); have n1_:=Zz.k (hb); have n2_:=Zz.k (ho); clear BK360; clear HB; clear HO363; have BK360:=n0_; have HB:=n1_; have HO366:=n2_; clear n0_ n1_ n2_; clear ho hb hg hat; obtain ⟨Ao10,co10,eo10⟩:=Kd.R_slice HO366.out; subst eo10))
 (try simp only [Act.put,List.setIfInBounds_toArray,List.set_cons_zero,List.set_cons_succ])
 go_cut [5] (fun v5 wc => ∃ (kq : Nat) (x5_3 : List (SElem)),Zz (w5_Elems.j0 kq l1 x5_3 = some r) /\ Zz (kq <= k) /\ Zz (Kd.R Qao 32 wc w.heap.size (fun _ => True) v5 x5_3) /\ Zz (wc.heap[gb360]? = some (.cells #[(.slice A0_0 l0_0.length c0_0),(.slice A0_1 l0_1.length c0_1),(.slice A0_2 l0_2.length c0_2),(.slice A0_3 l0_3.length c0_3)] 27 (0,0))) /\ Zz (Below w.heap.size w wc))
 case first =>
  have H:=HC4.out
  clear HC4
  by_cases c11 : (y364.length : Int) > 6; rotate_left
  ·rw [if_neg c11] at H
   have c11b0:=Ze c11
   have c11b1 : decide (6 < y364.length) = false:=Ze (by omega)
   clear c11
   (first | rw [c11b0] | (simp only [Qbc,Qbg]; rw [c11b0]) | skip)
   have H':=Zz.k H
   clear H
   go_wp2
   go_meet
   case rel => exact ⟨_,(y364),H',⟨by first | omega | exact Nat.le_refl _⟩,⟨rk HO366⟩,⟨kk BK360⟩,⟨bw HB⟩⟩
  rw [if_pos c11] at H
  have c11b0:=Zd c11
  have c11b1 : decide (6 < y364.length) = true:=Zd (by omega)
  clear c11
  (first | rw [c11b0] | (simp only [Qbc,Qbg]; rw [c11b0]) | skip)
  by_cases c12 : 6 <= (y364.length : Int); rotate_left
  ·rw [if_neg c12] at H
   exact absurd H (by simp)
  rw [if_pos c12] at H
  have c12b0:=eq_true c12
  have c12b1:=Zd c12
  clear c12
  obtain ⟨y367,hy367⟩ : ∃ y_ : List (SElem),y_ = (y364.take (6 : Int).toNat):=⟨_,rfl⟩
  first | rw [Option.bind_some,<- hy367] at H | rw [<- hy367] at H
  have Ny367:=Zz.k hy367
  clear hy367
  have H':=Zz.k H
  clear H
  have q13 : (6 : Int) <= ((y364.length : Int) : Int):=od
  obtain ⟨i013,hi013,_,hsz13,_⟩:=info_parts info32
  have hcut13:=cut_to (P:=Tryz.prog) 23 32 .i64 Tryz.underlying23 hi013 Ao10 y364.length co10 6 (by omega) q13 (Kd.R_reads' HO366.out).2.1
  have hr13:=Kd.R_take (m:=(6 : Int).toNat) HO366.out (by omega)
  have hy13 : y367.length = (6 : Int).toNat:=(by rw [Ny367.out,List.length_take]; omega)
  rw [<- Ny367.out] at hr13
  rw [<- hy13] at hr13 hcut13
  clear hy13 hi013 hsz13 HO366
  have HO369:=Zz.k hr13
  clear hr13
  replace q13:=eq_true q13
  go_wp2
  go_meet
  case rel => exact ⟨_,(y367),H',⟨by first | omega | exact Nat.le_refl _⟩,⟨rk HO369⟩,⟨kk BK360⟩,⟨bw HB⟩⟩
 case rest =>
  clear HC4
  try clear c1
  obtain ⟨kq,x5_3,HA,HJ3,HO_5,BK360,HB⟩:=hcut
  cases kq with
  | zero => exact absurd HA.out (by simp [w5_Elems.j0])
  | succ kj3 =>
   have H:=HA.out
   clear HA
   simp only [w5_Elems.j0] at H
   have H':=Zz.k H
   clear H
   go_wp2
   go_loopg [5,6] kj3 (fun kq v5 v6 w' => ∃ (x5_2 : List (SElem)) (x6_2 : Int),v6 = .int .i64 x6_2 /\ Zz (w5_Elems.l0 kq l1 x5_2 x6_2 = some r) /\ Zz (kq <= kj3) /\ Zz (Kd.R Qao 32 w' w.heap.size (fun _ => True) v5 x5_2) /\ Zz (w'.heap[gb360]? = some (.cells #[(.slice A0_0 l0_0.length c0_0),(.slice A0_1 l0_1.length c0_1),(.slice A0_2 l0_2.length c0_2),(.slice A0_3 l0_3.length c0_3)] 27 (0,0))) /\ Zz (Below w.heap.size w w'))
   case atStart => exact ⟨(x5_3),(0),rf,H',⟨Nat.le_refl _⟩,⟨rk HO_5⟩,⟨kk BK360⟩,⟨bw HB⟩⟩
   case round =>
    clear H'
    obtain ⟨x5_2,x6_2,rfl,HA,HK2,HO_5,BK360,HB⟩:=hrel
    cases gk with
    | zero => exact absurd HA.out (by simp [w5_Elems.l0])
    | succ k2 =>
     have H:=HA.out
     clear HA
     simp only [w5_Elems.l0] at H
     by_cases c14 : x6_2 < (l1.length : Int); rotate_left
     ·rw [if_neg c14] at H
      have c14b0:=Ze c14
      clear c14
      obtain rfl:=Zo H
      go_wp2
      go_ret
      exact ⟨_,re,by (with_reducible repeat (first | apply Kd.R_alloc | apply Kd.R_drewN | apply Kd.R_drew)); exact HO_5.out,bw HB⟩
     rw [if_pos c14] at H
     have c14b0:=Zd c14
     clear c14
     by_cases c15 : x6_2 < 40; rotate_left
     ·rw [if_neg c15] at H
      have c15b0:=Ze c15
      clear c15
      obtain rfl:=Zo H
      go_wp2
      go_ret
      exact ⟨_,re,by (with_reducible repeat (first | apply Kd.R_alloc | apply Kd.R_drewN | apply Kd.R_drew)); exact HO_5.out,bw HB⟩
     rw [if_pos c15] at H
     have c15b0:=Zd c15
     clear c15
     by_cases c16 : 0 <= x6_2; rotate_left
     ·rw [if_neg c16] at H
      exact absurd H (by simp)
     rw [if_pos c16] at H
     have c16b0:=Zd c16
     clear c16
     by_cases c17 : x5_2.length < 5864062014805; rotate_left
     ·rw [if_neg c17] at H
      exact absurd H (by simp)
     rw [if_pos c17] at H
     have LMc17:=Zz.k c17
     clear c17
     obtain ⟨y372,hy372⟩ : ∃ y_ : List (SElem),y_ = (x5_2 ++ [(⟨(Qad l1 x6_2).f0,(Qad l1 x6_2).f1,Int.tmod x6_2 3⟩ : SElem)]):=⟨_,rfl⟩
     first | rw [Option.bind_some,<- hy372] at H | rw [<- hy372] at H
     have Ny372:=Zz.k hy372
     clear hy372
     have H':=Zz.k H
     clear H
     try go_wp2
     have n0_:=Zz.k (Kd.R_drew HO_5.out)
     have n1_:=Zz.k (Qal BK360.out)
     have n2_:=Zz.k (Qae HB.out)
     clear HO_5
     clear BK360
     clear HB
     have HO_5:=n0_
     have BK360:=n1_
     have HB:=n2_
     clear n0_ n1_ n2_
     have p370 : 0 <= (x6_2 : Int):=od
     have q370 : x6_2 < (l1.length : Int):=od
     obtain ⟨ad370,A370_7,c370_7,e370,hx370_0,hx370_1,hx370_2,hx370_3,hx370_4,hx370_5,hx370_6,hx370_7,hx370_8,hx370_9,hx370_10,hl370_7,hi370_7⟩:=Qby HR1.out x6_2 p370 q370
     have hw370_10:=hx370_10
     have hw370_9:=hx370_9
     have hw370_8:=hx370_8
     have hw370_7:=hx370_7
     have hw370_6:=hx370_6
     have hw370_5:=hx370_5
     have hw370_4:=hx370_4
     have hw370_3:=hx370_3
     have hw370_2:=hx370_2
     have hw370_1:=hx370_1
     have hw370_0:=hx370_0
     cases e370
     replace hx370_0:=cl HB hx370_0
     replace hx370_1:=cl HB hx370_1
     replace hx370_2:=cl HB hx370_2
     replace hx370_3:=cl HB hx370_3
     replace hx370_4:=cl HB hx370_4
     replace hx370_5:=cl HB hx370_5
     replace hx370_6:=cl HB hx370_6
     replace hx370_7:=cl HB hx370_7
     replace hx370_8:=cl HB hx370_8
     replace hx370_9:=cl HB hx370_9
     replace hx370_10:=cl HB hx370_10
     have HR370_7:=Zz.k hi370_7
     have HC370_7:=Zz.k hl370_7
     clear hi370_7 hl370_7
     replace p370:=eq_true p370
     replace q370:=eq_true q370
     refine stP (fun w' => Q11 w' (ad370.add ((x6_2).toNat * 11)) (Qad l1 x6_2) A370_7 c370_7) 17 ⟨(cW HB hw370_0),(cW HB hw370_1),(cW HB hw370_2),(cW HB hw370_3),(cW HB hw370_4),(cW HB hw370_5),(cW HB hw370_6),(cW HB hw370_7),(cW HB hw370_8),(cW HB hw370_9),(cW HB hw370_10)⟩ (h:=fun hHeld => ?_); refine Qap w5_Elems.tab7 w5_Elems.bits7 (fun HT_ HW_ => ?_)
     generalize wr.drew = w18 at HO_5 BK360 HB HR370_7 HR370_7 hx370_0 hx370_1 hx370_10 hx370_2 hx370_3 hx370_4 hx370_5 hx370_6 hx370_7 hx370_8 hx370_9 hx370_0 hx370_1 hx370_10 hx370_2 hx370_3 hx370_4 hx370_5 hx370_6 hx370_7 hx370_8 hx370_9 hHeld ⊢
     refine pu HT_ 0 27 1 (h := ?_)
     refine pu HT_ 1 28 3 (h := ?_)
     refine pu HT_ 2 29 7 (h := ?_)
     refine pu HT_ 3 30 15 (h := ?_)
     refine pu HT_ 4 31 31 (h := ?_)
     refine pu HT_ 6 33 95 (h := ?_)
     refine pu HT_ 7 34 223 (h := ?_)
     refine pu HT_ 8 35 479 (h := ?_)
     refine pu HT_ 9 36 991 (h := ?_)
     refine pu HT_ 11 38 3039 (h := ?_)
     refine pu HT_ 12 39 7135 (h := ?_)
     refine tk HT_ HW_ hHeld 5 32 7167 (h := ?_)
     refine tk HT_ HW_ hHeld 10 37 8191 (h := ?_)
     refine pu HT_ 13 40 16383 (h := ?_)
     refine on HT_ 14 (some 41) 32767 (h:=fun K hK => ?_)
     refine value_ (w1 := ?_) (v := ?_) (by rfl) rfl ?_ ?_
     rotate_left 2
     ·go_simp
      constructor
      ·rfl
      rfl
     refine hK.out _ _ ⟨(World.cell?_alloc_lt _ _ _ (World.block_lt_of_cell? _ _ ((cW HB hw370_0)))).trans ((cW HB hw370_0)),(World.cell?_alloc_lt _ _ _ (World.block_lt_of_cell? _ _ ((cW HB hw370_1)))).trans ((cW HB hw370_1)),(World.cell?_alloc_lt _ _ _ (World.block_lt_of_cell? _ _ ((cW HB hw370_2)))).trans ((cW HB hw370_2)),(World.cell?_alloc_lt _ _ _ (World.block_lt_of_cell? _ _ ((cW HB hw370_3)))).trans ((cW HB hw370_3)),(World.cell?_alloc_lt _ _ _ (World.block_lt_of_cell? _ _ ((cW HB hw370_4)))).trans ((cW HB hw370_4)),(World.cell?_alloc_lt _ _ _ (World.block_lt_of_cell? _ _ ((cW HB hw370_5)))).trans ((cW HB hw370_5)),(World.cell?_alloc_lt _ _ _ (World.block_lt_of_cell? _ _ ((cW HB hw370_6)))).trans ((cW HB hw370_6)),(World.cell?_alloc_lt _ _ _ (World.block_lt_of_cell? _ _ ((cW HB hw370_7)))).trans ((cW HB hw370_7)),(World.cell?_alloc_lt _ _ _ (World.block_lt_of_cell? _ _ ((cW HB hw370_8)))).trans ((cW HB hw370_8)),(World.cell?_alloc_lt _ _ _ (World.block_lt_of_cell? _ _ ((cW HB hw370_9)))).trans ((cW HB hw370_9)),(World.cell?_alloc_lt _ _ _ (World.block_lt_of_cell? _ _ ((cW HB hw370_10)))).trans ((cW HB hw370_10))⟩ (fun hHeld => ?_)
     clear hK K
     refine nn 41 (h := ?_)
     refine on HT_ 15 (some 42) 65535 (h:=fun K hK => ?_)
     refine Kd.R_append_step Qao (w0:=w) w.heap.size (by rfl) (.tmp 27) (.tmp 41) 23 32 (.agg #[(.int .i64 0),(.int .i64 0),(.int .i64 0)]) 24 rfl Tryz.underlying23 info32 rfl (by decide) (by omega) u5 x5_2 (⟨(Qad l1 x6_2).f0,(Qad l1 x6_2).f1,Int.tmod x6_2 3⟩ : SElem) [.int .i64 ((Qad l1 x6_2).f0), .int .i64 ((Qad l1 x6_2).f1), .int .i64 (Int.tmod x6_2 3)] (fun _ => True) (fun _ => False) rfl rfl ?aP (fun _ hk => hk.elim) ?aF ?aO ?aB ?aS ?aL ?_
     (case aP => exact Qcc _ _ _ (⟨(Qad l1 x6_2).f0,(Qad l1 x6_2).f1,Int.tmod x6_2 3⟩ : SElem))
     (case aB => exact (bw HB))
     (case aF => exact (fun _ _ => trivial))
     (case aO => exact (rk HO_5))
     (case aS => exact (Qaj (bw HB)))
     (case aL => have:=LMc17.out; omega)
     intro v373 w19 ho hb hg hat
     rw [<- Ny372.out] at ho
     have n0_:=Zz.k (Qcm (kk BK360) hg (Kd.R_ne HO_5.out BK360.out (by decide)))
     have n1_:=Zz.k (hb)
     have n2_:=Zz.k (ho)
     clear BK360
     clear HB
     clear HO_5
     have BK360:=n0_
     have HB:=n1_
     have HO374:=n2_
     clear n0_ n1_ n2_
     clear ho hb hg hat
     refine hK.out _ _ ⟨(cW HB hw370_0),(cW HB hw370_1),(cW HB hw370_2),(cW HB hw370_3),(cW HB hw370_4),(cW HB hw370_5),(cW HB hw370_6),(cW HB hw370_7),(cW HB hw370_8),(cW HB hw370_9),(cW HB hw370_10)⟩ (fun hHeld => ?_)
     clear hK K
     refine nn 42 (h := ?_)
     refine pu HT_ 16 5 131071 (h := ?_)
     refine dn HT_ (h := ?_)
     try go_wp2
     go_roundg k2
     case measure => have:=HJ3.out; have:=HK2.out; omega
     case rel => exact ⟨(y372),(wrap64 (x6_2 + 1)),rf,H',⟨by have:=HJ3.out; have:=HK2.out; omega⟩,⟨rk HO374⟩,⟨kk BK360⟩,⟨bw HB⟩⟩
end
section
attribute [local go_sem] Qbl Qbj Qbp Qbo Qba Qaz Qbk Qbi
attribute [local go_sem high] Qdi
def tree_Written.f (l0 : List (SOp)) (a1_0 : Int) (a1_1 : Int) (a1_2 : Int) : Option (Bool):=(tree_Find.f l0 a1_0 a1_1).bind fun t376 => (if t376 >= 0 then (if a1_2 >= 0 then (if 0 <= t376 then (if t376 < (l0.length : Int) then ((op_Size.f ((Qad l0 t376).f0) ((Qad l0 t376).f1) ((Qad l0 t376).f2) ((Qad l0 t376).f3.f0) ((Qad l0 t376).f3.f1) ((Qad l0 t376).f3.f2) ((Qad l0 t376).f4) ((Qad l0 t376).f5) ((Qad l0 t376).f6) ((Qad l0 t376).f7) ((Qad l0 t376).f8)).bind fun t378 => (some (decide (a1_2 < t378)))) else (none)) else (none)) else (some false)) else (some false))
def tree_Written.T2 : Bool × List (List Nat × List Nat):=(true,[([],[]),([0],[0]),([1],[1]),([2],[2]),([3,2],[2,3]),([4,2],[2,4]),([2,5],[2,5]),([6,2],[6]),([7],[7]),([8,7],[7,8]),([7],[7]),([7],[7]),([10,11,7],[7,10,11]),([12,7],[7,12]),([13,7,7],[7,13]),([9,14,7],[7,9,14]),([7,15],[7,15]),([16,14,0,1,2,3,4,5,6,7,8,9,10,11,12,13,14,15,16],[16])])
def tree_Written.B2 : List Nat:=[0,1,3,7,15,31,63,127,255,511,255,255,3327,7423,15615,32767,65535,131071]
theorem tree_Written.tab2 : rtab .any (Qcj Tryz.f57 2) = tree_Written.T2:=by kernel_rfl
theorem tree_Written.bits2 : Qau tree_Written.T2.2 tree_Written.B2 = true:=by kernel_rfl
theorem tree_Written.calls (A0 : Option Addr) (c0 : Nat) (l0 : List (SOp)) (a1_0 : Int) (a1_1 : Int) (a1_2 : Int) (r : Bool) (w : World) (hr0 : Kd.C kOp w A0 l0.length l0) (hc0 : l0.length <= c0) (h : tree_Written.f l0 a1_0 a1_1 a1_2 = some r) :
  Calls Tryz.prog 57 #[.slice A0 l0.length c0, .agg #[.int .i64 a1_0, .int .i64 a1_1, .int .i64 a1_2]] w fun e w' => e = .returned (.bool r) /\ Below w.heap.size w w':=by
 have hu32:=Tryz.underlying32
 have hu64:=Tryz.underlying64
 have HR0:=Zz.k hr0
 have HC0:=Zz.k hc0
 clear hr0 hc0
 have HB:=Zz.k (Below.refl w.heap.size w)
 unfold tree_Written.f at h; have H:=h
 clear h
 obtain ⟨t376,A3,H⟩:=bE H
 by_cases c4 : t376 >= 0; rotate_left
 ·rw [if_neg c4] at H
  have c4b0:=Ze c4
  clear c4
  obtain rfl:=Zo H
  go_enter Tryz.func57,Tryz.ntmps57
  try go_wp2_with (first | ((with_reducible refine Qaf (N:=3) rfl ?_); refine bx 3 #[.int .i64 a1_0, .int .i64 a1_1, .int .i64 a1_2] 32 (h := ?_); intro gb375 hg w18 hbox hb; have BK375:=Zz.k (hbox); have GW375:=bz HB hg; have GE375:=bz HB hg; replace HB:=bs HB hb; clear hb hbox hg; obtain ⟨_,_,_,_,_,_⟩:=kc3 BK375) | ((with_reducible refine Qac (f:=62) rfl ?_); refine gl (some 11) Tryz.func62 #[.slice A0 l0.length c0, .int .i64 a1_0, .int .i64 a1_1] (h := ?_); (with_reducible refine (tree_Find.calls _ _ l0 a1_0 a1_1 t376 _ ?side1 ?side2 A3.out).mono ?_); (case side1 => exact cb HR0 HB); (case side2 => exact HC0.out); rintro e w20 ⟨rfl,hb⟩; refine ⟨_,rfl, ?_⟩; replace BK375:=bl BK375 hb; replace HB:=bs HB hb; clear hb))
  have n0_:=Zz.k (Qal BK375.out)
  have n1_:=Zz.k (Qae HB.out)
  clear BK375
  clear HB
  have BK375:=n0_
  have HB:=n1_
  clear n0_ n1_
  refine stP (fun w' => True) 18 trivial (h:=fun hHeld => ?_); refine Qap tree_Written.tab2 tree_Written.bits2 (fun HT_ HW_ => ?_)
  generalize w20.drew = w21 at BK375 HB hHeld ⊢
  refine pu HT_ 0 12 1 (h := ?_)
  refine pu HT_ 1 13 3 (h := ?_)
  refine pu HT_ 2 14 7 (h := ?_)
  refine off HT_ 3 15 15 (h := ?_)
  refine off HT_ 4 16 31 (h := ?_)
  refine off HT_ 5 17 63 (h := ?_)
  refine pu HT_ 6 18 127 (h := ?_)
  refine pu HT_ 7 19 255 (h := ?_)
  refine off HT_ 8 20 511 (h := ?_)
  refine off HT_ 9 21 1023 (h := ?_)
  refine off HT_ 10 22 2047 (h := ?_)
  refine off HT_ 11 23 4095 (h := ?_)
  refine off HT_ 12 24 8191 (h := ?_)
  refine off HT_ 13 25 16383 (h := ?_)
  refine off HT_ 14 26 32767 (h := ?_)
  refine off HT_ 15 27 65535 (h := ?_)
  refine pu HT_ 16 28 131071 (h := ?_)
  refine pu HT_ 17 4 262143 (h := ?_)
  refine dn HT_ (h := ?_)
  try go_wp2
  go_ret
  exact ⟨re,bw HB⟩
 rw [if_pos c4] at H
 have c4b0:=Zd c4
 clear c4
 by_cases c5 : a1_2 >= 0; rotate_left
 ·rw [if_neg c5] at H
  have c5b0:=Ze c5
  clear c5
  obtain rfl:=Zo H
  go_enter Tryz.func57,Tryz.ntmps57
  try go_wp2_with (first | ((with_reducible refine Qaf (N:=3) rfl ?_); refine bx 3 #[.int .i64 a1_0, .int .i64 a1_1, .int .i64 a1_2] 32 (h := ?_); intro gb375 hg w14 hbox hb; have BK375:=Zz.k (hbox); have GW375:=bz HB hg; have GE375:=bz HB hg; replace HB:=bs HB hb; clear hb hbox hg; obtain ⟨_,_,_,_,_,_⟩:=kc3 BK375) | ((with_reducible refine Qac (f:=62) rfl ?_); refine gl (some 11) Tryz.func62 #[.slice A0 l0.length c0, .int .i64 a1_0, .int .i64 a1_1] (h := ?_); (with_reducible refine (tree_Find.calls _ _ l0 a1_0 a1_1 t376 _ ?side1 ?side2 A3.out).mono ?_); (case side1 => exact cb HR0 HB); (case side2 => exact HC0.out); rintro e w16 ⟨rfl,hb⟩; refine ⟨_,rfl, ?_⟩; replace BK375:=bl BK375 hb; replace HB:=bs HB hb; clear hb))
  have n0_:=Zz.k (Qal BK375.out)
  have n1_:=Zz.k (Qae HB.out)
  clear BK375
  clear HB
  have BK375:=n0_
  have HB:=n1_
  clear n0_ n1_
  refine stP (fun w' => E3 w' gb375 (.int .i64 a1_0) (.int .i64 a1_1) (.int .i64 a1_2)) 18 (e3 BK375) (h:=fun hHeld => ?_); refine Qap tree_Written.tab2 tree_Written.bits2 (fun HT_ HW_ => ?_)
  generalize w16.drew = w17 at BK375 HB hHeld ⊢
  refine pu HT_ 0 12 1 (h := ?_)
  refine pu HT_ 1 13 3 (h := ?_)
  refine pu HT_ 2 14 7 (h := ?_)
  refine pu HT_ 3 15 15 (h := ?_)
  refine tk HT_ HW_ hHeld 4 16 31 (h := ?_)
  refine pu HT_ 5 17 63 (h := ?_)
  refine pu HT_ 6 18 127 (h := ?_)
  refine pu HT_ 7 19 255 (h := ?_)
  refine off HT_ 8 20 511 (h := ?_)
  refine off HT_ 9 21 1023 (h := ?_)
  refine off HT_ 10 22 2047 (h := ?_)
  refine off HT_ 11 23 4095 (h := ?_)
  refine off HT_ 12 24 8191 (h := ?_)
  refine off HT_ 13 25 16383 (h := ?_)
  refine off HT_ 14 26 32767 (h := ?_)
  refine off HT_ 15 27 65535 (h := ?_)
  refine pu HT_ 16 28 131071 (h := ?_)
  refine pu HT_ 17 4 262143 (h := ?_)
  refine dn HT_ (h := ?_)
  try go_wp2
  go_ret
  exact ⟨re,bw HB⟩
 rw [if_pos c5] at H
 have c5b0:=Zd c5
 clear c5
 by_cases c6 : 0 <= t376; rotate_left
 ·rw [if_neg c6] at H
  exact absurd H (by simp)
 rw [if_pos c6] at H
 have c6b0:=Zd c6
 clear c6
 by_cases c7 : t376 < (l0.length : Int); rotate_left
 ·rw [if_neg c7] at H
  exact absurd H (by simp)
 rw [if_pos c7] at H
 have c7b0:=Zd c7
 clear c7
 obtain ⟨t378,A8,H⟩:=bE H
 obtain rfl:=Zo H
 go_enter Tryz.func57,Tryz.ntmps57
 try go_wp2_with (first | ((with_reducible refine Qaf (N:=3) rfl ?_); refine bx 3 #[.int .i64 a1_0, .int .i64 a1_1, .int .i64 a1_2] 32 (h := ?_); intro gb375 hg w9 hbox hb; have BK375:=Zz.k (hbox); have GW375:=bz HB hg; have GE375:=bz HB hg; replace HB:=bs HB hb; clear hb hbox hg; obtain ⟨_,_,_,_,_,_⟩:=kc3 BK375) | ((with_reducible refine Qac (f:=62) rfl ?_); refine gl (some 11) Tryz.func62 #[.slice A0 l0.length c0, .int .i64 a1_0, .int .i64 a1_1] (h := ?_); (with_reducible refine (tree_Find.calls _ _ l0 a1_0 a1_1 t376 _ ?side1 ?side2 A3.out).mono ?_); (case side1 => exact cb HR0 HB); (case side2 => exact HC0.out); rintro e w11 ⟨rfl,hb⟩; refine ⟨_,rfl, ?_⟩; replace BK375:=bl BK375 hb; replace HB:=bs HB hb; clear hb))
 have n0_:=Zz.k (Qal BK375.out)
 have n1_:=Zz.k (Qae HB.out)
 clear BK375
 clear HB
 have BK375:=n0_
 have HB:=n1_
 clear n0_ n1_
 have p377 : 0 <= (t376 : Int):=od
 have q377 : t376 < (l0.length : Int):=od
 obtain ⟨ad377,A377_7,c377_7,e377,hx377_0,hx377_1,hx377_2,hx377_3,hx377_4,hx377_5,hx377_6,hx377_7,hx377_8,hx377_9,hx377_10,hl377_7,hi377_7⟩:=Qby HR0.out t376 p377 q377
 have hw377_10:=hx377_10
 have hw377_9:=hx377_9
 have hw377_8:=hx377_8
 have hw377_7:=hx377_7
 have hw377_6:=hx377_6
 have hw377_5:=hx377_5
 have hw377_4:=hx377_4
 have hw377_3:=hx377_3
 have hw377_2:=hx377_2
 have hw377_1:=hx377_1
 have hw377_0:=hx377_0
 cases e377
 replace hx377_0:=cl HB hx377_0
 replace hx377_1:=cl HB hx377_1
 replace hx377_2:=cl HB hx377_2
 replace hx377_3:=cl HB hx377_3
 replace hx377_4:=cl HB hx377_4
 replace hx377_5:=cl HB hx377_5
 replace hx377_6:=cl HB hx377_6
 replace hx377_7:=cl HB hx377_7
 replace hx377_8:=cl HB hx377_8
 replace hx377_9:=cl HB hx377_9
 replace hx377_10:=cl HB hx377_10
 have HR377_7:=Zz.k hi377_7
 have HC377_7:=Zz.k hl377_7
 clear hi377_7 hl377_7
 replace p377:=eq_true p377
 replace q377:=eq_true q377
 refine stP (fun w' => B3 w' gb375 (.int .i64 a1_0) (.int .i64 a1_1) (.int .i64 a1_2) (Q11 w' (ad377.add ((t376).toNat * 11)) (Qad l0 t376) A377_7 c377_7)) 18 (b3 BK375 ⟨(cW HB hw377_0),(cW HB hw377_1),(cW HB hw377_2),(cW HB hw377_3),(cW HB hw377_4),(cW HB hw377_5),(cW HB hw377_6),(cW HB hw377_7),(cW HB hw377_8),(cW HB hw377_9),(cW HB hw377_10)⟩) (h:=fun hHeld => ?_); refine Qap tree_Written.tab2 tree_Written.bits2 (fun HT_ HW_ => ?_)
 generalize w11.drew = w12 at BK375 HB HR377_7 hx377_0 hx377_1 hx377_10 hx377_2 hx377_3 hx377_4 hx377_5 hx377_6 hx377_7 hx377_8 hx377_9 hHeld ⊢
 refine pu HT_ 0 12 1 (h := ?_)
 refine pu HT_ 1 13 3 (h := ?_)
 refine pu HT_ 2 14 7 (h := ?_)
 refine pu HT_ 3 15 15 (h := ?_)
 refine tk HT_ HW_ hHeld 4 16 31 (h := ?_)
 refine pu HT_ 5 17 63 (h := ?_)
 refine pu HT_ 6 18 127 (h := ?_)
 refine pu HT_ 7 19 255 (h := ?_)
 refine pu HT_ 8 20 511 (h := ?_)
 refine pu HT_ 10 22 1535 (h := ?_)
 refine pu HT_ 11 23 3583 (h := ?_)
 refine pu HT_ 12 24 7679 (h := ?_)
 refine tk HT_ HW_ hHeld 9 21 8191 (h := ?_)
 refine tk HT_ HW_ hHeld 13 25 16383 (h := ?_)
 refine on HT_ 14 (some 26) 32767 (h:=fun K hK => ?_)
 refine gS Tryz.func78 #[.agg #[.int .i64 ((Qad l0 t376).f0), .int .i64 ((Qad l0 t376).f1), .int .i64 ((Qad l0 t376).f2), .int .i64 ((Qad l0 t376).f3.f0), .int .i64 ((Qad l0 t376).f3.f1), .int .i64 ((Qad l0 t376).f3.f2), .string ((Qad l0 t376).f4), .slice A377_7 ((Qad l0 t376).f5).length c377_7, .int .i64 ((Qad l0 t376).f6), .int .i64 ((Qad l0 t376).f7), .int .i64 ((Qad l0 t376).f8)]] (h := ?_)
 with_reducible refine (op_Size.calls ((Qad l0 t376).f0) ((Qad l0 t376).f1) ((Qad l0 t376).f2) ((Qad l0 t376).f3.f0) ((Qad l0 t376).f3.f1) ((Qad l0 t376).f3.f2) ((Qad l0 t376).f4) _ _ ((Qad l0 t376).f5) ((Qad l0 t376).f6) ((Qad l0 t376).f7) ((Qad l0 t376).f8) t378 _ ?side1 ?side2 A8.out).mono ?_
 (case side1 => exact cb HR377_7 HB)
 (case side2 => exact HC377_7.out)
 rintro e w13 ⟨rfl,hb⟩
 refine ⟨_,rfl, ?_⟩
 have n0_:=bl BK375 hb
 have n1_:=bs HB hb
 clear BK375
 clear HB
 have BK375:=n0_
 have HB:=n1_
 clear n0_ n1_
 (try clear hb)
 (try clear hb2)
 (try clear hk)
 (try clear hi)
 refine hK.out _ _ (b3 BK375 ⟨(cW HB hw377_0),(cW HB hw377_1),(cW HB hw377_2),(cW HB hw377_3),(cW HB hw377_4),(cW HB hw377_5),(cW HB hw377_6),(cW HB hw377_7),(cW HB hw377_8),(cW HB hw377_9),(cW HB hw377_10)⟩) (fun hHeld => ?_)
 clear hK K
 refine nn 26 (h := ?_)
 refine pu HT_ 15 27 65535 (h := ?_)
 refine pu HT_ 16 28 131071 (h := ?_)
 refine pu HT_ 17 4 262143 (h := ?_)
 refine dn HT_ (h := ?_)
 try go_wp2
 go_ret
 exact ⟨re,bw HB⟩
end
section
theorem doc_Seen_f {L : List SOp} (hs : smalls L = true) (h : RowOk L) : doc_Seen.f L = some (Qbz L):=by unfold doc_Seen.f; exact if_pos ⟨hs,(Qci L).2 h⟩
theorem seen_len {L : List SOp} (h : RowOk L) : (Qbz L).length <= 200:=Nat.le_trans (List.length_filter_le _ _) (by rw [(ordL_nodup h).2]; exact h.sums.2)
end
end Go.Proofs.YtonoaflfobajcaaGreatDoor.L
end
