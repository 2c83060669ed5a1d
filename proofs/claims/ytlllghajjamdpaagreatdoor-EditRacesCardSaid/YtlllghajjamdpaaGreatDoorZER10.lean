/- Part 10 of the proof that for every argument the law EditRaces answers true: edits that two sites make of the same row, ordered one behind the other either way, leave what each wrote whole, side by side, and take away what each took -/
import Derived.Test.YtlllghajjamdpaaGreatDoorZER9
section
namespace Go.Proofs.YtlllghajjamdpaaGreatDoor.L
open Go.RowKit Go.Proofs.YtlllghajjamdpaaGreatDoorW.PrintWords Go.Proofs.YtlllghajjamdpaaGreatDoorW.PrintLast Go.Proofs.YtlllghajjamdpaaGreatDoorW.PrintMore
set_option linter.unusedVariables false
set_option linter.unusedSimpArgs false
set_option maxHeartbeats 40000000
set_option maxRecDepth 1000000
section
attribute [local go_sem] Qbm Qbk Qbu Qbt Qbc Qbb Qbl Qbj
attribute [local go_sem high] eqAElem
def r4_Under.l0 : Nat -> List (SOp) -> List (SElem) -> Int -> Int -> Int -> Int -> Option ((List (SElem)))
 | 0,_,_,_,_,_,_ => none
 | k + 1,x0,x5,x6,x334000,x334001,x334002 => if x6 >= 0 then (if 0 <= x6 then (if x6 < (x0.length : Int) then (if ((Qad x0 x6).f4).toList = ([] : List UInt8) then (r4_Under.l0 k x0 x5 (wrap64 (x6 - 1)) x334000 x334001 x334002) else (if (((Qad x0 x6).f3.f0) == x334000 && (((Qad x0 x6).f3.f1) == x334001 && (((Qad x0 x6).f3.f2) == x334002))) = true then (if x5.length < 5864062014805 then (r4_Under.l0 k x0 (x5 ++ [(⟨(Qad x0 x6).f0,(Qad x0 x6).f1,0⟩ : SElem)]) (wrap64 (x6 - 1)) x334000 x334001 x334002) else (none)) else (r4_Under.l0 k x0 x5 (wrap64 (x6 - 1)) x334000 x334001 x334002))) else (none)) else (none)) else ((r4_Begin.f x334000 x334001 x334002).bind fun t341 => (if t341 = true then (some x5) else ((r4_written.f k x0 x334000 x334001 (wrap64 (x334002 + 1))).bind fun t343 => (if t343 = true then (if x5.length < 5864062014805 then (some (x5 ++ [(⟨x334000,x334001,wrap64 (x334002 + 1)⟩ : SElem)])) else (none)) else (some x5)))))
def r4_Under.f (k : Nat) (l0 : List (SOp)) (a1_0 : Int) (a1_1 : Int) (a1_2 : Int) : Option ((List (SElem))):=r4_Under.l0 k l0 ([] : List (SElem)) (wrap64 ((l0.length : Int) - 1)) a1_0 a1_1 a1_2
def r4_Under.T5 : Bool × List (List Nat × List Nat):=(true,[([],[]),([],[]),([0,1],[0,1]),([2],[2]),([3],[3]),([4],[4]),([5],[5]),([6],[6]),([6],[6]),([7,8,6],[6,7,8]),([9,6],[6,9]),([10,6],[6,10]),([6],[6]),([11,12,6],[6,11,12]),([6,13],[6,13])])
def r4_Under.B5 : List Nat:=[0,0,3,7,15,31,63,127,127,511,1023,2047,127,8191,16383]
theorem r4_Under.tab5 : rtab .any (Qdb Tryz.f72 5) = r4_Under.T5:=by kernel_rfl
theorem r4_Under.bits5 : Qay r4_Under.T5.2 r4_Under.B5 = true:=by kernel_rfl
def r4_Under.T6 : Bool × List (List Nat × List Nat):=(true,[([],[]),([],[]),([],[]),([1,2],[1,2]),([3],[3]),([4],[4]),([],[]),([],[]),([6,7],[6,7]),([8],[8]),([9],[9]),([5,10],[5,10]),([11],[11]),([0,12],[0,12]),([13,13,0,1,2,3,4,5,6,7,8,9,10,11,12,13],[0,13])])
def r4_Under.B6 : List Nat:=[0,0,0,6,14,30,0,0,192,448,960,2046,4094,8191,16383]
theorem r4_Under.tab6 : rtab .any (Qdb Tryz.f72 6) = r4_Under.T6:=by kernel_rfl
theorem r4_Under.bits6 : Qay r4_Under.T6.2 r4_Under.B6 = true:=by kernel_rfl
theorem r4_Under.calls (k : Nat) (A0 : Option Addr) (c0 : Nat) (l0 : List (SOp)) (a1_0 : Int) (a1_1 : Int) (a1_2 : Int) (r : List (SElem)) (w : World) (hr0 : Kd.C kOp w A0 l0.length l0) (hc0 : l0.length <= c0) (hT : GT w) (h : r4_Under.f k l0 a1_0 a1_1 a1_2 = some r) :
  Calls Tryz.prog 72 #[.slice A0 l0.length c0, .agg #[.int .i64 a1_0, .int .i64 a1_1, .int .i64 a1_2]] w fun e w' => ∃ v0_ : Value,e = .returned (v0_) /\ Kd.R Qap 32 w' w.heap.size (fun _ => True) v0_ r /\ Below w.heap.size w w':=by
 have hu32:=Tryz.underlying32
 have HR0:=Zz.k hr0
 have HC0:=Zz.k hc0
 clear hr0 hc0
 have HB:=Zz.k (Below.refl w.heap.size w)
 unfold r4_Under.f at h; have H:=h
 clear h
 have H':=Zz.k H
 clear H
 go_enter Tryz.func72,Tryz.ntmps72
 go_wp2_with (first | ((with_reducible refine Qaf (N:=3) rfl ?_); refine bx 3 #[.int .i64 a1_0, .int .i64 a1_1, .int .i64 a1_2] 32 (h := ?_); intro gb333 hg w3 hbox hb; have BK333:=Zz.k (hbox); have GW333:=bz HB hg; have GE333:=bz HB hg; replace HB:=bs HB hb; clear hb hbox hg))
 go_loopg [5,6] k (fun kq v5 v6 w' => ∃ (x5_1 : List (SElem)) (x6_1 : Int),v6 = .int .i64 x6_1 /\ Zz (r4_Under.l0 kq l0 x5_1 x6_1 a1_0 a1_1 a1_2 = some r) /\ Zz (kq <= k) /\ Zz (Kd.R Qap 32 w' w.heap.size (fun k_ => k_ ≠ gb333) v5 x5_1) /\ Zz (w'.heap[gb333]? = some (.cells #[.int .i64 a1_0, .int .i64 a1_1, .int .i64 a1_2] 32 (0,0))) /\ Zz (Below w.heap.size w w'))
 case atStart => exact ⟨(([] : List (SElem))),(wrap64 ((l0.length : Int) - 1)),rf,H',⟨Nat.le_refl _⟩,⟨by first | exact Kd.R_nil _ _ _ _ _ | exact Kd.N_nil _ _ _ _ _ | exact Kd.V_nil _ _ _ _ _ | exact Kd.Q_nil _ _ _ _ _ | exact Kd.S_nil _ _ _ _ _⟩,⟨kk BK333⟩,⟨bw HB⟩⟩
 case round =>
  clear H'
  obtain ⟨x5_1,x6_1,rfl,HA,HK1,HO_5,BK333,HB⟩:=hrel
  cases gk with
  | zero => exact absurd HA.out (by simp [r4_Under.l0])
  | succ k1 =>
   have H:=HA.out
   clear HA
   simp only [r4_Under.l0] at H
   by_cases c4 : x6_1 >= 0; rotate_left
   ·rw [if_neg c4] at H
    have c4b0:=Ze c4
    clear c4
    obtain ⟨t341,A15,H⟩:=bE H
    by_cases c16 : t341 = true
    ·subst c16
     rw [if_pos rfl] at H
     obtain rfl:=Zo H
     obtain ⟨_,_,_,_,_,_⟩:=kc3 BK333
     go_wp2_with (first | ((with_reducible refine Qac (f:=71) rfl ?_); refine gl (some 45) Tryz.func71 #[.agg #[.int .i64 a1_0, .int .i64 a1_1, .int .i64 a1_2]] (h := ?_); (with_reducible refine (r4_Begin.calls a1_0 a1_1 a1_2 true _ A15.out).mono ?_); rintro e w18 ⟨rfl,hb⟩; refine ⟨_,rfl, ?_⟩; replace HO_5:=rb HO_5 hb; replace BK333:=bl BK333 hb; replace HB:=bs HB hb; clear hb))
     go_ret
     exact ⟨_,re,by (with_reducible repeat (first | apply Kd.R_alloc | apply Kd.R_drewN | apply Kd.R_drew)); exact Kd.R_mono HO_5.out (fun _ hk => trivial),bw HB⟩
    replace c16:=Zf c16
    subst c16
    rw [if_neg nft] at H
    obtain ⟨t343,A19,H⟩:=bE H
    by_cases c20 : t343 = true; rotate_left
    ·replace c20:=Zf c20
     subst c20
     rw [if_neg nft] at H
     obtain rfl:=Zo H
     obtain ⟨_,_,_,_,_,_⟩:=kc3 BK333
     go_wp2_with (first | ((with_reducible refine Qac (f:=71) rfl ?_); refine gl (some 45) Tryz.func71 #[.agg #[.int .i64 a1_0, .int .i64 a1_1, .int .i64 a1_2]] (h := ?_); (with_reducible refine (r4_Begin.calls a1_0 a1_1 a1_2 false _ A15.out).mono ?_); rintro e w32 ⟨rfl,hb⟩; refine ⟨_,rfl, ?_⟩; replace HO_5:=rb HO_5 hb; replace BK333:=bl BK333 hb; replace HB:=bs HB hb; clear hb; obtain ⟨_,_,_,_,_,_⟩:=kc3 BK333) | ((with_reducible refine Qaf (N:=7) rfl ?_); refine bx 7 #[.int .i64 0, .int .i64 0, .int .i64 0] 32 (h := ?_); intro gb342 hg w34 hbox hb; have BK342:=Zz.k (hbox); have GW342:=bz HB hg; have GE342:=bz HB hg; have NB333_342:=bn BK333 hg; have NB342_333:=bm BK333 hg; replace HO_5:=Zz.k (Kd.R_below (Kd.R_elderB (rk HO_5) gb342 (Nat.le_of_eq hg.symm)) hb); replace BK333:=bl BK333 hb; replace HB:=bs HB hb; clear hb hbox hg; have hnb35:=NB342_333.out; have hnc35:=NB333_342.out; obtain ⟨_,_,_,_,_,_⟩:=kc3 BK342) | ((with_reducible refine Qac (f:=70) rfl ?_); refine gl (some 57) Tryz.func70 #[.slice A0 l0.length c0, .agg #[.int .i64 a1_0, .int .i64 a1_1, .int .i64 (wrap64 (a1_2 + 1))]] (h := ?_); (with_reducible refine (r4_written.calls k1 _ _ l0 a1_0 a1_1 (wrap64 (a1_2 + 1)) false _ ?side1 ?side2 ?side3 A19.out).mono ?_); (case side1 => exact Kd.C_below HR0.out (bw HB)); (case side2 => exact HC0.out); (case side3 => exact (hT.below (bw HB))); rintro e w37 ⟨rfl,hb⟩; refine ⟨_,rfl, ?_⟩; replace HO_5:=Zz.k (Kd.R_below (by (with_reducible repeat (first | apply Kd.R_alloc | apply Kd.R_drewN | apply Kd.R_drew)); exact (Kd.R_mono (Kd.R_far (p:=⟨gb342,2,none⟩) (Kd.R_far (p:=⟨gb342,1,none⟩) (Kd.R_far (p:=⟨gb342,0,none⟩) (Kd.R_mono HO_5.out (fun k_ hk => (⟨hk,hk.2⟩ : _ /\ k_ ≠ gb342))) (fun _ hk => hk.2) (.int .i64 a1_0)) (fun _ hk => hk.2) (.int .i64 a1_1)) (fun _ hk => hk.2) (.int .i64 (wrap64 (a1_2 + 1)))) (fun _ h_ => h_.1))) hb); replace BK333:=bl BK333 hb; replace BK342:=Zz.k (Qcp (g:=gb342) (o:=.cells #[.int .i64 a1_0, .int .i64 a1_1, .int .i64 (wrap64 (a1_2 + 1))] 32 (0,0)) (bp (bp (bp (kk BK342) 0) 1) 2) hb); replace HB:=bs HB hb; clear hb))
     go_ret
     exact ⟨_,re,by (with_reducible repeat (first | apply Kd.R_alloc | apply Kd.R_drewN | apply Kd.R_drew)); exact Kd.R_mono HO_5.out (fun _ hk => trivial),bw HB⟩
    subst c20
    rw [if_pos rfl] at H
    by_cases c21 : x5_1.length < 5864062014805; rotate_left
    ·rw [if_neg c21] at H
     exact absurd H (by simp)
    rw [if_pos c21] at H
    have LMc21:=Zz.k c21
    clear c21
    obtain ⟨y344,hy344⟩ : ∃ y_ : List (SElem),y_ = (x5_1 ++ [(⟨a1_0,a1_1,wrap64 (a1_2 + 1)⟩ : SElem)]):=⟨_,rfl⟩
    first | rw [Option.bind_some,<- hy344] at H | rw [<- hy344] at H
    have Ny344:=Zz.k hy344
    clear hy344
    obtain rfl:=Zo H
    obtain ⟨_,_,_,_,_,_⟩:=kc3 BK333
    go_wp2_with (first | ((with_reducible refine Qac (f:=71) rfl ?_); refine gl (some 45) Tryz.func71 #[.agg #[.int .i64 a1_0, .int .i64 a1_1, .int .i64 a1_2]] (h := ?_); (with_reducible refine (r4_Begin.calls a1_0 a1_1 a1_2 false _ A15.out).mono ?_); rintro e w23 ⟨rfl,hb⟩; refine ⟨_,rfl, ?_⟩; replace HO_5:=rb HO_5 hb; replace BK333:=bl BK333 hb; replace HB:=bs HB hb; clear hb; obtain ⟨_,_,_,_,_,_⟩:=kc3 BK333) | ((with_reducible refine Qaf (N:=7) rfl ?_); refine bx 7 #[.int .i64 0, .int .i64 0, .int .i64 0] 32 (h := ?_); intro gb342 hg w25 hbox hb; have BK342:=Zz.k (hbox); have GW342:=bz HB hg; have GE342:=bz HB hg; have NB333_342:=bn BK333 hg; have NB342_333:=bm BK333 hg; replace HO_5:=Zz.k (Kd.R_below (Kd.R_elderB (rk HO_5) gb342 (Nat.le_of_eq hg.symm)) hb); replace BK333:=bl BK333 hb; replace HB:=bs HB hb; clear hb hbox hg; have hnb26:=NB342_333.out; have hnc26:=NB333_342.out; obtain ⟨_,_,_,_,_,_⟩:=kc3 BK342) | ((with_reducible refine Qac (f:=70) rfl ?_); refine gl (some 57) Tryz.func70 #[.slice A0 l0.length c0, .agg #[.int .i64 a1_0, .int .i64 a1_1, .int .i64 (wrap64 (a1_2 + 1))]] (h := ?_); (with_reducible refine (r4_written.calls k1 _ _ l0 a1_0 a1_1 (wrap64 (a1_2 + 1)) true _ ?side1 ?side2 ?side3 A19.out).mono ?_); (case side1 => exact Kd.C_below HR0.out (bw HB)); (case side2 => exact HC0.out); (case side3 => exact (hT.below (bw HB))); rintro e w28 ⟨rfl,hb⟩; refine ⟨_,rfl, ?_⟩; replace HO_5:=Zz.k (Kd.R_below (by (with_reducible repeat (first | apply Kd.R_alloc | apply Kd.R_drewN | apply Kd.R_drew)); exact (Kd.R_mono (Kd.R_far (p:=⟨gb342,2,none⟩) (Kd.R_far (p:=⟨gb342,1,none⟩) (Kd.R_far (p:=⟨gb342,0,none⟩) (Kd.R_mono HO_5.out (fun k_ hk => (⟨hk,hk.2⟩ : _ /\ k_ ≠ gb342))) (fun _ hk => hk.2) (.int .i64 a1_0)) (fun _ hk => hk.2) (.int .i64 a1_1)) (fun _ hk => hk.2) (.int .i64 (wrap64 (a1_2 + 1)))) (fun _ h_ => h_.1))) hb); replace BK333:=bl BK333 hb; replace BK342:=Zz.k (Qcp (g:=gb342) (o:=.cells #[.int .i64 a1_0, .int .i64 a1_1, .int .i64 (wrap64 (a1_2 + 1))] 32 (0,0)) (bp (bp (bp (kk BK342) 0) 1) 2) hb); replace HB:=bs HB hb; clear hb; obtain ⟨_,_,_,_,_,_⟩:=kc3 BK342) | ((with_reducible refine Qbz (b:=.append) (xs:=#[.tmp 58, .tmp 60]) rfl ?_); at_builtin; refine Kd.R_append Qap (w0:=w) w.heap.size rfl (.tmp 58) (.tmp 60) 23 32 (.agg #[(.int .i64 0),(.int .i64 0),(.int .i64 0)]) 24 rfl Tryz.underlying23 info32 rfl (by decide) (by omega) u5 x5_1 (⟨a1_0,a1_1,wrap64 (a1_2 + 1)⟩ : SElem) [.int .i64 a1_0, .int .i64 a1_1, .int .i64 (wrap64 (a1_2 + 1))] (fun k_ => k_ ≠ gb333 /\ k_ ≠ gb342) (fun _ => False) rfl rfl ?aP (fun _ hk => hk.elim) ?aF ?aO ?aB ?aS ?aL ?_; (case aP => exact Qcd _ _ _ (⟨a1_0,a1_1,wrap64 (a1_2 + 1)⟩ : SElem)); (case aB => exact (bw HB)); (case aF => exact (fun k_ hk => ⟨Kd.freshB (kk BK333) k_ hk,Kd.freshB (kk BK342) k_ hk⟩)); (case aO => exact (rk HO_5)); (case aS => exact (Qal (bw HB))); (case aL => have:=LMc21.out; omega); intro v345 w30 ho hb hg hat; rw [<- Ny344.out] at ho; have n0_:=Zz.k (Qcx (kk BK333) hg (Kd.R_away HO_5.out (fun _ hk => hk.1))); have n1_:=Zz.k (Qcx (kk BK342) hg (Kd.R_away HO_5.out (fun _ hk => hk.2))); have n2_:=Zz.k (hb); have n3_:=Zz.k (ho); clear BK333; clear BK342; clear HB; clear HO_5; have BK333:=n0_; have BK342:=n1_; have HB:=n2_; have HO346:=n3_; clear n0_ n1_ n2_ n3_; clear ho hb hg hat))
    go_ret
    exact ⟨_,re,by (with_reducible repeat (first | apply Kd.R_alloc | apply Kd.R_drewN | apply Kd.R_drew)); exact Kd.R_mono HO346.out (fun _ hk => trivial),bw HB⟩
   rw [if_pos c4] at H
   have c4b0:=Zd c4
   clear c4
   by_cases c5 : 0 <= x6_1; rotate_left
   ·rw [if_neg c5] at H
    exact absurd H (by simp)
   rw [if_pos c5] at H
   have c5b0:=Zd c5
   clear c5
   by_cases c6 : x6_1 < (l0.length : Int); rotate_left
   ·rw [if_neg c6] at H
    exact absurd H (by simp)
   rw [if_pos c6] at H
   have c6b0:=Zd c6
   clear c6
   by_cases c7 : ((Qad l0 x6_1).f4).toList = ([] : List UInt8)
   ·rw [if_pos c7] at H
    obtain ⟨c7b0,c7b1⟩:=bT c7
    clear c7
    have H':=Zz.k H
    clear H
    try go_wp2
    have n0_:=Zz.k (Kd.R_drew HO_5.out)
    have n1_:=Zz.k (Qao BK333.out)
    have n2_:=Zz.k (Qae HB.out)
    clear HO_5
    clear BK333
    clear HB
    have HO_5:=n0_
    have BK333:=n1_
    have HB:=n2_
    clear n0_ n1_ n2_
    have p334 : 0 <= (x6_1 : Int):=od
    have q334 : x6_1 < (l0.length : Int):=od
    obtain ⟨ad334,A334_7,c334_7,e334,hx334_0,hx334_1,hx334_2,hx334_3,hx334_4,hx334_5,hx334_6,hx334_7,hx334_8,hx334_9,hx334_10,hl334_7,hi334_7⟩:=Qcg HR0.out x6_1 p334 q334
    have hw334_10:=hx334_10
    have hw334_9:=hx334_9
    have hw334_8:=hx334_8
    have hw334_7:=hx334_7
    have hw334_6:=hx334_6
    have hw334_5:=hx334_5
    have hw334_4:=hx334_4
    have hw334_3:=hx334_3
    have hw334_2:=hx334_2
    have hw334_1:=hx334_1
    have hw334_0:=hx334_0
    cases e334
    replace hx334_0:=cl HB hx334_0
    replace hx334_1:=cl HB hx334_1
    replace hx334_2:=cl HB hx334_2
    replace hx334_3:=cl HB hx334_3
    replace hx334_4:=cl HB hx334_4
    replace hx334_5:=cl HB hx334_5
    replace hx334_6:=cl HB hx334_6
    replace hx334_7:=cl HB hx334_7
    replace hx334_8:=cl HB hx334_8
    replace hx334_9:=cl HB hx334_9
    replace hx334_10:=cl HB hx334_10
    have HR334_7:=Zz.k hi334_7
    have HC334_7:=Zz.k hl334_7
    clear hi334_7 hl334_7
    replace p334:=eq_true p334
    replace q334:=eq_true q334
    refine stP (fun w' => Q11 w' (ad334.add ((x6_1).toNat * 11)) (Qad l0 x6_1) A334_7 c334_7) 15 ⟨(cW HB hw334_0),(cW HB hw334_1),(cW HB hw334_2),(cW HB hw334_3),(cW HB hw334_4),(cW HB hw334_5),(cW HB hw334_6),(cW HB hw334_7),(cW HB hw334_8),(cW HB hw334_9),(cW HB hw334_10)⟩ (h:=fun hHeld => ?_); refine Qaw r4_Under.tab5 r4_Under.bits5 (fun HT_ HW_ => ?_)
    generalize wr.drew = w8 at HO_5 BK333 HB HR334_7 hx334_0 hx334_1 hx334_10 hx334_2 hx334_3 hx334_4 hx334_5 hx334_6 hx334_7 hx334_8 hx334_9 hHeld ⊢
    refine pu HT_ 0 15 1 (h := ?_)
    refine pu HT_ 1 16 3 (h := ?_)
    refine pu HT_ 2 17 7 (h := ?_)
    refine pu HT_ 3 18 15 (h := ?_)
    refine tk HT_ HW_ hHeld 4 19 31 (h := ?_)
    refine pu HT_ 5 20 63 (h := ?_)
    refine pu HT_ 6 21 127 (h := ?_)
    refine off HT_ 7 22 255 (h := ?_)
    refine off HT_ 8 23 511 (h := ?_)
    refine off HT_ 9 24 1023 (h := ?_)
    refine off HT_ 10 25 2047 (h := ?_)
    refine off HT_ 11 26 4095 (h := ?_)
    refine off HT_ 12 27 8191 (h := ?_)
    refine off HT_ 13 28 16383 (h := ?_)
    refine pu HT_ 14 29 32767 (h := ?_)
    refine dn HT_ (h := ?_)
    try go_wp2
    go_roundg k1
    case measure => have:=HK1.out; omega
    case rel => exact ⟨(x5_1),(wrap64 (x6_1 - 1)),rf,H',⟨by have:=HK1.out; omega⟩,⟨rk HO_5⟩,⟨kk BK333⟩,⟨bw HB⟩⟩
   rw [if_neg c7] at H
   obtain ⟨c7b0,c7b1⟩:=bF c7
   by_cases c9 : (((Qad l0 x6_1).f3.f0) == a1_0 && (((Qad l0 x6_1).f3.f1) == a1_1 && (((Qad l0 x6_1).f3.f2) == a1_2))) = true; rotate_left
   ·rw [if_neg c9] at H
    have c9b0 : (((Qad l0 x6_1).f3.f0) == a1_0 && (((Qad l0 x6_1).f3.f1) == a1_1 && (((Qad l0 x6_1).f3.f2) == a1_2))) = false:=by simpa using c9
    (try (have c9b1 : decide (((Qad l0 x6_1).f3.f0) = a1_0 && (((Qad l0 x6_1).f3.f1) == a1_1 && (((Qad l0 x6_1).f3.f2) == a1_2))) = false:=by simpa using c9))
    (try (have c9b2 : (((Qad l0 x6_1).f3.f0) == a1_0 && (((Qad l0 x6_1).f3.f1) == a1_1 && (((Qad l0 x6_1).f3.f2) == a1_2))) = false:=by simpa using c9))
    (try (have c9b3 : ¬ (((Qad l0 x6_1).f3.f0) = a1_0 && (((Qad l0 x6_1).f3.f1) == a1_1 && (((Qad l0 x6_1).f3.f2) == a1_2))):=by simpa using c9))
    clear c9
    have H':=Zz.k H
    clear H
    try go_wp2
    have n0_:=Zz.k (Kd.R_drew HO_5.out)
    have n1_:=Zz.k (Qao BK333.out)
    have n2_:=Zz.k (Qae HB.out)
    clear HO_5
    clear BK333
    clear HB
    have HO_5:=n0_
    have BK333:=n1_
    have HB:=n2_
    clear n0_ n1_ n2_
    have p334 : 0 <= (x6_1 : Int):=od
    have q334 : x6_1 < (l0.length : Int):=od
    obtain ⟨ad334,A334_7,c334_7,e334,hx334_0,hx334_1,hx334_2,hx334_3,hx334_4,hx334_5,hx334_6,hx334_7,hx334_8,hx334_9,hx334_10,hl334_7,hi334_7⟩:=Qcg HR0.out x6_1 p334 q334
    have hw334_10:=hx334_10
    have hw334_9:=hx334_9
    have hw334_8:=hx334_8
    have hw334_7:=hx334_7
    have hw334_6:=hx334_6
    have hw334_5:=hx334_5
    have hw334_4:=hx334_4
    have hw334_3:=hx334_3
    have hw334_2:=hx334_2
    have hw334_1:=hx334_1
    have hw334_0:=hx334_0
    cases e334
    replace hx334_0:=cl HB hx334_0
    replace hx334_1:=cl HB hx334_1
    replace hx334_2:=cl HB hx334_2
    replace hx334_3:=cl HB hx334_3
    replace hx334_4:=cl HB hx334_4
    replace hx334_5:=cl HB hx334_5
    replace hx334_6:=cl HB hx334_6
    replace hx334_7:=cl HB hx334_7
    replace hx334_8:=cl HB hx334_8
    replace hx334_9:=cl HB hx334_9
    replace hx334_10:=cl HB hx334_10
    have HR334_7:=Zz.k hi334_7
    have HC334_7:=Zz.k hl334_7
    clear hi334_7 hl334_7
    replace p334:=eq_true p334
    replace q334:=eq_true q334
    refine stP (fun w' => B3 w' gb333 (.int .i64 a1_0) (.int .i64 a1_1) (.int .i64 a1_2) (Q11 w' (ad334.add ((x6_1).toNat * 11)) (Qad l0 x6_1) A334_7 c334_7)) 15 (b3 BK333 ⟨(cW HB hw334_0),(cW HB hw334_1),(cW HB hw334_2),(cW HB hw334_3),(cW HB hw334_4),(cW HB hw334_5),(cW HB hw334_6),(cW HB hw334_7),(cW HB hw334_8),(cW HB hw334_9),(cW HB hw334_10)⟩) (h:=fun hHeld => ?_); refine Qaw r4_Under.tab5 r4_Under.bits5 (fun HT_ HW_ => ?_)
    generalize wr.drew = w14 at HO_5 BK333 HB HR334_7 HR334_7 hx334_0 hx334_1 hx334_10 hx334_2 hx334_3 hx334_4 hx334_5 hx334_6 hx334_7 hx334_8 hx334_9 hx334_0 hx334_1 hx334_10 hx334_2 hx334_3 hx334_4 hx334_5 hx334_6 hx334_7 hx334_8 hx334_9 hHeld ⊢
    refine pu HT_ 0 15 1 (h := ?_)
    refine pu HT_ 1 16 3 (h := ?_)
    refine pu HT_ 2 17 7 (h := ?_)
    refine pu HT_ 3 18 15 (h := ?_)
    refine tk HT_ HW_ hHeld 4 19 31 (h := ?_)
    refine pu HT_ 5 20 63 (h := ?_)
    refine pu HT_ 6 21 127 (h := ?_)
    refine pu HT_ 7 22 255 (h := ?_)
    refine pu HT_ 8 23 511 (h := ?_)
    refine pu HT_ 9 24 1023 (h := ?_)
    refine pu HT_ 10 25 2047 (h := ?_)
    refine tk HT_ HW_ hHeld 11 26 4095 (h := ?_)
    refine tk HT_ HW_ hHeld 12 27 8191 (h := ?_)
    refine pu HT_ 13 28 16383 (h := ?_)
    refine pu HT_ 14 29 32767 (h := ?_)
    refine dn HT_ (h := ?_)
    try go_wp2
    go_roundg k1
    case measure => have:=HK1.out; omega
    case rel => exact ⟨(x5_1),(wrap64 (x6_1 - 1)),rf,H',⟨by have:=HK1.out; omega⟩,⟨rk HO_5⟩,⟨kk BK333⟩,⟨bw HB⟩⟩
   rw [if_pos c9] at H
   have c9b0 : (((Qad l0 x6_1).f3.f0) == a1_0 && (((Qad l0 x6_1).f3.f1) == a1_1 && (((Qad l0 x6_1).f3.f2) == a1_2))) = true:=c9
   (try (have c9b1 : decide (((Qad l0 x6_1).f3.f0) = a1_0 && (((Qad l0 x6_1).f3.f1) == a1_1 && (((Qad l0 x6_1).f3.f2) == a1_2))) = true:=by simpa using c9))
   (try (have c9b2 : (((Qad l0 x6_1).f3.f0) == a1_0 && (((Qad l0 x6_1).f3.f1) == a1_1 && (((Qad l0 x6_1).f3.f2) == a1_2))) = true:=by simpa using c9))
   clear c9
   by_cases c10 : x5_1.length < 5864062014805; rotate_left
   ·rw [if_neg c10] at H
    exact absurd H (by simp)
   rw [if_pos c10] at H
   have LMc10:=Zz.k c10
   clear c10
   obtain ⟨y338,hy338⟩ : ∃ y_ : List (SElem),y_ = (x5_1 ++ [(⟨(Qad l0 x6_1).f0,(Qad l0 x6_1).f1,0⟩ : SElem)]):=⟨_,rfl⟩
   first | rw [Option.bind_some,<- hy338] at H | rw [<- hy338] at H
   have Ny338:=Zz.k hy338
   clear hy338
   have H':=Zz.k H
   clear H
   try go_wp2
   have n0_:=Zz.k (Kd.R_drew HO_5.out)
   have n1_:=Zz.k (Qao BK333.out)
   have n2_:=Zz.k (Qae HB.out)
   clear HO_5
   clear BK333
   clear HB
   have HO_5:=n0_
   have BK333:=n1_
   have HB:=n2_
   clear n0_ n1_ n2_
   have p334 : 0 <= (x6_1 : Int):=od
   have q334 : x6_1 < (l0.length : Int):=od
   obtain ⟨ad334,A334_7,c334_7,e334,hx334_0,hx334_1,hx334_2,hx334_3,hx334_4,hx334_5,hx334_6,hx334_7,hx334_8,hx334_9,hx334_10,hl334_7,hi334_7⟩:=Qcg HR0.out x6_1 p334 q334
   have hw334_10:=hx334_10
   have hw334_9:=hx334_9
   have hw334_8:=hx334_8
   have hw334_7:=hx334_7
   have hw334_6:=hx334_6
   have hw334_5:=hx334_5
   have hw334_4:=hx334_4
   have hw334_3:=hx334_3
   have hw334_2:=hx334_2
   have hw334_1:=hx334_1
   have hw334_0:=hx334_0
   cases e334
   replace hx334_0:=cl HB hx334_0
   replace hx334_1:=cl HB hx334_1
   replace hx334_2:=cl HB hx334_2
   replace hx334_3:=cl HB hx334_3
   replace hx334_4:=cl HB hx334_4
   replace hx334_5:=cl HB hx334_5
   replace hx334_6:=cl HB hx334_6
   replace hx334_7:=cl HB hx334_7
   replace hx334_8:=cl HB hx334_8
   replace hx334_9:=cl HB hx334_9
   replace hx334_10:=cl HB hx334_10
   have HR334_7:=Zz.k hi334_7
   have HC334_7:=Zz.k hl334_7
   clear hi334_7 hl334_7
   replace p334:=eq_true p334
   replace q334:=eq_true q334
   refine stP (fun w' => B3 w' gb333 (.int .i64 a1_0) (.int .i64 a1_1) (.int .i64 a1_2) (Q11 w' (ad334.add ((x6_1).toNat * 11)) (Qad l0 x6_1) A334_7 c334_7)) 15 (b3 BK333 ⟨(cW HB hw334_0),(cW HB hw334_1),(cW HB hw334_2),(cW HB hw334_3),(cW HB hw334_4),(cW HB hw334_5),(cW HB hw334_6),(cW HB hw334_7),(cW HB hw334_8),(cW HB hw334_9),(cW HB hw334_10)⟩) (h:=fun hHeld => ?_); refine Qaw r4_Under.tab5 r4_Under.bits5 (fun HT_ HW_ => ?_)
   generalize wr.drew = w11 at HO_5 BK333 HB HR334_7 HR334_7 hx334_0 hx334_1 hx334_10 hx334_2 hx334_3 hx334_4 hx334_5 hx334_6 hx334_7 hx334_8 hx334_9 hx334_0 hx334_1 hx334_10 hx334_2 hx334_3 hx334_4 hx334_5 hx334_6 hx334_7 hx334_8 hx334_9 hHeld ⊢
   refine pu HT_ 0 15 1 (h := ?_)
   refine pu HT_ 1 16 3 (h := ?_)
   refine pu HT_ 2 17 7 (h := ?_)
   refine pu HT_ 3 18 15 (h := ?_)
   refine tk HT_ HW_ hHeld 4 19 31 (h := ?_)
   refine pu HT_ 5 20 63 (h := ?_)
   refine pu HT_ 6 21 127 (h := ?_)
   refine pu HT_ 7 22 255 (h := ?_)
   refine pu HT_ 8 23 511 (h := ?_)
   refine pu HT_ 9 24 1023 (h := ?_)
   refine pu HT_ 10 25 2047 (h := ?_)
   refine tk HT_ HW_ hHeld 11 26 4095 (h := ?_)
   refine tk HT_ HW_ hHeld 12 27 8191 (h := ?_)
   refine pu HT_ 13 28 16383 (h := ?_)
   refine pu HT_ 14 29 32767 (h := ?_)
   refine dn HT_ (h := ?_)
   try go_wp2
   have n0_:=Zz.k (Kd.R_drew HO_5.out)
   have n1_:=Zz.k (Qao BK333.out)
   have n2_:=Zz.k (Qae HB.out)
   clear HO_5
   clear BK333
   clear HB
   have HO_5:=n0_
   have BK333:=n1_
   have HB:=n2_
   clear n0_ n1_ n2_
   have p336 : 0 <= (x6_1 : Int):=od
   have q336 : x6_1 < (l0.length : Int):=od
   obtain ⟨ad336,A336_7,c336_7,e336,hx336_0,hx336_1,hx336_2,hx336_3,hx336_4,hx336_5,hx336_6,hx336_7,hx336_8,hx336_9,hx336_10,hl336_7,hi336_7⟩:=Qcg HR0.out x6_1 p336 q336
   have hw336_10:=hx336_10
   have hw336_9:=hx336_9
   have hw336_8:=hx336_8
   have hw336_7:=hx336_7
   have hw336_6:=hx336_6
   have hw336_5:=hx336_5
   have hw336_4:=hx336_4
   have hw336_3:=hx336_3
   have hw336_2:=hx336_2
   have hw336_1:=hx336_1
   have hw336_0:=hx336_0
   obtain rfl : ad334 = ad336:=(by injection e336)
   replace hx336_0:=cl HB hx336_0
   replace hx336_1:=cl HB hx336_1
   replace hx336_2:=cl HB hx336_2
   replace hx336_3:=cl HB hx336_3
   replace hx336_4:=cl HB hx336_4
   replace hx336_5:=cl HB hx336_5
   replace hx336_6:=cl HB hx336_6
   replace hx336_7:=cl HB hx336_7
   replace hx336_8:=cl HB hx336_8
   replace hx336_9:=cl HB hx336_9
   replace hx336_10:=cl HB hx336_10
   have HR336_7:=Zz.k hi336_7
   have HC336_7:=Zz.k hl336_7
   clear hi336_7 hl336_7
   replace p336:=eq_true p336
   replace q336:=eq_true q336
   refine stP (fun w' => Q11 w' (ad334.add ((x6_1).toNat * 11)) (Qad l0 x6_1) A336_7 c336_7) 15 ⟨(cW HB hw336_0),(cW HB hw336_1),(cW HB hw336_2),(cW HB hw336_3),(cW HB hw336_4),(cW HB hw336_5),(cW HB hw336_6),(cW HB hw336_7),(cW HB hw336_8),(cW HB hw336_9),(cW HB hw336_10)⟩ (h:=fun hHeld => ?_); refine Qaw r4_Under.tab6 r4_Under.bits6 (fun HT_ HW_ => ?_)
   generalize w11.drew = w12 at HO_5 BK333 HB HR336_7 HR336_7 hx336_0 hx336_1 hx336_10 hx336_2 hx336_3 hx336_4 hx336_5 hx336_6 hx336_7 hx336_8 hx336_9 hx336_0 hx336_1 hx336_10 hx336_2 hx336_3 hx336_4 hx336_5 hx336_6 hx336_7 hx336_8 hx336_9 hHeld ⊢
   refine pu HT_ 0 30 1 (h := ?_)
   refine pu HT_ 1 31 3 (h := ?_)
   refine pu HT_ 2 32 7 (h := ?_)
   refine pu HT_ 3 33 15 (h := ?_)
   refine pu HT_ 4 34 31 (h := ?_)
   refine pu HT_ 6 36 95 (h := ?_)
   refine pu HT_ 7 37 223 (h := ?_)
   refine pu HT_ 8 38 479 (h := ?_)
   refine pu HT_ 9 39 991 (h := ?_)
   refine tk HT_ HW_ hHeld 5 35 1023 (h := ?_)
   refine tk HT_ HW_ hHeld 10 40 2047 (h := ?_)
   refine pu HT_ 11 41 4095 (h := ?_)
   refine on HT_ 12 (some 42) 8191 (h:=fun K hK => ?_)
   refine value_ (w1 := ?_) (v := ?_) (by rfl) rfl ?_ ?_
   rotate_left 2
   ·go_simp
    constructor
    ·rfl
    rfl
   refine hK.out _ _ ⟨(World.cell?_alloc_lt _ _ _ (World.block_lt_of_cell? _ _ ((cW HB hw336_0)))).trans ((cW HB hw336_0)),(World.cell?_alloc_lt _ _ _ (World.block_lt_of_cell? _ _ ((cW HB hw336_1)))).trans ((cW HB hw336_1)),(World.cell?_alloc_lt _ _ _ (World.block_lt_of_cell? _ _ ((cW HB hw336_2)))).trans ((cW HB hw336_2)),(World.cell?_alloc_lt _ _ _ (World.block_lt_of_cell? _ _ ((cW HB hw336_3)))).trans ((cW HB hw336_3)),(World.cell?_alloc_lt _ _ _ (World.block_lt_of_cell? _ _ ((cW HB hw336_4)))).trans ((cW HB hw336_4)),(World.cell?_alloc_lt _ _ _ (World.block_lt_of_cell? _ _ ((cW HB hw336_5)))).trans ((cW HB hw336_5)),(World.cell?_alloc_lt _ _ _ (World.block_lt_of_cell? _ _ ((cW HB hw336_6)))).trans ((cW HB hw336_6)),(World.cell?_alloc_lt _ _ _ (World.block_lt_of_cell? _ _ ((cW HB hw336_7)))).trans ((cW HB hw336_7)),(World.cell?_alloc_lt _ _ _ (World.block_lt_of_cell? _ _ ((cW HB hw336_8)))).trans ((cW HB hw336_8)),(World.cell?_alloc_lt _ _ _ (World.block_lt_of_cell? _ _ ((cW HB hw336_9)))).trans ((cW HB hw336_9)),(World.cell?_alloc_lt _ _ _ (World.block_lt_of_cell? _ _ ((cW HB hw336_10)))).trans ((cW HB hw336_10))⟩ (fun hHeld => ?_)
   clear hK K
   refine nn 42 (h := ?_)
   refine on HT_ 13 (some 43) 16383 (h:=fun K hK => ?_)
   refine Kd.R_append_step Qap (w0:=w) w.heap.size (by rfl) (.tmp 30) (.tmp 42) 23 32 (.agg #[(.int .i64 0),(.int .i64 0),(.int .i64 0)]) 24 rfl Tryz.underlying23 info32 rfl (by decide) (by omega) u5 x5_1 (⟨(Qad l0 x6_1).f0,(Qad l0 x6_1).f1,0⟩ : SElem) [.int .i64 ((Qad l0 x6_1).f0), .int .i64 ((Qad l0 x6_1).f1), .int .i64 0] (fun k_ => k_ ≠ gb333) (fun _ => False) rfl rfl ?aP (fun _ hk => hk.elim) ?aF ?aO ?aB ?aS ?aL ?_
   (case aP => exact Qcd _ _ _ (⟨(Qad l0 x6_1).f0,(Qad l0 x6_1).f1,0⟩ : SElem))
   (case aB => exact (bw HB))
   (case aF => exact (fun k_ hk => Kd.freshB (kk BK333) k_ hk))
   (case aO => exact (rk HO_5))
   (case aS => exact (Qal (bw HB)))
   (case aL => have:=LMc10.out; omega)
   intro v339 w13 ho hb hg hat
   rw [<- Ny338.out] at ho
   have n0_:=Zz.k (Qcx (kk BK333) hg (Kd.R_away HO_5.out (fun _ hk => hk)))
   have n1_:=Zz.k (hb)
   have n2_:=Zz.k (ho)
   clear BK333
   clear HB
   clear HO_5
   have BK333:=n0_
   have HB:=n1_
   have HO340:=n2_
   clear n0_ n1_ n2_
   clear ho hb hg hat
   refine hK.out _ _ ⟨(cW HB hw336_0),(cW HB hw336_1),(cW HB hw336_2),(cW HB hw336_3),(cW HB hw336_4),(cW HB hw336_5),(cW HB hw336_6),(cW HB hw336_7),(cW HB hw336_8),(cW HB hw336_9),(cW HB hw336_10)⟩ (fun hHeld => ?_)
   clear hK K
   refine nn 43 (h := ?_)
   refine pu HT_ 14 5 32767 (h := ?_)
   refine dn HT_ (h := ?_)
   try go_wp2
   go_roundg k1
   case measure => have:=HK1.out; omega
   case rel => exact ⟨(y338),(wrap64 (x6_1 - 1)),rf,H',⟨by have:=HK1.out; omega⟩,⟨rk HO340⟩,⟨kk BK333⟩,⟨bw HB⟩⟩
end
section
attribute [local go_sem] Qbm Qbk Qbu Qbt Qbc Qbb Qbl Qbj
mutual
def r4_Order.l0 : Nat -> List (SOp) -> List (SElem) -> List (SElem) -> Option ((List (SElem)))
 | 0,_,_,_ => none
 | k + 1,x0,x3,x4 => if (x4.length : Int) > 0 then (if 0 <= (wrap64 ((x4.length : Int) - 1)) then (if (wrap64 ((x4.length : Int) - 1)) < (x4.length : Int) then (if (wrap64 ((x4.length : Int) - 1)) <= (x4.length : Int) then ((some (x4.take ((wrap64 ((x4.length : Int) - 1)) : Int).toNat : List (SElem))).bind fun y352 => ((r4_Begin.f ((Qaa x4 (wrap64 ((x4.length : Int) - 1))).f0) ((Qaa x4 (wrap64 ((x4.length : Int) - 1))).f1) ((Qaa x4 (wrap64 ((x4.length : Int) - 1))).f2)).bind fun t355 => (if t355 = true then (r4_Order.j1 k x0 x3 y352 ((Qaa x4 (wrap64 ((x4.length : Int) - 1))).f0) ((Qaa x4 (wrap64 ((x4.length : Int) - 1))).f1) ((Qaa x4 (wrap64 ((x4.length : Int) - 1))).f2)) else (if x3.length < 5864062014805 then (r4_Order.j1 k x0 (x3 ++ [(⟨(Qaa x4 (wrap64 ((x4.length : Int) - 1))).f0,(Qaa x4 (wrap64 ((x4.length : Int) - 1))).f1,(Qaa x4 (wrap64 ((x4.length : Int) - 1))).f2⟩ : SElem)]) y352 ((Qaa x4 (wrap64 ((x4.length : Int) - 1))).f0) ((Qaa x4 (wrap64 ((x4.length : Int) - 1))).f1) ((Qaa x4 (wrap64 ((x4.length : Int) - 1))).f2)) else (none))))) else (none)) else (none)) else (none)) else (some x3)
def r4_Order.j1 : Nat -> List (SOp) -> List (SElem) -> List (SElem) -> Int -> Int -> Int -> Option ((List (SElem)))
 | 0,_,_,_,_,_,_ => none
 | k + 1,x0,x3,x4,x352000,x352001,x352002 => (r4_Under.f k x0 x352000 x352001 x352002).bind fun t359 => (r4_Order.l1 k x0 x3 x4 t359 (wrap64 ((t359.length : Int) - 1)))
def r4_Order.l1 : Nat -> List (SOp) -> List (SElem) -> List (SElem) -> List (SElem) -> Int -> Option ((List (SElem)))
 | 0,_,_,_,_,_ => none
 | k + 1,x0,x3,x4,x6,x7 => if x7 >= 0 then (if 0 <= x7 then (if x7 < (x6.length : Int) then (if x4.length < 5864062014805 then (r4_Order.l1 k x0 x3 (x4 ++ [(⟨(Qaa x6 x7).f0,(Qaa x6 x7).f1,(Qaa x6 x7).f2⟩ : SElem)]) x6 (wrap64 (x7 - 1))) else (none)) else (none)) else (none)) else (r4_Order.l0 k x0 x3 x4)
end
def r4_Order.f (k : Nat) (l0 : List (SOp)) : Option ((List (SElem))):=r4_Order.l0 k l0 ([] : List (SElem)) (([(⟨0,0,0⟩ : SElem)] : List (SElem)))
theorem r4_Order.calls (k : Nat) (A0 : Option Addr) (c0 : Nat) (l0 : List (SOp)) (r : List (SElem)) (w : World) (hr0 : Kd.C kOp w A0 l0.length l0) (hc0 : l0.length <= c0) (hT : GT w) (h : r4_Order.f k l0 = some r) :
  Calls Tryz.prog 42 #[.slice A0 l0.length c0] w fun e w' => ∃ v0_ : Value,e = .returned (v0_) /\ Kd.R Qap 32 w' w.heap.size (fun _ => True) v0_ r /\ Below w.heap.size w w':=by
 have hu32:=Tryz.underlying32
 have HR0:=Zz.k hr0
 have HC0:=Zz.k hc0
 clear hr0 hc0
 have HB:=Zz.k (Below.refl w.heap.size w)
 unfold r4_Order.f at h; have H:=h
 clear h
 obtain ⟨y347,hy347⟩ : ∃ y_ : List (SElem),y_ = (([(⟨0,0,0⟩ : SElem)] : List (SElem))):=⟨_,rfl⟩
 first | rw [Option.bind_some,<- hy347] at H | rw [<- hy347] at H
 have Ny347:=Zz.k hy347
 clear hy347
 have H':=Zz.k H
 clear H
 go_enter Tryz.func42,Tryz.ntmps42
 go_wp2_with (first | ((with_reducible refine Qaf (N:=9) rfl ?_); refine Kd.R_lit Qap _ 32 ?hg (N:=9) ?hd (xs:=([(⟨0,0,0⟩ : SElem)] : List (SElem))) (inner:=[.int .i64 0, .int .i64 0, .int .i64 0]) (ok:=fun _ => True) (okp:=fun _ => True) ?hr ?hp (fun _ hk => hk) trivial (Below.refl _ _) (Nat.le_refl _) (by simp) ?_; (case hd => rfl); (case hg => rfl); (case hr => first | (go_simp; done) | (go_simp; rfl)); (case hp => exact (Reps.c3 (show Kd.M Qap _ _ _ (⟨0,0,0⟩ : SElem) [.int .i64 0, .int .i64 0, .int .i64 0] from (Qcd _ _ _ (⟨0,0,0⟩ : SElem) )) (Reps.none _ _))); intro v348 w2 ho3 hb hg_ hnew_; clear hg_ hnew_; (first | rw [<- Ny347.out] at ho3 | (simp only [Int.reduceToNat] at ho3; rw [<- Ny347.out] at ho3)); have HO349:=Zz.k (Kd.R_lower ho3 (Qal (bw HB))); replace HB:=bs HB hb; clear hb ho3))
 go_loopg [3,4] k (fun kq v3 v4 w' => ∃ (x3_1 : List (SElem)) (x4_1 : List (SElem)),Zz (r4_Order.l0 kq l0 x3_1 x4_1 = some r) /\ Zz (kq <= k) /\ Zz (Kd.R Qap 32 w' w.heap.size (fun k_ => some k_ ≠ (v4 : Value).ownBlock) v3 x3_1) /\ Zz (Kd.R Qap 32 w' w.heap.size (fun k_ => some k_ ≠ (v3 : Value).ownBlock) v4 x4_1) /\ Zz (Below w.heap.size w w'))
 case atStart => exact ⟨(([] : List (SElem))),(y347),H',⟨Nat.le_refl _⟩,⟨by first | exact Kd.R_nil _ _ _ _ _ | exact Kd.N_nil _ _ _ _ _ | exact Kd.V_nil _ _ _ _ _ | exact Kd.Q_nil _ _ _ _ _ | exact Kd.S_nil _ _ _ _ _⟩,⟨by (with_reducible repeat (first | apply Kd.R_alloc | apply Kd.R_drewN | apply Kd.R_drew)); exact Kd.R_mono HO349.out (fun _ hk => (by simp [Value.ownBlock]))⟩,⟨bw HB⟩⟩
 case round =>
  clear H'
  obtain ⟨x3_1,x4_1,HA,HK1,HO_3,HO_4,HB⟩:=hrel
  cases gk with
  | zero => exact absurd HA.out (by simp [r4_Order.l0])
  | succ k1 =>
   have H:=HA.out
   clear HA
   simp only [r4_Order.l0] at H
   by_cases c4 : (x4_1.length : Int) > 0; rotate_left
   ·rw [if_neg c4] at H
    have c4b0:=Ze c4
    have c4b1 : decide (0 < x4_1.length) = false:=Ze (by omega)
    clear c4
    obtain rfl:=Zo H
    obtain ⟨Ao31,co31,eo31⟩:=Kd.R_slice HO_4.out
    subst eo31
    go_wp2
    go_ret
    exact ⟨_,re,by (with_reducible repeat (first | apply Kd.R_alloc | apply Kd.R_drewN | apply Kd.R_drew)); exact Kd.R_mono HO_3.out (fun _ hk => trivial),bw HB⟩
   rw [if_pos c4] at H
   have c4b0:=Zd c4
   have c4b1 : decide (0 < x4_1.length) = true:=Zd (by omega)
   clear c4
   obtain ⟨ji5,hji5⟩ : ∃ j_ : Int,(wrap64 ((x4_1.length : Int) - 1)) = j_:=⟨_,rfl⟩
   replace H : (if 0 <= (ji5) then (if (ji5) < (x4_1.length : Int) then (if (ji5) <= (x4_1.length : Int) then ((some (x4_1.take ((ji5) : Int).toNat : List (SElem))).bind fun y352 => ((r4_Begin.f ((Qaa x4_1 (ji5)).f0) ((Qaa x4_1 (ji5)).f1) ((Qaa x4_1 (ji5)).f2)).bind fun t355 => (if t355 = true then (r4_Order.j1 k1 l0 x3_1 y352 ((Qaa x4_1 (ji5)).f0) ((Qaa x4_1 (ji5)).f1) ((Qaa x4_1 (ji5)).f2)) else (if x3_1.length < 5864062014805 then (r4_Order.j1 k1 l0 (x3_1 ++ [(⟨(Qaa x4_1 (ji5)).f0,(Qaa x4_1 (ji5)).f1,(Qaa x4_1 (ji5)).f2⟩ : SElem)]) y352 ((Qaa x4_1 (ji5)).f0) ((Qaa x4_1 (ji5)).f1) ((Qaa x4_1 (ji5)).f2)) else (none))))) else (none)) else (none)) else (none)) = some r:=by first | (rw [hji5] at H; exact H) | (simp only [hji5] at H ⊢; exact H)
   have hji5w : (IntKind.i64.wrap ((x4_1.length : Int) - 1)) = ji5:=(Qbe _).trans hji5
   by_cases c6 : 0 <= (ji5); rotate_left
   ·rw [if_neg c6] at H
    exact absurd H (by simp)
   rw [if_pos c6] at H
   have c6b0:=Zd c6
   clear c6
   by_cases c7 : (ji5) < (x4_1.length : Int); rotate_left
   ·rw [if_neg c7] at H
    exact absurd H (by simp)
   rw [if_pos c7] at H
   have c7b0:=Zd c7
   clear c7
   by_cases c8 : (ji5) <= (x4_1.length : Int); rotate_left
   ·rw [if_neg c8] at H
    exact absurd H (by simp)
   rw [if_pos c8] at H
   have c8b0:=eq_true c8
   have c8b1:=Zd c8
   clear c8
   obtain ⟨y352,hy352⟩ : ∃ y_ : List (SElem),y_ = (x4_1.take ((ji5) : Int).toNat):=⟨_,rfl⟩
   first | rw [Option.bind_some,<- hy352] at H | rw [<- hy352] at H
   have Ny352:=Zz.k hy352
   clear hy352
   obtain ⟨t355,A9,H⟩:=bE H
   have HC10:=Zz.k H
   clear H
   obtain ⟨Ao11,co11,eo11⟩:=Kd.R_slice HO_4.out
   subst eo11
   have p350 : 0 <= ((ji5) : Int):=od
   have q350 : (ji5) < (x4_1.length : Int):=od
   obtain ⟨ad350,e350,hx350_0,hx350_1,hx350_2⟩:=Qbd (Kd.R_reads' HO_4.out).2.2 (ji5) p350 q350
   cases e350
   replace p350:=eq_true p350
   replace q350:=eq_true q350
   go_upto_if 26 with (first | ((with_reducible refine Qaf (N:=5) rfl ?_); refine bx 5 #[.int .i64 0, .int .i64 0, .int .i64 0] 32 (h := ?_); intro gb351 hg w12 hbox hb; have BK351:=Zz.k (hbox); have GW351:=bz HB hg; have GE351:=bz HB hg; replace HO_3:=Zz.k (Kd.R_below (Kd.R_elderB (rk HO_3) gb351 (Nat.le_of_eq hg.symm)) hb); replace HO_4:=Zz.k (Kd.R_below (Kd.R_elderB (rk HO_4) gb351 (Nat.le_of_eq hg.symm)) hb); replace HB:=bs HB hb; clear hb hbox hg; obtain ⟨_,_,_,_,_,_⟩:=kc3 BK351) | ((with_reducible refine gate_store (t:=32) (p:=5) rfl ?_); refine store_event (t:=32) (p:=5) (v := ?vo_w14) (w1:=(((w12.setCell ⟨gb351,0,none⟩ (.int .i64 ((Qaa x4_1 (ji5)).f0))).setCell ⟨gb351,1,none⟩ (.int .i64 ((Qaa x4_1 (ji5)).f1))).setCell ⟨gb351,2,none⟩ (.int .i64 ((Qaa x4_1 (ji5)).f2)))) ?hg ?ho ?hn ?hr ?_; (case ho => rfl); (case hg => rfl); (case hn => rfl); (case hr => first | (go_simp; done) | (go_simp; rfl)); intro w14 hw; have n0_ : Zz (Kd.R Qap 32 w14 w.heap.size (fun k_ => some k_ ≠ (.slice (some ad350) x4_1.length co11 : Value).ownBlock /\ k_ ≠ gb351) u3 x3_1):=⟨(by rw [hw]; exact (by (with_reducible repeat (first | apply Kd.R_alloc | apply Kd.R_drewN | apply Kd.R_drew)); exact Kd.R_mono (Kd.R_far (p:=⟨gb351,2,none⟩) (Kd.R_far (p:=⟨gb351,1,none⟩) (Kd.R_far (p:=⟨gb351,0,none⟩) (Kd.R_mono HO_3.out (fun k_ hk => (⟨hk,hk.2⟩ : _ /\ k_ ≠ gb351))) (fun _ hk => hk.2) (.int .i64 ((Qaa x4_1 (ji5)).f0))) (fun _ hk => hk.2) (.int .i64 ((Qaa x4_1 (ji5)).f1))) (fun _ hk => hk.2) (.int .i64 ((Qaa x4_1 (ji5)).f2))) (fun _ hk => ⟨hk.1.1,hk.1.2⟩)))⟩; have n1_ : Zz (Kd.R Qap 32 w14 w.heap.size (fun k_ => some k_ ≠ (u3 : Value).ownBlock /\ k_ ≠ gb351) (.slice (some ad350) x4_1.length co11) x4_1):=⟨(by rw [hw]; exact (by (with_reducible repeat (first | apply Kd.R_alloc | apply Kd.R_drewN | apply Kd.R_drew)); exact Kd.R_mono (Kd.R_far (p:=⟨gb351,2,none⟩) (Kd.R_far (p:=⟨gb351,1,none⟩) (Kd.R_far (p:=⟨gb351,0,none⟩) (Kd.R_mono HO_4.out (fun k_ hk => (⟨hk,hk.2⟩ : _ /\ k_ ≠ gb351))) (fun _ hk => hk.2) (.int .i64 ((Qaa x4_1 (ji5)).f0))) (fun _ hk => hk.2) (.int .i64 ((Qaa x4_1 (ji5)).f1))) (fun _ hk => hk.2) (.int .i64 ((Qaa x4_1 (ji5)).f2))) (fun _ hk => ⟨hk.1.1,hk.1.2⟩)))⟩; have n2_ : Zz (w14.heap[gb351]? = some (.cells #[.int .i64 ((Qaa x4_1 (ji5)).f0), .int .i64 ((Qaa x4_1 (ji5)).f1), .int .i64 ((Qaa x4_1 (ji5)).f2)] 32 (0,0))):=⟨(by rw [hw]; exact (bp (bp (bp (kk BK351) 0) 1) 2))⟩; have n3_ : Zz (Below w.heap.size w w14):=⟨(by rw [hw]; exact (bw HB))⟩; clear hw; clear HO_3; clear HO_4; clear BK351; clear HB; have HO_3:=n0_; have HO_4:=n1_; have BK351:=n2_; have HB:=n3_; clear n0_ n1_ n2_ n3_; have q15 : ((ji5) : Int) <= ((x4_1.length : Int) : Int):=od; obtain ⟨i015,hi015,_,hsz15,_⟩:=info_parts info32; have hcut15:=cut_to (P:=Tryz.prog) 23 32 .i64 Tryz.underlying23 hi015 (some ad350) x4_1.length co11 (ji5) (od) q15 (Kd.R_reads' HO_4.out).2.1; have hr15:=Kd.R_take (m:=((ji5) : Int).toNat) HO_4.out (by omega); have hy15 : y352.length = ((ji5) : Int).toNat:=(by rw [Ny352.out,List.length_take]; omega); rw [<- Ny352.out] at hr15; rw [<- hy15] at hr15 hcut15; clear hy15 hi015 hsz15 HO_4; have HO354:=Zz.k hr15; clear hr15; replace q15:=eq_true q15; obtain ⟨_,_,_,_,_,_⟩:=kc3 BK351) | ((with_reducible refine Qac (f:=71) rfl ?_); refine goesL_ (some 25) rfl rfl Tryz.func71 (by kernel_rfl) rfl #[.agg #[.int .i64 ((Qaa x4_1 (ji5)).f0), .int .i64 ((Qaa x4_1 (ji5)).f1), .int .i64 ((Qaa x4_1 (ji5)).f2)]] rfl (by (try simp only [List.map_toArray,List.map_cons,List.map_nil]); first | done | (simp only [hji5]; rfl) | rfl | (simp only [List.length_drop,List.length_take]; rfl)) ?_; (with_reducible refine (r4_Begin.calls ((Qaa x4_1 (ji5)).f0) ((Qaa x4_1 (ji5)).f1) ((Qaa x4_1 (ji5)).f2) t355 _ A9.out).mono ?_); rintro e w17 ⟨rfl,hb⟩; refine ⟨_,rfl, ?_⟩; replace HO_3:=rb HO_3 hb; replace HO354:=rb HO354 hb; replace BK351:=bl BK351 hb; replace HB:=bs HB hb; clear hb))
   (try simp only [Act.put,List.setIfInBounds_toArray,List.set_cons_zero,List.set_cons_succ])
   go_cut [3] (fun v3 wc => ∃ (kq : Nat) (x3_9 : List (SElem)),Zz (r4_Order.j1 kq l0 x3_9 y352 ((Qaa x4_1 (ji5)).f0) ((Qaa x4_1 (ji5)).f1) ((Qaa x4_1 (ji5)).f2) = some r) /\ Zz (kq <= k1) /\ Zz (Kd.R Qap 32 wc w.heap.size (fun k_ => some k_ ≠ ((.slice (some ad350) y352.length co11) : Value).ownBlock /\ k_ ≠ gb351) v3 x3_9) /\ Zz (Kd.R Qap 32 wc w.heap.size (fun k_ => some k_ ≠ (v3 : Value).ownBlock /\ k_ ≠ gb351) (.slice (some ad350) y352.length co11) y352) /\ Zz (wc.heap[gb351]? = some (.cells #[.int .i64 ((Qaa x4_1 (ji5)).f0), .int .i64 ((Qaa x4_1 (ji5)).f1), .int .i64 ((Qaa x4_1 (ji5)).f2)] 32 (0,0))) /\ Zz (Below w.heap.size w wc))
   case first =>
    have H:=HC10.out
    clear HC10
    by_cases c18 : t355 = true
    ·subst c18
     rw [if_pos rfl] at H
     have H':=Zz.k H
     clear H
     go_wp2
     go_meet
     case rel => exact ⟨_,(x3_1),H',⟨by have:=HK1.out; first | omega | exact Nat.le_refl _⟩,⟨rk HO_3⟩,⟨rk HO354⟩,⟨kk BK351⟩,⟨bw HB⟩⟩
    replace c18:=Zf c18
    subst c18
    rw [if_neg nft] at H
    by_cases c19 : x3_1.length < 5864062014805; rotate_left
    ·rw [if_neg c19] at H
     exact absurd H (by simp)
    rw [if_pos c19] at H
    have LMc19:=Zz.k c19
    clear c19
    obtain ⟨y356,hy356⟩ : ∃ y_ : List (SElem),y_ = (x3_1 ++ [(⟨(Qaa x4_1 (ji5)).f0,(Qaa x4_1 (ji5)).f1,(Qaa x4_1 (ji5)).f2⟩ : SElem)]):=⟨_,rfl⟩
    first | rw [Option.bind_some,<- hy356] at H | rw [<- hy356] at H
    have Ny356:=Zz.k hy356
    clear hy356
    have H':=Zz.k H
    clear H
    obtain ⟨_,_,_,_,_,_⟩:=kc3 BK351
    go_wp2_with (first | ((with_reducible refine Qbz (b:=.append) (xs:=#[.tmp 27, .tmp 29]) rfl ?_); at_builtin; refine Kd.R_append Qap (w0:=w) w.heap.size rfl (.tmp 27) (.tmp 29) 23 32 (.agg #[(.int .i64 0),(.int .i64 0),(.int .i64 0)]) 24 rfl Tryz.underlying23 info32 rfl (by decide) (by omega) u3 x3_1 (⟨(Qaa x4_1 (ji5)).f0,(Qaa x4_1 (ji5)).f1,(Qaa x4_1 (ji5)).f2⟩ : SElem) [.int .i64 ((Qaa x4_1 (ji5)).f0), .int .i64 ((Qaa x4_1 (ji5)).f1), .int .i64 ((Qaa x4_1 (ji5)).f2)] (fun k_ => some k_ ≠ (.slice (some ad350) y352.length co11 : Value).ownBlock /\ k_ ≠ gb351) (fun _ => False) rfl rfl ?aP (fun _ hk => hk.elim) ?aF ?aO ?aB ?aS ?aL ?_; (case aP => exact Qcd _ _ _ (⟨(Qaa x4_1 (ji5)).f0,(Qaa x4_1 (ji5)).f1,(Qaa x4_1 (ji5)).f2⟩ : SElem)); (case aB => exact (bw HB)); (case aF => exact (fun k_ hk => ⟨Kd.fresh' (Kd.R_lt (rk HO354)) k_ hk,Kd.freshB (kk BK351) k_ hk⟩)); (case aO => exact (rk HO_3)); (case aS => exact (Qal (bw HB))); (case aL => have:=LMc19.out; omega); intro v357 w21 ho hb hg hat; rw [<- Ny356.out] at ho; have n0_:=Zz.k (Kd.R_after (ok:=(fun k_ => k_ ≠ gb351)) (by (with_reducible repeat (first | apply Kd.R_alloc | apply Kd.R_drewN | apply Kd.R_drew)); exact Kd.R_mono HO354.out (fun _ hk => ⟨hk.2,hk.1⟩)) hg hat); have n1_:=Zz.k (Qcx (kk BK351) hg (Kd.R_away HO_3.out (fun _ hk => hk.2))); have n2_:=Zz.k (hb); have n3_:=Zz.k (ho); clear HO354; clear BK351; clear HB; clear HO_3; have HO354:=n0_; have BK351:=n1_; have HB:=n2_; have HO358:=n3_; clear n0_ n1_ n2_ n3_; clear ho hb hg hat))
    go_meet
    case rel => exact ⟨_,(y356),H',⟨by have:=HK1.out; first | omega | exact Nat.le_refl _⟩,⟨rk HO358⟩,⟨by (with_reducible repeat (first | apply Kd.R_alloc | apply Kd.R_drewN | apply Kd.R_drew)); exact Kd.R_mono HO354.out (fun _ hk => ⟨hk.2,hk.1⟩)⟩,⟨kk BK351⟩,⟨bw HB⟩⟩
   case rest =>
    clear HC10
    try clear c4b0; try clear c4b1; try clear c6b0; try clear c7b0; try clear c8b0; try clear c8b1; try clear q15; try clear hx350_0; try clear hx350_1; try clear hx350_2; try clear p350; try clear q15; try clear q350
    obtain ⟨kq,x3_9,HA,HJ9,HO_3,HO_4,BK351,HB⟩:=hcut
    cases kq with
    | zero => exact absurd HA.out (by simp [r4_Order.j1])
    | succ kj9 =>
     have H:=HA.out
     clear HA
     simp only [r4_Order.j1] at H
     obtain ⟨t359,A22,H⟩:=bE H
     have H':=Zz.k H
     clear H
     obtain ⟨_,_,_,_,_,_⟩:=kc3 BK351
     go_wp2_with (first | ((with_reducible refine Qac (f:=72) rfl ?_); refine goesL_ (some 33) rfl rfl Tryz.func72 (by kernel_rfl) rfl #[.slice A0 l0.length c0, .agg #[.int .i64 ((Qaa x4_1 (ji5)).f0), .int .i64 ((Qaa x4_1 (ji5)).f1), .int .i64 ((Qaa x4_1 (ji5)).f2)]] rfl (by (try simp only [List.map_toArray,List.map_cons,List.map_nil]); first | done | (simp only [hji5]; rfl) | rfl | (simp only [List.length_drop,List.length_take]; rfl)) ?_; (with_reducible refine (r4_Under.calls kj9 _ _ l0 ((Qaa x4_1 (ji5)).f0) ((Qaa x4_1 (ji5)).f1) ((Qaa x4_1 (ji5)).f2) t359 _ ?side1 ?side2 ?side3 A22.out).mono ?_); (case side1 => exact cb HR0 HB); (case side2 => exact HC0.out); (case side3 => exact (hT.below (bw HB))); rintro e w24 ⟨v360,rfl,ho0,hb⟩; refine ⟨_,rfl, ?_⟩; have HO361:=Zz.k (Kd.R_lower (Kd.R_newB (Kd.R_new' (Kd.R_new' ho0 (Kd.R_lt (rk HO_3))) (Kd.R_lt (rk HO_4))) (kk BK351)) (Qal (bw HB))); replace HO_3:=Zz.k (Kd.R_elder' (rk HO_3) (Kd.R_base ho0) hb); replace HO_4:=Zz.k (Kd.R_elder' (rk HO_4) (Kd.R_base ho0) hb); replace BK351:=bl BK351 hb; replace HB:=bs HB hb; clear hb; clear ho0; obtain ⟨Ao25,co25,eo25⟩:=Kd.R_slice HO361.out; subst eo25))
     go_loopg [4,7] kj9 (fun kq v4 v7 w' => ∃ (x4_3 : List (SElem)) (x7_3 : Int),v7 = .int .i64 x7_3 /\ Zz (r4_Order.l1 kq l0 x3_9 x4_3 t359 x7_3 = some r) /\ Zz (kq <= kj9) /\ Zz (Kd.R Qap 32 w' w.heap.size (fun k_ => some k_ ≠ (v4 : Value).ownBlock /\ some k_ ≠ ((.slice Ao25 t359.length co25) : Value).ownBlock /\ k_ ≠ gb351) u3 x3_9) /\ Zz (Kd.R Qap 32 w' w.heap.size (fun k_ => some k_ ≠ (u3 : Value).ownBlock /\ some k_ ≠ ((.slice Ao25 t359.length co25) : Value).ownBlock /\ k_ ≠ gb351) v4 x4_3) /\ Zz (Kd.R Qap 32 w' w.heap.size (fun k_ => some k_ ≠ (u3 : Value).ownBlock /\ some k_ ≠ (v4 : Value).ownBlock /\ k_ ≠ gb351) (.slice Ao25 t359.length co25) t359) /\ Zz (w'.heap[gb351]? = some (.cells #[.int .i64 ((Qaa x4_1 (ji5)).f0), .int .i64 ((Qaa x4_1 (ji5)).f1), .int .i64 ((Qaa x4_1 (ji5)).f2)] 32 (0,0))) /\ Zz (Below w.heap.size w w'))
     case atStart => exact ⟨(y352),(wrap64 ((t359.length : Int) - 1)),rf,H',⟨Nat.le_refl _⟩,⟨by (with_reducible repeat (first | apply Kd.R_alloc | apply Kd.R_drewN | apply Kd.R_drew)); exact Kd.R_mono HO_3.out (fun _ hk => ⟨hk.1.1,⟨hk.2,hk.1.2⟩⟩)⟩,⟨by (with_reducible repeat (first | apply Kd.R_alloc | apply Kd.R_drewN | apply Kd.R_drew)); exact Kd.R_mono HO_4.out (fun _ hk => ⟨hk.1.1,⟨hk.2,hk.1.2⟩⟩)⟩,⟨by (with_reducible repeat (first | apply Kd.R_alloc | apply Kd.R_drewN | apply Kd.R_drew)); exact Kd.R_mono HO361.out (fun _ hk => ⟨hk.1.1.2,⟨hk.1.2,hk.2⟩⟩)⟩,⟨kk BK351⟩,⟨bw HB⟩⟩
     case round =>
      clear H'
      obtain ⟨x4_3,x7_3,rfl,HA,HK3,HO_3,HO_4,HO_6,BK351,HB⟩:=hrel
      cases gk with
      | zero => exact absurd HA.out (by simp [r4_Order.l1])
      | succ k3 =>
       have H:=HA.out
       clear HA
       simp only [r4_Order.l1] at H
       by_cases c26 : x7_3 >= 0; rotate_left
       ·rw [if_neg c26] at H
        have c26b0:=Ze c26
        clear c26
        have H':=Zz.k H
        clear H
        go_wp2
        go_roundg k3
        case measure => have:=HK1.out; have:=HJ9.out; have:=HK3.out; omega
        case rel => exact ⟨(x3_9),(x4_3),H',⟨by have:=HK1.out; have:=HJ9.out; have:=HK3.out; omega⟩,⟨by (with_reducible repeat (first | apply Kd.R_alloc | apply Kd.R_drewN | apply Kd.R_drew)); exact Kd.R_mono HO_3.out (fun _ hk => hk.1)⟩,⟨by (with_reducible repeat (first | apply Kd.R_alloc | apply Kd.R_drewN | apply Kd.R_drew)); exact Kd.R_mono HO_4.out (fun _ hk => hk.1)⟩,⟨bw HB⟩⟩
       rw [if_pos c26] at H
       have c26b0:=Zd c26
       clear c26
       by_cases c27 : 0 <= x7_3; rotate_left
       ·rw [if_neg c27] at H
        exact absurd H (by simp)
       rw [if_pos c27] at H
       have c27b0:=Zd c27
       clear c27
       by_cases c28 : x7_3 < (t359.length : Int); rotate_left
       ·rw [if_neg c28] at H
        exact absurd H (by simp)
       rw [if_pos c28] at H
       have c28b0:=Zd c28
       clear c28
       by_cases c29 : x4_3.length < 5864062014805; rotate_left
       ·rw [if_neg c29] at H
        exact absurd H (by simp)
       rw [if_pos c29] at H
       have LMc29:=Zz.k c29
       clear c29
       obtain ⟨y363,hy363⟩ : ∃ y_ : List (SElem),y_ = (x4_3 ++ [(⟨(Qaa t359 x7_3).f0,(Qaa t359 x7_3).f1,(Qaa t359 x7_3).f2⟩ : SElem)]):=⟨_,rfl⟩
       first | rw [Option.bind_some,<- hy363] at H | rw [<- hy363] at H
       have Ny363:=Zz.k hy363
       clear hy363
       have H':=Zz.k H
       clear H
       have p362 : 0 <= (x7_3 : Int):=od
       have q362 : x7_3 < (t359.length : Int):=od
       obtain ⟨ad362,e362,hx362_0,hx362_1,hx362_2⟩:=Qbd (Kd.R_reads' HO_6.out).2.2 x7_3 p362 q362
       cases e362
       replace p362:=eq_true p362
       replace q362:=eq_true q362
       go_wp2_with (first | ((with_reducible refine Qbz (b:=.append) (xs:=#[.tmp 41, .tmp 46]) rfl ?_); at_builtin; refine Kd.R_append Qap (w0:=w) w.heap.size rfl (.tmp 41) (.tmp 46) 23 32 (.agg #[(.int .i64 0),(.int .i64 0),(.int .i64 0)]) 24 rfl Tryz.underlying23 info32 rfl (by decide) (by omega) u4 x4_3 (⟨(Qaa t359 x7_3).f0,(Qaa t359 x7_3).f1,(Qaa t359 x7_3).f2⟩ : SElem) [.int .i64 ((Qaa t359 x7_3).f0), .int .i64 ((Qaa t359 x7_3).f1), .int .i64 ((Qaa t359 x7_3).f2)] (fun k_ => some k_ ≠ (u3 : Value).ownBlock /\ some k_ ≠ (.slice (some ad362) t359.length co25 : Value).ownBlock /\ k_ ≠ gb351) (fun _ => False) rfl rfl ?aP (fun _ hk => hk.elim) ?aF ?aO ?aB ?aS ?aL ?_; (case aP => exact Qcd _ _ _ (⟨(Qaa t359 x7_3).f0,(Qaa t359 x7_3).f1,(Qaa t359 x7_3).f2⟩ : SElem)); (case aB => exact (bw HB)); (case aF => exact (fun k_ hk => ⟨Kd.fresh' (Kd.R_lt (rk HO_3)) k_ hk,Kd.fresh' (Kd.R_lt (rk HO_6)) k_ hk,Kd.freshB (kk BK351) k_ hk⟩)); (case aO => exact (rk HO_4)); (case aS => exact (Qal (bw HB))); (case aL => have:=LMc29.out; omega); intro v364 w30 ho hb hg hat; rw [<- Ny363.out] at ho; have n0_:=Zz.k (Kd.R_after (ok:=(fun k_ => some k_ ≠ (.slice (some ad362) t359.length co25 : Value).ownBlock /\ k_ ≠ gb351)) (by (with_reducible repeat (first | apply Kd.R_alloc | apply Kd.R_drewN | apply Kd.R_drew)); exact Kd.R_mono HO_3.out (fun _ hk => ⟨⟨hk.2.1,hk.2.2⟩,hk.1⟩)) hg hat); have n1_:=Zz.k (Kd.R_after (ok:=(fun k_ => some k_ ≠ (u3 : Value).ownBlock /\ k_ ≠ gb351)) (by (with_reducible repeat (first | apply Kd.R_alloc | apply Kd.R_drewN | apply Kd.R_drew)); exact Kd.R_mono HO_6.out (fun _ hk => ⟨⟨hk.1,hk.2.2⟩,hk.2.1⟩)) hg hat); have n2_:=Zz.k (Qcx (kk BK351) hg (Kd.R_away HO_4.out (fun _ hk => hk.2.2))); have n3_:=Zz.k (hb); have n4_:=Zz.k (ho); clear HO_3; clear HO_6; clear BK351; clear HB; clear HO_4; have HO_3:=n0_; have HO_6:=n1_; have BK351:=n2_; have HB:=n3_; have HO365:=n4_; clear n0_ n1_ n2_ n3_ n4_; clear ho hb hg hat))
       go_roundg k3
       case measure => have:=HK1.out; have:=HJ9.out; have:=HK3.out; omega
       case rel => exact ⟨(y363),(wrap64 (x7_3 - 1)),rf,H',⟨by have:=HK1.out; have:=HJ9.out; have:=HK3.out; omega⟩,⟨by (with_reducible repeat (first | apply Kd.R_alloc | apply Kd.R_drewN | apply Kd.R_drew)); exact Kd.R_mono HO_3.out (fun _ hk => ⟨hk.2,⟨hk.1.1,hk.1.2⟩⟩)⟩,⟨rk HO365⟩,⟨by (with_reducible repeat (first | apply Kd.R_alloc | apply Kd.R_drewN | apply Kd.R_drew)); exact Kd.R_mono HO_6.out (fun _ hk => ⟨hk.1.1,⟨hk.2,hk.1.2⟩⟩)⟩,⟨kk BK351⟩,⟨bw HB⟩⟩
end
section
attribute [local go_sem] Qbm Qbk Qbu Qbt Qbc Qbb Qbl Qbj
mutual
def r4_Visible.l0 : Nat -> List (SOp) -> List Bool -> Int -> Option ((List (SElem)))
 | 0,_,_,_ => none
 | k + 1,x0,x3,x4 => if x4 < (x0.length : Int) then (if 0 <= x4 then (if ((Qad x0 x4).f2) = 1 then ((r4_Effective.f k x0 ((Qad x0 x4).f0) ((Qad x0 x4).f1)).bind fun t372 => (if x4 < (x3.length : Int) then (r4_Visible.l0 k x0 (x3.set (x4 : Int).toNat t372) (wrap64 (x4 + 1))) else (none))) else (if x4 < (x3.length : Int) then (r4_Visible.l0 k x0 (x3.set (x4 : Int).toNat false) (wrap64 (x4 + 1))) else (none))) else (none)) else ((r4_Order.f k x0).bind fun t375 => (r4_Visible.l1 k x0 x3 ([] : List (SElem)) t375 0))
def r4_Visible.l1 : Nat -> List (SOp) -> List Bool -> List (SElem) -> List (SElem) -> Int -> Option ((List (SElem)))
 | 0,_,_,_,_,_ => none
 | k + 1,x0,x3,x5,x6,x7 => if x7 < (x6.length : Int) then (if 0 <= x7 then ((r4_Find.f k x0 ((Qaa x6 x7).f0) ((Qaa x6 x7).f1)).bind fun t380 => (if 0 <= t380 then (if t380 < (x3.length : Int) then (r4_Visible.l2 k x0 x3 x5 x6 x7 (rdOf false x3 t380) 0) else (none)) else (none))) else (none)) else (some x5)
def r4_Visible.l2 : Nat -> List (SOp) -> List Bool -> List (SElem) -> List (SElem) -> Int -> Bool -> Int -> Option ((List (SElem)))
 | 0,_,_,_,_,_,_,_ => none
 | k + 1,x0,x3,x5,x6,x7,x8,x9 => if x9 < (x0.length : Int) then (if x8 = true then (if 0 <= x9 then (if x9 < (x3.length : Int) then (if rdOf false x3 x9 = true then (if 0 <= x7 then (if x7 < (x6.length : Int) then ((r0_At.f k ((Qad x0 x9).f5) ((Qaa x6 x7).f0) ((Qaa x6 x7).f1) ((Qaa x6 x7).f2)).bind fun t385 => (r4_Visible.l2 k x0 x3 x5 x6 x7 (decide (t385 < 0)) (wrap64 (x9 + 1)))) else (none)) else (none)) else (r4_Visible.l2 k x0 x3 x5 x6 x7 true (wrap64 (x9 + 1)))) else (none)) else (none)) else (r4_Visible.l1 k x0 x3 x5 x6 (wrap64 (x7 + 1)))) else (if x8 = true then (if 0 <= x7 then (if x7 < (x6.length : Int) then (if x5.length < 5864062014805 then (r4_Visible.l1 k x0 x3 (x5 ++ [(⟨(Qaa x6 x7).f0,(Qaa x6 x7).f1,(Qaa x6 x7).f2⟩ : SElem)]) x6 (wrap64 (x7 + 1))) else (none)) else (none)) else (none)) else (r4_Visible.l1 k x0 x3 x5 x6 (wrap64 (x7 + 1))))
end
def r4_Visible.f (k : Nat) (l0 : List (SOp)) : Option ((List (SElem))):=if 0 <= (l0.length : Int) then (if ((l0.length : Int) : Int).toNat <= 281474976710656 then (r4_Visible.l0 k l0 (List.replicate ((l0.length : Int) : Int).toNat false) 0) else (none)) else (none)
def r4_Visible.T5 : Bool × List (List Nat × List Nat):=(true,[([],[]),([],[]),([],[]),([],[]),([2,3],[2,3]),([4],[4]),([5],[5]),([6],[6]),([7],[7]),([8],[8]),([8],[8]),([8],[8]),([10,11,8],[8,10,11]),([12,8],[8,12]),([13,8],[8,13]),([8],[8]),([8],[8]),([15,16,8],[8,15,16]),([17,8],[8,17]),([18,8],[8,18]),([9,14,19,8,8],[8,9,14,19]),([8,20],[8,20]),([0,1,0,1,2,3,4,5,6,7,8,9,10,11,12,13,14,15,16,17,18,19,20,21],[0,1]),([22,21,20,0,1,2,3,4,5,6,7,8,9,10,11,12,13,14,15,16,17,18,19,20,21],[21,22])])
def r4_Visible.B5 : List Nat:=[0,0,0,0,12,28,60,124,252,508,508,508,3580,7676,15868,508,508,98812,229884,492028,1048572,2097148,4194303,8388607]
theorem r4_Visible.tab5 : rtab .any (Qdb Tryz.f9 5) = r4_Visible.T5:=by kernel_rfl
theorem r4_Visible.bits5 : Qay r4_Visible.T5.2 r4_Visible.B5 = true:=by kernel_rfl
def r4_Visible.T11 : Bool × List (List Nat × List Nat):=(true,[([],[]),([],[]),([],[]),([],[]),([2,3],[2,3]),([4],[4]),([5],[5]),([],[]),([],[]),([7,8],[7,8]),([9],[9]),([10],[10]),([1,6,11],[1,6,11]),([0,12],[0,12]),([13],[13]),([14,12,0,1,2,3,4,5,6,7,8,9,10,11,12,13,14],[14])])
def r4_Visible.B11 : List Nat:=[0,0,0,0,12,28,60,0,0,384,896,1920,4094,8191,16383,32767]
theorem r4_Visible.tab11 : rtab .any (Qdb Tryz.f9 11) = r4_Visible.T11:=by kernel_rfl
theorem r4_Visible.bits11 : Qay r4_Visible.T11.2 r4_Visible.B11 = true:=by kernel_rfl
def r4_Visible.T15 : Bool × List (List Nat × List Nat):=(true,[([],[]),([],[]),([0,1],[0,1]),([2],[2]),([3],[3]),([4],[4]),([5],[5]),([5],[5]),([6,7,5],[5,6,7]),([8,5],[5,8]),([9,5],[5,9]),([5],[5]),([5],[5]),([11,12,5],[5,11,12]),([13,5],[5,13]),([10,14,5,5],[5,10,14]),([15,5],[5,15]),([5,16],[5,16]),([17,15,0,1,2,3,4,5,6,7,8,9,10,11,12,13,14,15,16,17],[17])])
def r4_Visible.B15 : List Nat:=[0,0,3,7,15,31,63,63,255,511,1023,63,63,6207,14399,32767,65535,131071,262143]
theorem r4_Visible.tab15 : rtab .any (Qdb Tryz.f9 15) = r4_Visible.T15:=by kernel_rfl
theorem r4_Visible.bits15 : Qay r4_Visible.T15.2 r4_Visible.B15 = true:=by kernel_rfl
theorem r4_Visible.calls (k : Nat) (A0 : Option Addr) (c0 : Nat) (l0 : List (SOp)) (r : List (SElem)) (w : World) (hr0 : Kd.C kOp w A0 l0.length l0) (hc0 : l0.length <= c0) (hT : GT w) (h : r4_Visible.f k l0 = some r) :
  Calls Tryz.prog 9 #[.slice A0 l0.length c0] w fun e w' => ∃ v0_ : Value,e = .returned (v0_) /\ Kd.R Qap 32 w' w.heap.size (fun _ => True) v0_ r /\ Below w.heap.size w w':=by
 have hu32:=Tryz.underlying32
 have HR0:=Zz.k hr0
 have HC0:=Zz.k hc0
 clear hr0 hc0
 have HB:=Zz.k (Below.refl w.heap.size w)
 unfold r4_Visible.f at h; have H:=h
 clear h
 by_cases c2 : 0 <= (l0.length : Int); rotate_left
 ·rw [if_neg c2] at H
  exact absurd H (by simp)
 rw [if_pos c2] at H
 have c2b0:=eq_true c2
 have c2b1:=Zd c2
 clear c2
 by_cases c3 : ((l0.length : Int) : Int).toNat <= 281474976710656; rotate_left
 ·rw [if_neg c3] at H
  exact absurd H (by simp)
 rw [if_pos c3] at H
 have c3b0:=eq_true c3
 have c3b1:=Zd c3
 clear c3
 obtain ⟨y366,hy366⟩ : ∃ y_ : List Bool,y_ = (List.replicate ((l0.length : Int) : Int).toNat false):=⟨_,rfl⟩
 first | rw [Option.bind_some,<- hy366] at H | rw [<- hy366] at H
 have Ny366:=Zz.k hy366
 clear hy366
 have H':=Zz.k H
 clear H
 go_enter Tryz.func9,Tryz.ntmps9
 go_wp2_with (first | ((with_reducible refine Qaf (N:=12) rfl ?_); refine Kd.R_make Kd.bool _ 4 rfl (N:=12) rfl 73 _ _ rfl (l0.length : Int) rfl rfl Tryz.underlying73 (.bool false) 1 info4 rfl (by decide) (by omega) false (ok:=fun _ => True) (okp:=fun _ => True) rfl (fun _ hk => hk) trivial (od) (Nat.le_trans (Nat.mul_le_mul_right _ (od : (l0.length : Int).toNat <= 281474976710656)) (by omega)) (Below.refl _ _) (Nat.le_refl _) ?_; intro v367 w4 ho5 hb hg_ hnew_; clear hg_ hnew_; (first | rw [<- Ny366.out] at ho5 | (simp only [Int.reduceToNat] at ho5; rw [<- Ny366.out] at ho5)); have HO368:=Zz.k (Kd.R_lower ho5 (Qal (bw HB))); replace HB:=bs HB hb; clear hb ho5))
 go_loopg [4] k (fun kq v4 w' => ∃ (x3_1 : List Bool) (x4_1 : Int),v4 = .int .i64 x4_1 /\ Zz (r4_Visible.l0 kq l0 x3_1 x4_1 = some r) /\ Zz (kq <= k) /\ Zz (Kd.R Kd.bool 4 w' w.heap.size (fun _ => True) v367 x3_1) /\ Zz (Below w.heap.size w w'))
 case atStart => exact ⟨(y366),(0),rf,H',⟨Nat.le_refl _⟩,⟨rk HO368⟩,⟨bw HB⟩⟩
 case round =>
  clear H'
  try clear c2b0; try clear c2b1; try clear c3b0; try clear c3b1
  obtain ⟨x3_1,x4_1,rfl,HA,HK1,HO_3,HB⟩:=hrel
  cases gk with
  | zero => exact absurd HA.out (by simp [r4_Visible.l0])
  | succ k1 =>
   have H:=HA.out
   clear HA
   simp only [r4_Visible.l0] at H
   by_cases c6 : x4_1 < (l0.length : Int); rotate_left
   ·rw [if_neg c6] at H
    have c6b0:=Ze c6
    clear c6
    obtain ⟨t375,A18,H⟩:=bE H
    have H':=Zz.k H
    clear H
    go_wp2_with (first | ((with_reducible refine Qac (f:=42) rfl ?_); refine gl (some 43) Tryz.func42 #[.slice A0 l0.length c0] (h := ?_); (with_reducible refine (r4_Order.calls k1 _ _ l0 t375 _ ?side1 ?side2 ?side3 A18.out).mono ?_); (case side1 => exact cb HR0 HB); (case side2 => exact HC0.out); (case side3 => exact (hT.below (bw HB))); rintro e w19 ⟨v376,rfl,ho0,hb⟩; refine ⟨_,rfl, ?_⟩; have HO377:=Zz.k (Kd.R_lower ho0 (Qal (bw HB))); replace HO_3:=rb HO_3 hb; replace HB:=bs HB hb; clear hb; clear ho0))
    go_loopg [5,7] k1 (fun kq v5 v7 w' => ∃ (x5_2 : List (SElem)) (x7_2 : Int),v7 = .int .i64 x7_2 /\ Zz (r4_Visible.l1 kq l0 x3_1 x5_2 t375 x7_2 = some r) /\ Zz (kq <= k1) /\ Zz (Kd.R Kd.bool 4 w' w.heap.size (fun _ => True) v367 x3_1) /\ Zz (Kd.R Qap 32 w' w.heap.size (fun k_ => some k_ ≠ (v376 : Value).ownBlock) v5 x5_2) /\ Zz (Kd.R Qap 32 w' w.heap.size (fun k_ => some k_ ≠ (v5 : Value).ownBlock) v376 t375) /\ Zz (Below w.heap.size w w'))
    case atStart => exact ⟨(([] : List (SElem))),(0),rf,H',⟨Nat.le_refl _⟩,⟨rk HO_3⟩,⟨by first | exact Kd.R_nil _ _ _ _ _ | exact Kd.N_nil _ _ _ _ _ | exact Kd.V_nil _ _ _ _ _ | exact Kd.Q_nil _ _ _ _ _ | exact Kd.S_nil _ _ _ _ _⟩,⟨by (with_reducible repeat (first | apply Kd.R_alloc | apply Kd.R_drewN | apply Kd.R_drew)); exact Kd.R_mono HO377.out (fun _ hk => (by simp [Value.ownBlock]))⟩,⟨bw HB⟩⟩
    case round =>
     clear H'
     try clear c6b0
     obtain ⟨x5_2,x7_2,rfl,HA,HK2,HO_3,HO_5,HO_6,HB⟩:=hrel
     cases gk with
     | zero => exact absurd HA.out (by simp [r4_Visible.l1])
     | succ k2 =>
      have H:=HA.out
      clear HA
      simp only [r4_Visible.l1] at H
      by_cases c20 : x7_2 < (t375.length : Int); rotate_left
      ·rw [if_neg c20] at H
       have c20b0:=Ze c20
       clear c20
       obtain rfl:=Zo H
       obtain ⟨Ao45,co45,eo45⟩:=Kd.R_slice HO_6.out
       subst eo45
       go_wp2
       go_ret
       exact ⟨_,re,by (with_reducible repeat (first | apply Kd.R_alloc | apply Kd.R_drewN | apply Kd.R_drew)); exact Kd.R_mono HO_5.out (fun _ hk => trivial),bw HB⟩
      rw [if_pos c20] at H
      have c20b0:=Zd c20
      clear c20
      by_cases c21 : 0 <= x7_2; rotate_left
      ·rw [if_neg c21] at H
       exact absurd H (by simp)
      rw [if_pos c21] at H
      have c21b0:=Zd c21
      clear c21
      obtain ⟨t380,A22,H⟩:=bE H
      by_cases c23 : 0 <= t380; rotate_left
      ·rw [if_neg c23] at H
       exact absurd H (by simp)
      rw [if_pos c23] at H
      have c23b0:=Zd c23
      clear c23
      by_cases c24 : t380 < (x3_1.length : Int); rotate_left
      ·rw [if_neg c24] at H
       exact absurd H (by simp)
      rw [if_pos c24] at H
      have c24b0:=Zd c24
      clear c24
      have H':=Zz.k H
      clear H
      obtain ⟨Ao25,co25,eo25⟩:=Kd.R_slice HO_6.out
      subst eo25
      try go_wp2
      have n0_:=Zz.k (Kd.R_drew HO_3.out)
      have n1_:=Zz.k (Kd.R_drew HO_5.out)
      have n2_:=Zz.k (Kd.R_drew HO_6.out)
      have n3_:=Zz.k (Qae HB.out)
      clear HO_3
      clear HO_5
      clear HO_6
      clear HB
      have HO_3:=n0_
      have HO_5:=n1_
      have HO_6:=n2_
      have HB:=n3_
      clear n0_ n1_ n2_ n3_
      have p378 : 0 <= (x7_2 : Int):=od
      have q378 : x7_2 < (t375.length : Int):=od
      obtain ⟨ad378,e378,hx378_0,hx378_1,hx378_2⟩:=Qbd (Kd.R_reads' HO_6.out).2.2 x7_2 p378 q378
      cases e378
      replace p378:=eq_true p378
      replace q378:=eq_true q378
      obtain ⟨Ab0,cb0,eb0⟩:=Kd.R_slice HO_3.out
      subst eb0
      have p381 : 0 <= (t380 : Int):=od
      have q381 : t380 < (x3_1.length : Int):=od
      obtain ⟨ad381,e381,hx381_0⟩:=Kd.at_bool (Kd.R_reads' HO_3.out).2.2 t380 p381 q381
      cases e381
      replace p381:=eq_true p381
      replace q381:=eq_true q381
      refine stP (fun w' => w'.cell? (ad378.add ((x7_2).toNat * 3)) = some (.int .i64 ((Qaa t375 x7_2).f0)) /\ w'.cell? ⟨(ad378.add ((x7_2).toNat * 3)).block,(ad378.add ((x7_2).toNat * 3)).off + 1,none⟩ = some (.int .i64 ((Qaa t375 x7_2).f1)) /\ w'.cell? ⟨(ad378.add ((x7_2).toNat * 3)).block,(ad378.add ((x7_2).toNat * 3)).off + 2,none⟩ = some (.int .i64 ((Qaa t375 x7_2).f2)) /\ w'.cell? (ad381.add (t380).toNat) = some (.bool (rdOf false x3_1 t380))) 16 ⟨hx378_0,hx378_1,hx378_2,hx381_0⟩ (h:=fun hHeld => ?_); refine Qaw r4_Visible.tab11 r4_Visible.bits11 (fun HT_ HW_ => ?_)
      generalize wr.drew = w26 at HO_3 HO_5 HO_6 HB hx378_0 hx378_1 hx378_2 hx378_0 hx378_1 hx378_2 hx381_0 hHeld ⊢
      refine pu HT_ 0 50 1 (h := ?_)
      refine pu HT_ 1 51 3 (h := ?_)
      refine pu HT_ 2 52 7 (h := ?_)
      refine pu HT_ 3 53 15 (h := ?_)
      refine pu HT_ 4 54 31 (h := ?_)
      refine pu HT_ 5 55 63 (h := ?_)
      refine pu HT_ 7 57 191 (h := ?_)
      refine pu HT_ 8 58 447 (h := ?_)
      refine pu HT_ 9 59 959 (h := ?_)
      refine pu HT_ 10 60 1983 (h := ?_)
      refine tk HT_ HW_ hHeld 6 56 2047 (h := ?_)
      refine tk HT_ HW_ hHeld 11 61 4095 (h := ?_)
      refine on HT_ 12 (some 62) 8191 (h:=fun K hK => ?_)
      refine gS Tryz.func43 #[.slice A0 l0.length c0, .int .i64 ((Qaa t375 x7_2).f0), .int .i64 ((Qaa t375 x7_2).f1)] (h := ?_)
      with_reducible refine (r4_Find.calls k2 _ _ l0 ((Qaa t375 x7_2).f0) ((Qaa t375 x7_2).f1) t380 _ ?side1 ?side2 A22.out).mono ?_
      (case side1 => exact cb HR0 HB)
      (case side2 => exact HC0.out)
      rintro e w' ⟨rfl,⟨nd,rfl⟩⟩
      refine ⟨_,rfl, ?_⟩
      obtain ⟨Ao27,co27,eo27⟩:=Kd.R_slice HO_3.out
      (first | subst eo27 | (injection eo27 with f1_ f2_ f3_; have f4_:=f1_.symm; have f5_:=f3_.symm; clear f1_ f2_ f3_; subst f4_; subst f5_))
      refine hK.out _ _ ⟨hHeld.1,hHeld.2.1,hHeld.2.2.1,hHeld.2.2.2⟩ (fun hHeld => ?_)
      clear hK K
      refine nn 62 (h := ?_)
      refine pu HT_ 13 63 16383 (h := ?_)
      refine tk HT_ HW_ hHeld 14 64 32767 (h := ?_)
      refine pu HT_ 15 8 65535 (h := ?_)
      refine dn HT_ (h := ?_)
      try go_wp2
      go_loopg [8,9] k2 (fun kq v8 v9 w' => ∃ (x8_3 : Bool) (x9_3 : Int),v8 = .bool x8_3 /\ v9 = .int .i64 x9_3 /\ Zz (r4_Visible.l2 kq l0 x3_1 x5_2 t375 x7_2 x8_3 x9_3 = some r) /\ Zz (kq <= k2) /\ Zz (Kd.R Kd.bool 4 w' w.heap.size (fun _ => True) (.slice (some ad381) x3_1.length co27) x3_1) /\ Zz (Kd.R Qap 32 w' w.heap.size (fun k_ => some k_ ≠ ((.slice (some ad378) t375.length co25) : Value).ownBlock) u5 x5_2) /\ Zz (Kd.R Qap 32 w' w.heap.size (fun k_ => some k_ ≠ (u5 : Value).ownBlock) (.slice (some ad378) t375.length co25) t375) /\ Zz (Below w.heap.size w w'))
      case atStart => exact ⟨(rdOf false x3_1 t380),(0),rf,rf,H',⟨Nat.le_refl _⟩,⟨rk HO_3⟩,⟨rk HO_5⟩,⟨rk HO_6⟩,⟨bw HB⟩⟩
      case round =>
       clear H'
       try clear c20b0; try clear c21b0; try clear c23b0; try clear c24b0; try clear hx378_0; try clear hx378_1; try clear hx378_2; try clear hx378_0; try clear hx378_1; try clear hx378_2; try clear hx381_0; try clear p378; try clear p378; try clear p381; try clear q378; try clear q378; try clear q381
       obtain ⟨x8_3,x9_3,rfl,rfl,HA,HK3,HO_3,HO_5,HO_6,HB⟩:=hrel
       cases gk with
       | zero => exact absurd HA.out (by simp [r4_Visible.l2])
       | succ k3 =>
        have H:=HA.out
        clear HA
        simp only [r4_Visible.l2] at H
        by_cases c28 : x9_3 < (l0.length : Int); rotate_left
        ·rw [if_neg c28] at H
         have c28b0:=Ze c28
         clear c28
         by_cases c40 : x8_3 = true; rotate_left
         ·replace c40:=Zf c40
          subst c40
          rw [if_neg nft] at H
          have H':=Zz.k H
          clear H
          go_wp2
          go_roundg k3
          case measure => have:=HK1.out; have:=HK2.out; have:=HK3.out; omega
          case rel => exact ⟨(x5_2),(wrap64 (x7_2 + 1)),rf,H',⟨by have:=HK1.out; have:=HK2.out; have:=HK3.out; omega⟩,⟨rk HO_3⟩,⟨rk HO_5⟩,⟨rk HO_6⟩,⟨bw HB⟩⟩
         subst c40
         rw [if_pos rfl] at H
         by_cases c41 : 0 <= x7_2; rotate_left
         ·rw [if_neg c41] at H
          exact absurd H (by simp)
         rw [if_pos c41] at H
         have c41b0:=Zd c41
         clear c41
         by_cases c42 : x7_2 < (t375.length : Int); rotate_left
         ·rw [if_neg c42] at H
          exact absurd H (by simp)
         rw [if_pos c42] at H
         have c42b0:=Zd c42
         clear c42
         by_cases c43 : x5_2.length < 5864062014805; rotate_left
         ·rw [if_neg c43] at H
          exact absurd H (by simp)
         rw [if_pos c43] at H
         have LMc43:=Zz.k c43
         clear c43
         obtain ⟨y387,hy387⟩ : ∃ y_ : List (SElem),y_ = (x5_2 ++ [(⟨(Qaa t375 x7_2).f0,(Qaa t375 x7_2).f1,(Qaa t375 x7_2).f2⟩ : SElem)]):=⟨_,rfl⟩
         first | rw [Option.bind_some,<- hy387] at H | rw [<- hy387] at H
         have Ny387:=Zz.k hy387
         clear hy387
         have H':=Zz.k H
         clear H
         have p386 : 0 <= (x7_2 : Int):=od
         have q386 : x7_2 < (t375.length : Int):=od
         obtain ⟨ad386,e386,hx386_0,hx386_1,hx386_2⟩:=Qbd (Kd.R_reads' HO_6.out).2.2 x7_2 p386 q386
         obtain rfl : ad378 = ad386:=(by injection e386)
         replace p386:=eq_true p386
         replace q386:=eq_true q386
         go_wp2_with (first | ((with_reducible refine Qbz (b:=.append) (xs:=#[.tmp 93, .tmp 98]) rfl ?_); at_builtin; refine Kd.R_append Qap (w0:=w) w.heap.size rfl (.tmp 93) (.tmp 98) 23 32 (.agg #[(.int .i64 0),(.int .i64 0),(.int .i64 0)]) 24 rfl Tryz.underlying23 info32 rfl (by decide) (by omega) u5 x5_2 (⟨(Qaa t375 x7_2).f0,(Qaa t375 x7_2).f1,(Qaa t375 x7_2).f2⟩ : SElem) [.int .i64 ((Qaa t375 x7_2).f0), .int .i64 ((Qaa t375 x7_2).f1), .int .i64 ((Qaa t375 x7_2).f2)] (fun k_ => some k_ ≠ (.slice (some ad378) t375.length co25 : Value).ownBlock) (fun _ => False) rfl rfl ?aP (fun _ hk => hk.elim) ?aF ?aO ?aB ?aS ?aL ?_; (case aP => exact Qcd _ _ _ (⟨(Qaa t375 x7_2).f0,(Qaa t375 x7_2).f1,(Qaa t375 x7_2).f2⟩ : SElem)); (case aB => exact (bw HB)); (case aF => exact (fun k_ hk => Kd.fresh' (Kd.R_lt (rk HO_6)) k_ hk)); (case aO => exact (rk HO_5)); (case aS => exact (Qal (bw HB))); (case aL => have:=LMc43.out; omega); intro v388 w44 ho hb hg hat; rw [<- Ny387.out] at ho; have n0_:=Zz.k (Kd.R_over' (rk HO_3) (Kd.R_typed (rk HO_5)) (by decide) hg); have n1_:=Zz.k (Kd.R_after (ok:=(fun _ => True)) (by (with_reducible repeat (first | apply Kd.R_alloc | apply Kd.R_drewN | apply Kd.R_drew)); exact Kd.R_mono HO_6.out (fun _ hk => ⟨trivial,hk⟩)) hg hat); have n2_:=Zz.k (hb); have n3_:=Zz.k (ho); clear HO_3; clear HO_6; clear HB; clear HO_5; have HO_3:=n0_; have HO_6:=n1_; have HB:=n2_; have HO389:=n3_; clear n0_ n1_ n2_ n3_; clear ho hb hg hat))
         go_roundg k3
         case measure => have:=HK1.out; have:=HK2.out; have:=HK3.out; omega
         case rel => exact ⟨(y387),(wrap64 (x7_2 + 1)),rf,H',⟨by have:=HK1.out; have:=HK2.out; have:=HK3.out; omega⟩,⟨rk HO_3⟩,⟨rk HO389⟩,⟨by (with_reducible repeat (first | apply Kd.R_alloc | apply Kd.R_drewN | apply Kd.R_drew)); exact Kd.R_mono HO_6.out (fun _ hk => hk.2)⟩,⟨bw HB⟩⟩
        rw [if_pos c28] at H
        have c28b0:=Zd c28
        clear c28
        by_cases c29 : x8_3 = true; rotate_left
        ·replace c29:=Zf c29
         subst c29
         rw [if_neg nft] at H
         have H':=Zz.k H
         clear H
         go_wp2
         go_roundg k3
         case measure => have:=HK1.out; have:=HK2.out; have:=HK3.out; omega
         case rel => exact ⟨(x5_2),(wrap64 (x7_2 + 1)),rf,H',⟨by have:=HK1.out; have:=HK2.out; have:=HK3.out; omega⟩,⟨rk HO_3⟩,⟨rk HO_5⟩,⟨rk HO_6⟩,⟨bw HB⟩⟩
        subst c29
        rw [if_pos rfl] at H
        by_cases c30 : 0 <= x9_3; rotate_left
        ·rw [if_neg c30] at H
         exact absurd H (by simp)
        rw [if_pos c30] at H
        have c30b0:=Zd c30
        clear c30
        by_cases c31 : x9_3 < (x3_1.length : Int); rotate_left
        ·rw [if_neg c31] at H
         exact absurd H (by simp)
        rw [if_pos c31] at H
        have c31b0:=Zd c31
        clear c31
        obtain ⟨bq32,hbq32⟩ : ∃ b_ : Bool,b_ = (rdOf false x3_1 x9_3):=⟨_,rfl⟩
        replace H : (if bq32 = true then (if 0 <= x7_2 then (if x7_2 < (t375.length : Int) then ((r0_At.f k3 ((Qad l0 x9_3).f5) ((Qaa t375 x7_2).f0) ((Qaa t375 x7_2).f1) ((Qaa t375 x7_2).f2)).bind fun t385 => (r4_Visible.l2 k3 l0 x3_1 x5_2 t375 x7_2 (decide (t385 < 0)) (wrap64 (x9_3 + 1)))) else (none)) else (none)) else (r4_Visible.l2 k3 l0 x3_1 x5_2 t375 x7_2 true (wrap64 (x9_3 + 1)))) = some r:=by rw [<- hbq32] at H; exact H
        have Nbq32:=Zz.k hbq32
        clear hbq32
        by_cases c33 : bq32 = true; rotate_left
        ·replace c33:=Zf c33
         subst c33
         rw [if_neg nft] at H
         have H':=Zz.k H
         clear H
         try go_wp2
         have n0_:=Zz.k (Kd.R_drew HO_3.out)
         have n1_:=Zz.k (Kd.R_drew HO_5.out)
         have n2_:=Zz.k (Kd.R_drew HO_6.out)
         have n3_:=Zz.k (Qae HB.out)
         clear HO_3
         clear HO_5
         clear HO_6
         clear HB
         have HO_3:=n0_
         have HO_5:=n1_
         have HO_6:=n2_
         have HB:=n3_
         clear n0_ n1_ n2_ n3_
         have p382 : 0 <= (x9_3 : Int):=od
         have q382 : x9_3 < (x3_1.length : Int):=od
         obtain ⟨ad382,e382,hx382_0⟩:=Kd.at_bool (Kd.R_reads' HO_3.out).2.2 x9_3 p382 q382
         (try rw [<- Nbq32.out] at hx382_0)
         obtain rfl : ad381 = ad382:=(by injection e382)
         replace p382:=eq_true p382
         replace q382:=eq_true q382
         refine stP (fun w' => w'.cell? (ad381.add (x9_3).toNat) = some (.bool false)) 19 (hx382_0) (h:=fun hHeld => ?_); refine Qaw r4_Visible.tab15 r4_Visible.bits15 (fun HT_ HW_ => ?_)
         generalize wr.drew = w39 at HO_3 HO_5 HO_6 HB hx382_0 hHeld ⊢
         refine pu HT_ 0 74 1 (h := ?_)
         refine pu HT_ 1 75 3 (h := ?_)
         refine pu HT_ 2 76 7 (h := ?_)
         refine tk HT_ HW_ hHeld 3 77 15 (h := ?_)
         refine pu HT_ 4 78 31 (h := ?_)
         refine pu HT_ 5 79 63 (h := ?_)
         refine off HT_ 6 80 127 (h := ?_)
         refine off HT_ 7 81 255 (h := ?_)
         refine off HT_ 8 82 511 (h := ?_)
         refine off HT_ 9 83 1023 (h := ?_)
         refine off HT_ 10 84 2047 (h := ?_)
         refine off HT_ 11 85 4095 (h := ?_)
         refine off HT_ 12 86 8191 (h := ?_)
         refine off HT_ 13 87 16383 (h := ?_)
         refine off HT_ 14 88 32767 (h := ?_)
         refine off HT_ 15 89 65535 (h := ?_)
         refine off HT_ 16 90 131071 (h := ?_)
         refine pu HT_ 17 91 262143 (h := ?_)
         refine pu HT_ 18 8 524287 (h := ?_)
         refine dn HT_ (h := ?_)
         try go_wp2
         go_roundg k3
         case measure => have:=HK1.out; have:=HK2.out; have:=HK3.out; omega
         case rel => exact ⟨(true),(wrap64 (x9_3 + 1)),rf,rf,H',⟨by have:=HK1.out; have:=HK2.out; have:=HK3.out; omega⟩,⟨rk HO_3⟩,⟨rk HO_5⟩,⟨rk HO_6⟩,⟨bw HB⟩⟩
        subst c33
        rw [if_pos rfl] at H
        by_cases c34 : 0 <= x7_2; rotate_left
        ·rw [if_neg c34] at H
         exact absurd H (by simp)
        rw [if_pos c34] at H
        have c34b0:=Zd c34
        clear c34
        by_cases c35 : x7_2 < (t375.length : Int); rotate_left
        ·rw [if_neg c35] at H
         exact absurd H (by simp)
        rw [if_pos c35] at H
        have c35b0:=Zd c35
        clear c35
        obtain ⟨t385,A36,H⟩:=bE H
        have H':=Zz.k H
        clear H
        try go_wp2
        have n0_:=Zz.k (Kd.R_drew HO_3.out)
        have n1_:=Zz.k (Kd.R_drew HO_5.out)
        have n2_:=Zz.k (Kd.R_drew HO_6.out)
        have n3_:=Zz.k (Qae HB.out)
        clear HO_3
        clear HO_5
        clear HO_6
        clear HB
        have HO_3:=n0_
        have HO_5:=n1_
        have HO_6:=n2_
        have HB:=n3_
        clear n0_ n1_ n2_ n3_
        have p382 : 0 <= (x9_3 : Int):=od
        have q382 : x9_3 < (x3_1.length : Int):=od
        obtain ⟨ad382,e382,hx382_0⟩:=Kd.at_bool (Kd.R_reads' HO_3.out).2.2 x9_3 p382 q382
        (try rw [<- Nbq32.out] at hx382_0)
        obtain rfl : ad381 = ad382:=(by injection e382)
        replace p382:=eq_true p382
        replace q382:=eq_true q382
        have p383 : 0 <= (x9_3 : Int):=od
        have q383 : x9_3 < (l0.length : Int):=od
        obtain ⟨ad383,A383_7,c383_7,e383,hx383_0,hx383_1,hx383_2,hx383_3,hx383_4,hx383_5,hx383_6,hx383_7,hx383_8,hx383_9,hx383_10,hl383_7,hi383_7⟩:=Qcg HR0.out x9_3 p383 q383
        have hw383_10:=hx383_10
        have hw383_9:=hx383_9
        have hw383_8:=hx383_8
        have hw383_7:=hx383_7
        have hw383_6:=hx383_6
        have hw383_5:=hx383_5
        have hw383_4:=hx383_4
        have hw383_3:=hx383_3
        have hw383_2:=hx383_2
        have hw383_1:=hx383_1
        have hw383_0:=hx383_0
        cases e383
        replace hx383_0:=cl HB hx383_0
        replace hx383_1:=cl HB hx383_1
        replace hx383_2:=cl HB hx383_2
        replace hx383_3:=cl HB hx383_3
        replace hx383_4:=cl HB hx383_4
        replace hx383_5:=cl HB hx383_5
        replace hx383_6:=cl HB hx383_6
        replace hx383_7:=cl HB hx383_7
        replace hx383_8:=cl HB hx383_8
        replace hx383_9:=cl HB hx383_9
        replace hx383_10:=cl HB hx383_10
        have HR383_7:=Zz.k hi383_7
        have HC383_7:=Zz.k hl383_7
        clear hi383_7 hl383_7
        replace p383:=eq_true p383
        replace q383:=eq_true q383
        have p384 : 0 <= (x7_2 : Int):=od
        have q384 : x7_2 < (t375.length : Int):=od
        obtain ⟨ad384,e384,hx384_0,hx384_1,hx384_2⟩:=Qbd (Kd.R_reads' HO_6.out).2.2 x7_2 p384 q384
        obtain rfl : ad378 = ad384:=(by injection e384)
        replace p384:=eq_true p384
        replace q384:=eq_true q384
        refine stP (fun w' => w'.cell? (ad381.add (x9_3).toNat) = some (.bool true) /\ P11 w' (ad383.add ((x9_3).toNat * 11)) (Qad l0 x9_3) A383_7 c383_7 (w'.cell? (ad378.add ((x7_2).toNat * 3)) = some (.int .i64 ((Qaa t375 x7_2).f0)) /\ w'.cell? ⟨(ad378.add ((x7_2).toNat * 3)).block,(ad378.add ((x7_2).toNat * 3)).off + 1,none⟩ = some (.int .i64 ((Qaa t375 x7_2).f1)) /\ w'.cell? ⟨(ad378.add ((x7_2).toNat * 3)).block,(ad378.add ((x7_2).toNat * 3)).off + 2,none⟩ = some (.int .i64 ((Qaa t375 x7_2).f2)))) 19 ⟨hx382_0,(cW HB hw383_0),(cW HB hw383_1),(cW HB hw383_2),(cW HB hw383_3),(cW HB hw383_4),(cW HB hw383_5),(cW HB hw383_6),(cW HB hw383_7),(cW HB hw383_8),(cW HB hw383_9),(cW HB hw383_10),hx384_0,hx384_1,hx384_2⟩ (h:=fun hHeld => ?_); refine Qaw r4_Visible.tab15 r4_Visible.bits15 (fun HT_ HW_ => ?_)
        generalize wr.drew = w37 at HO_3 HO_5 HO_6 HB HR383_7 hx382_0 hx383_0 hx383_1 hx383_10 hx383_2 hx383_3 hx383_4 hx383_5 hx383_6 hx383_7 hx383_8 hx383_9 hx384_0 hx384_1 hx384_2 hHeld ⊢
        refine pu HT_ 0 74 1 (h := ?_)
        refine pu HT_ 1 75 3 (h := ?_)
        refine pu HT_ 2 76 7 (h := ?_)
        refine tk HT_ HW_ hHeld 3 77 15 (h := ?_)
        refine pu HT_ 4 78 31 (h := ?_)
        refine pu HT_ 5 79 63 (h := ?_)
        refine pu HT_ 6 80 127 (h := ?_)
        refine pu HT_ 7 81 255 (h := ?_)
        refine pu HT_ 8 82 511 (h := ?_)
        refine pu HT_ 9 83 1023 (h := ?_)
        refine pu HT_ 11 85 3071 (h := ?_)
        refine pu HT_ 12 86 7167 (h := ?_)
        refine pu HT_ 13 87 15359 (h := ?_)
        refine tk HT_ HW_ hHeld 10 84 16383 (h := ?_)
        refine tk HT_ HW_ hHeld 14 88 32767 (h := ?_)
        refine on HT_ 15 (some 89) 65535 (h:=fun K hK => ?_)
        refine gS Tryz.func15 #[.slice A383_7 ((Qad l0 x9_3).f5).length c383_7, .agg #[.int .i64 ((Qaa t375 x7_2).f0), .int .i64 ((Qaa t375 x7_2).f1), .int .i64 ((Qaa t375 x7_2).f2)]] (h := ?_)
        with_reducible refine (r0_At.calls k3 _ _ ((Qad l0 x9_3).f5) ((Qaa t375 x7_2).f0) ((Qaa t375 x7_2).f1) ((Qaa t375 x7_2).f2) t385 _ ?side1 ?side2 A36.out).mono ?_
        (case side1 => exact cb HR383_7 HB)
        (case side2 => exact HC383_7.out)
        rintro e w38 ⟨rfl,hb⟩
        have HS0_:=(hb.cell (World.block_lt_of_cell? _ _ (hHeld.1))).trans (hHeld.1)
        have HS12_:=(hb.cell (World.block_lt_of_cell? _ _ (hHeld.2.2.2.2.2.2.2.2.2.2.2.2.1))).trans (hHeld.2.2.2.2.2.2.2.2.2.2.2.2.1)
        have HS13_:=(hb.cell (World.block_lt_of_cell? _ _ (hHeld.2.2.2.2.2.2.2.2.2.2.2.2.2.1))).trans (hHeld.2.2.2.2.2.2.2.2.2.2.2.2.2.1)
        have HS14_:=(hb.cell (World.block_lt_of_cell? _ _ (hHeld.2.2.2.2.2.2.2.2.2.2.2.2.2.2))).trans (hHeld.2.2.2.2.2.2.2.2.2.2.2.2.2.2)
        refine ⟨_,rfl, ?_⟩
        have n0_:=rb HO_3 hb
        have n1_:=rb HO_5 hb
        have n2_:=rb HO_6 hb
        have n3_:=bs HB hb
        clear HO_3
        clear HO_5
        clear HO_6
        clear HB
        have HO_3:=n0_
        have HO_5:=n1_
        have HO_6:=n2_
        have HB:=n3_
        clear n0_ n1_ n2_ n3_
        (try clear hb)
        (try clear hb2)
        (try clear hk)
        (try clear hi)
        refine hK.out _ _ ⟨HS0_,(cW HB hw383_0),(cW HB hw383_1),(cW HB hw383_2),(cW HB hw383_3),(cW HB hw383_4),(cW HB hw383_5),(cW HB hw383_6),(cW HB hw383_7),(cW HB hw383_8),(cW HB hw383_9),(cW HB hw383_10),HS12_,HS13_,HS14_⟩ (fun hHeld => ?_)
        clear hK K
        refine nn 89 (h := ?_)
        refine pu HT_ 16 90 131071 (h := ?_)
        refine pu HT_ 17 91 262143 (h := ?_)
        refine pu HT_ 18 8 524287 (h := ?_)
        refine dn HT_ (h := ?_)
        try go_wp2
        go_roundg k3
        case measure => have:=HK1.out; have:=HK2.out; have:=HK3.out; omega
        case rel => exact ⟨(decide (t385 < 0)),(wrap64 (x9_3 + 1)),rf,rf,H',⟨by have:=HK1.out; have:=HK2.out; have:=HK3.out; omega⟩,⟨rk HO_3⟩,⟨rk HO_5⟩,⟨rk HO_6⟩,⟨bw HB⟩⟩
   rw [if_pos c6] at H
   have c6b0:=Zd c6
   clear c6
   by_cases c7 : 0 <= x4_1; rotate_left
   ·rw [if_neg c7] at H
    exact absurd H (by simp)
   rw [if_pos c7] at H
   have c7b0:=Zd c7
   clear c7
   by_cases c8 : ((Qad l0 x4_1).f2) = 1; rotate_left
   ·rw [if_neg c8] at H
    obtain ⟨c8b0,c8b1⟩:=bF c8
    by_cases c14 : x4_1 < (x3_1.length : Int); rotate_left
    ·rw [if_neg c14] at H
     exact absurd H (by simp)
    rw [if_pos c14] at H
    have c14b0:=Zd c14
    clear c14
    obtain ⟨y374,hy374⟩ : ∃ y_ : List Bool,y_ = (x3_1.set (x4_1 : Int).toNat false):=⟨_,rfl⟩
    first | rw [Option.bind_some,<- hy374] at H | rw [<- hy374] at H
    have Ny374:=Zz.k hy374
    clear hy374
    have H':=Zz.k H
    clear H
    try go_wp2
    have n0_:=Zz.k (Kd.R_drew HO_3.out)
    have n1_:=Zz.k (Qae HB.out)
    clear HO_3
    clear HB
    have HO_3:=n0_
    have HB:=n1_
    clear n0_ n1_
    have p369 : 0 <= (x4_1 : Int):=od
    have q369 : x4_1 < (l0.length : Int):=od
    obtain ⟨ad369,A369_7,c369_7,e369,hx369_0,hx369_1,hx369_2,hx369_3,hx369_4,hx369_5,hx369_6,hx369_7,hx369_8,hx369_9,hx369_10,hl369_7,hi369_7⟩:=Qcg HR0.out x4_1 p369 q369
    have hw369_10:=hx369_10
    have hw369_9:=hx369_9
    have hw369_8:=hx369_8
    have hw369_7:=hx369_7
    have hw369_6:=hx369_6
    have hw369_5:=hx369_5
    have hw369_4:=hx369_4
    have hw369_3:=hx369_3
    have hw369_2:=hx369_2
    have hw369_1:=hx369_1
    have hw369_0:=hx369_0
    cases e369
    replace hx369_0:=cl HB hx369_0
    replace hx369_1:=cl HB hx369_1
    replace hx369_2:=cl HB hx369_2
    replace hx369_3:=cl HB hx369_3
    replace hx369_4:=cl HB hx369_4
    replace hx369_5:=cl HB hx369_5
    replace hx369_6:=cl HB hx369_6
    replace hx369_7:=cl HB hx369_7
    replace hx369_8:=cl HB hx369_8
    replace hx369_9:=cl HB hx369_9
    replace hx369_10:=cl HB hx369_10
    have HR369_7:=Zz.k hi369_7
    have HC369_7:=Zz.k hl369_7
    clear hi369_7 hl369_7
    replace p369:=eq_true p369
    replace q369:=eq_true q369
    have p15 : 0 <= (x4_1 : Int):=od
    have q15 : (x4_1 : Int) < ((x3_1.length : Int) : Int):=od
    obtain ⟨go15,co15,eo15,gb15,gl15,cl15,HG15⟩:=Kd.R_form HO_3.out (by omega)
    (first | cases eo15 | (injection eo15 with ea_ en_ ec_; (first | subst ea_ | (injection ea_ with ea_; subst ea_)); subst ec_; clear en_))
    have GB15:=Zz.k gb15
    have GG15:=Zz.k HG15
    clear gb15 gl15 HG15
    obtain ⟨hx15_0,hf15_0⟩:=Kd.R_celln false HO_3.out (x4_1 : Int) p15 q15
    replace p15:=eq_true p15
    replace q15:=eq_true q15
    have HP17:=Kd.R_putn HO_3.out (x4_1 : Int) false
    rw [<- Ny374.out] at HP17
    have HQ17:=Zz.k HP17
    clear HP17
    refine start_ (n:=24) (S:=fun w' => Q11 w' (ad369.add ((x4_1).toNat * 11)) (Qad l0 x4_1) A369_7 c369_7) (ds:=[23]) #[false,false,false,false,false,false,false,false,false,false,false,false,false,false,false,false,false,false,false,false,false,false,false,false] (by kernel_rfl) rfl rfl ⟨(cW HB hw369_0),(cW HB hw369_1),(cW HB hw369_2),(cW HB hw369_3),(cW HB hw369_4),(cW HB hw369_5),(cW HB hw369_6),(cW HB hw369_7),(cW HB hw369_8),(cW HB hw369_9),(cW HB hw369_10)⟩ (fun hHeld => ?_); refine Qaw r4_Visible.tab5 r4_Visible.bits5 (fun HT_ HW_ => ?_)
    generalize wr.drew = w16 at HO_3 HB GG15 HQ17 HR369_7 hf15_0 hx15_0 hx369_0 hx369_1 hx369_10 hx369_2 hx369_3 hx369_4 hx369_5 hx369_6 hx369_7 hx369_8 hx369_9 hHeld ⊢
    refine Qcc (i:=0) (N:=some 19) (v := ?_) (a' := ?_) #[true,false,false,false,false,false,false,false,false,false,false,false,false,false,false,false,false,false,false,false,false,false,false,false] rfl rfl (Qbn HT_.out (by kernel_rfl)) (fun _ _ _ h => h) (Or.inl ⟨by rfl, ?_⟩) ?_ ?_
    rotate_left
    ·intro w'
     go_simp
     with_reducible rfl
    rotate_left
    ·simp only [Act.put,List.setIfInBounds_toArray,List.set_cons_zero,List.set_cons_succ,Qbe,Qbi]
     rfl
    refine Qcc (i:=1) (N:=some 20) (v := ?_) (a' := ?_) #[true,true,false,false,false,false,false,false,false,false,false,false,false,false,false,false,false,false,false,false,false,false,false,false] rfl rfl (Qbn HT_.out (by kernel_rfl)) (fun _ _ _ h => h) (Or.inl ⟨by rfl, ?_⟩) ?_ ?_
    rotate_left
    ·intro w'
     go_simp
     with_reducible rfl
    rotate_left
    ·simp only [Act.put,List.setIfInBounds_toArray,List.set_cons_zero,List.set_cons_succ,Qbe,Qbi]
     rfl
    refine Qcc (i:=2) (N:=some 21) (v := ?_) (a' := ?_) #[true,true,true,false,false,false,false,false,false,false,false,false,false,false,false,false,false,false,false,false,false,false,false,false] rfl rfl (Qbn HT_.out (by kernel_rfl)) (fun _ _ _ h => h) (Or.inl ⟨by rfl, ?_⟩) ?_ ?_
    rotate_left
    ·intro w'
     go_simp
     with_reducible rfl
    rotate_left
    ·simp only [Act.put,List.setIfInBounds_toArray,List.set_cons_zero,List.set_cons_succ,Qbe,Qbi]
     rfl
    refine Qcc (i:=3) (N:=some 22) (v := ?_) (a' := ?_) #[true,true,true,true,false,false,false,false,false,false,false,false,false,false,false,false,false,false,false,false,false,false,false,false] rfl rfl (Qbn HT_.out (by kernel_rfl)) (fun _ _ _ h => h) (Or.inl ⟨by rfl, ?_⟩) ?_ ?_
    rotate_left
    ·intro w'
     go_simp
     with_reducible rfl
    rotate_left
    ·simp only [Act.put,List.setIfInBounds_toArray,List.set_cons_zero,List.set_cons_succ,Qbe,Qbi]
     rfl
    refine Qcc (i:=4) (N:=some 23) (v := ?_) (a' := ?_) #[true,true,true,true,true,false,false,false,false,false,false,false,false,false,false,false,false,false,false,false,false,false,false,false] rfl rfl (Qbn HT_.out (by kernel_rfl)) (fun _ _ _ h => h) (Or.inl ⟨by rfl, ?_⟩) ?_ ?_
    rotate_left
    ·intro w'
     go_simp
     with_reducible rfl
    rotate_left
    ·simp only [Act.put,List.setIfInBounds_toArray,List.set_cons_zero,List.set_cons_succ,Qbe,Qbi]
     rfl
    refine Qcc (i:=5) (N:=some 24) (v := ?_) (a' := ?_) #[true,true,true,true,true,true,false,false,false,false,false,false,false,false,false,false,false,false,false,false,false,false,false,false] rfl rfl (Qbn HT_.out (by kernel_rfl)) (fun _ _ _ h => h) (Or.inl ⟨by rfl, ?_⟩) ?_ ?_
    rotate_left
    ·intro w'
     go_simp
     with_reducible rfl
    rotate_left
    ·simp only [Act.put,List.setIfInBounds_toArray,List.set_cons_zero,List.set_cons_succ,Qbe,Qbi]
     rfl
    refine take_ (i:=6) (N:=some 25) (v := ?_) (a' := ?_) #[true,true,true,true,true,true,true,false,false,false,false,false,false,false,false,false,false,false,false,false,false,false,false,false] rfl rfl (take_ofW HT_.out HW_.out (by kernel_rfl)) (fun _ _ _ h => h) (Or.inl ⟨by rfl, ?_⟩) hHeld ?_ ?_
    rotate_left
    ·rintro w' ⟨s0,s1,s2,s3,s4,s5,s6,s7,s8,s9,s10⟩
     go_simp
     with_reducible rfl
    rotate_left
    ·simp only [Act.put,List.setIfInBounds_toArray,List.set_cons_zero,List.set_cons_succ,Qbe,Qbi]
     rfl
    refine Qcc (i:=7) (N:=some 26) (v := ?_) (a' := ?_) #[true,true,true,true,true,true,true,true,false,false,false,false,false,false,false,false,false,false,false,false,false,false,false,false] rfl rfl (Qbn HT_.out (by kernel_rfl)) (fun _ _ _ h => h) (Or.inl ⟨by rfl, ?_⟩) ?_ ?_
    rotate_left
    ·intro w'
     go_simp
     with_reducible rfl
    rotate_left
    ·simp only [Act.put,List.setIfInBounds_toArray,List.set_cons_zero,List.set_cons_succ,Qbe,Qbi]
     rfl
    refine Qcc (i:=8) (N:=some 27) (v := ?_) (a' := ?_) #[true,true,true,true,true,true,true,true,true,false,false,false,false,false,false,false,false,false,false,false,false,false,false,false] rfl rfl (Qbn HT_.out (by kernel_rfl)) (fun _ _ _ h => h) (Or.inl ⟨by rfl, ?_⟩) ?_ ?_
    rotate_left
    ·intro w'
     go_simp
     with_reducible rfl
    rotate_left
    ·simp only [Act.put,List.setIfInBounds_toArray,List.set_cons_zero,List.set_cons_succ,Qbe,Qbi]
     rfl
    refine Qcc (i:=9) (N:=some 28) (v:=undef) (a' := ?_) #[true,true,true,true,true,true,true,true,true,true,false,false,false,false,false,false,false,false,false,false,false,false,false,false] rfl rfl (Qbn HT_.out (by kernel_rfl)) (fun _ _ _ h => h) (Or.inr ⟨by rfl,rfl⟩) ?_ ?_
    rotate_left
    ·simp only [Act.put,List.setIfInBounds_toArray,List.set_cons_zero,List.set_cons_succ,Qbe,Qbi]
     rfl
    refine Qcc (i:=10) (N:=some 29) (v:=undef) (a' := ?_) #[true,true,true,true,true,true,true,true,true,true,true,false,false,false,false,false,false,false,false,false,false,false,false,false] rfl rfl (Qbn HT_.out (by kernel_rfl)) (fun _ _ _ h => h) (Or.inr ⟨by rfl,rfl⟩) ?_ ?_
    rotate_left
    ·simp only [Act.put,List.setIfInBounds_toArray,List.set_cons_zero,List.set_cons_succ,Qbe,Qbi]
     rfl
    refine Qcc (i:=11) (N:=some 30) (v:=undef) (a' := ?_) #[true,true,true,true,true,true,true,true,true,true,true,true,false,false,false,false,false,false,false,false,false,false,false,false] rfl rfl (Qbn HT_.out (by kernel_rfl)) (fun _ _ _ h => h) (Or.inr ⟨by rfl,rfl⟩) ?_ ?_
    rotate_left
    ·simp only [Act.put,List.setIfInBounds_toArray,List.set_cons_zero,List.set_cons_succ,Qbe,Qbi]
     rfl
    refine Qcc (i:=12) (N:=some 31) (v:=undef) (a' := ?_) #[true,true,true,true,true,true,true,true,true,true,true,true,true,false,false,false,false,false,false,false,false,false,false,false] rfl rfl (Qbn HT_.out (by kernel_rfl)) (fun _ _ _ h => h) (Or.inr ⟨by rfl,rfl⟩) ?_ ?_
    rotate_left
    ·simp only [Act.put,List.setIfInBounds_toArray,List.set_cons_zero,List.set_cons_succ,Qbe,Qbi]
     rfl
    refine Qcc (i:=13) (N:=some 32) (v:=undef) (a' := ?_) #[true,true,true,true,true,true,true,true,true,true,true,true,true,true,false,false,false,false,false,false,false,false,false,false] rfl rfl (Qbn HT_.out (by kernel_rfl)) (fun _ _ _ h => h) (Or.inr ⟨by rfl,rfl⟩) ?_ ?_
    rotate_left
    ·simp only [Act.put,List.setIfInBounds_toArray,List.set_cons_zero,List.set_cons_succ,Qbe,Qbi]
     rfl
    refine Qcc (i:=14) (N:=some 33) (v:=undef) (a' := ?_) #[true,true,true,true,true,true,true,true,true,true,true,true,true,true,true,false,false,false,false,false,false,false,false,false] rfl rfl (Qbn HT_.out (by kernel_rfl)) (fun _ _ _ h => h) (Or.inr ⟨by rfl,rfl⟩) ?_ ?_
    rotate_left
    ·simp only [Act.put,List.setIfInBounds_toArray,List.set_cons_zero,List.set_cons_succ,Qbe,Qbi]
     rfl
    refine Qcc (i:=15) (N:=some 34) (v:=undef) (a' := ?_) #[true,true,true,true,true,true,true,true,true,true,true,true,true,true,true,true,false,false,false,false,false,false,false,false] rfl rfl (Qbn HT_.out (by kernel_rfl)) (fun _ _ _ h => h) (Or.inr ⟨by rfl,rfl⟩) ?_ ?_
    rotate_left
    ·simp only [Act.put,List.setIfInBounds_toArray,List.set_cons_zero,List.set_cons_succ,Qbe,Qbi]
     rfl
    refine Qcc (i:=16) (N:=some 35) (v:=undef) (a' := ?_) #[true,true,true,true,true,true,true,true,true,true,true,true,true,true,true,true,true,false,false,false,false,false,false,false] rfl rfl (Qbn HT_.out (by kernel_rfl)) (fun _ _ _ h => h) (Or.inr ⟨by rfl,rfl⟩) ?_ ?_
    rotate_left
    ·simp only [Act.put,List.setIfInBounds_toArray,List.set_cons_zero,List.set_cons_succ,Qbe,Qbi]
     rfl
    refine Qcc (i:=17) (N:=some 36) (v:=undef) (a' := ?_) #[true,true,true,true,true,true,true,true,true,true,true,true,true,true,true,true,true,true,false,false,false,false,false,false] rfl rfl (Qbn HT_.out (by kernel_rfl)) (fun _ _ _ h => h) (Or.inr ⟨by rfl,rfl⟩) ?_ ?_
    rotate_left
    ·simp only [Act.put,List.setIfInBounds_toArray,List.set_cons_zero,List.set_cons_succ,Qbe,Qbi]
     rfl
    refine Qcc (i:=18) (N:=some 37) (v:=undef) (a' := ?_) #[true,true,true,true,true,true,true,true,true,true,true,true,true,true,true,true,true,true,true,false,false,false,false,false] rfl rfl (Qbn HT_.out (by kernel_rfl)) (fun _ _ _ h => h) (Or.inr ⟨by rfl,rfl⟩) ?_ ?_
    rotate_left
    ·simp only [Act.put,List.setIfInBounds_toArray,List.set_cons_zero,List.set_cons_succ,Qbe,Qbi]
     rfl
    refine Qcc (i:=19) (N:=some 38) (v:=undef) (a' := ?_) #[true,true,true,true,true,true,true,true,true,true,true,true,true,true,true,true,true,true,true,true,false,false,false,false] rfl rfl (Qbn HT_.out (by kernel_rfl)) (fun _ _ _ h => h) (Or.inr ⟨by rfl,rfl⟩) ?_ ?_
    rotate_left
    ·simp only [Act.put,List.setIfInBounds_toArray,List.set_cons_zero,List.set_cons_succ,Qbe,Qbi]
     rfl
    refine Qcc (i:=20) (N:=some 39) (v:=undef) (a' := ?_) #[true,true,true,true,true,true,true,true,true,true,true,true,true,true,true,true,true,true,true,true,true,false,false,false] rfl rfl (Qbn HT_.out (by kernel_rfl)) (fun _ _ _ h => h) (Or.inr ⟨by rfl,rfl⟩) ?_ ?_
    rotate_left
    ·simp only [Act.put,List.setIfInBounds_toArray,List.set_cons_zero,List.set_cons_succ,Qbe,Qbi]
     rfl
    refine Qcc (i:=21) (N:=some 40) (v := ?_) (a' := ?_) #[true,true,true,true,true,true,true,true,true,true,true,true,true,true,true,true,true,true,true,true,true,true,false,false] rfl rfl (Qbn HT_.out (by kernel_rfl)) (fun _ _ _ h => h) (Or.inl ⟨by rfl, ?_⟩) ?_ ?_
    rotate_left
    ·intro w'
     go_simp
     with_reducible rfl
    rotate_left
    ·simp only [Act.put,List.setIfInBounds_toArray,List.set_cons_zero,List.set_cons_succ,Qbe,Qbi]
     rfl
    refine Qcc (i:=22) (N:=some 41) (v := ?_) (a' := ?_) #[true,true,true,true,true,true,true,true,true,true,true,true,true,true,true,true,true,true,true,true,true,true,true,false] rfl rfl (Qbn HT_.out (by kernel_rfl)) (fun _ _ _ h => h) (Or.inl ⟨by rfl, ?_⟩) ?_ ?_
    rotate_left
    ·intro w'
     go_simp
     with_reducible rfl
    rotate_left
    ·simp only [Act.put,List.setIfInBounds_toArray,List.set_cons_zero,List.set_cons_succ,Qbe,Qbi]
     rfl
    refine last_ (i:=23) (N:=none) #[true,true,true,true,true,true,true,true,true,true,true,true,true,true,true,true,true,true,true,true,true,true,true,true] rfl rfl (one_of HT_.out (by kernel_rfl)) (by decide) (fun K hK => ?_)
    refine skip_ (w1 := ?_) (by rfl) rfl ?_ ?_
    rotate_left
    ·go_simp
     rfl
    refine hK.out _ _ ?_
    clear hK K
    refine done_ (done_of HT_.out (by kernel_rfl)) ?_
    try go_wp2
    go_roundg k1
    case measure => have:=HK1.out; omega
    case rel => exact ⟨(y374),(wrap64 (x4_1 + 1)),rf,H',⟨by have:=HK1.out; omega⟩,⟨rk HQ17⟩,⟨by repeat (first | (with_reducible first | exact HB.out | apply Qag | apply Qbr | apply Qae | refine Qdj ?_ GB15.out) | exact HB.out)⟩⟩
   rw [if_pos c8] at H
   obtain ⟨c8b0,c8b1⟩:=bT c8
   clear c8
   obtain ⟨t372,A9,H⟩:=bE H
   by_cases c10 : x4_1 < (x3_1.length : Int); rotate_left
   ·rw [if_neg c10] at H
    exact absurd H (by simp)
   rw [if_pos c10] at H
   have c10b0:=Zd c10
   clear c10
   obtain ⟨y373,hy373⟩ : ∃ y_ : List Bool,y_ = (x3_1.set (x4_1 : Int).toNat t372):=⟨_,rfl⟩
   first | rw [Option.bind_some,<- hy373] at H | rw [<- hy373] at H
   have Ny373:=Zz.k hy373
   clear hy373
   have H':=Zz.k H
   clear H
   try go_wp2
   have n0_:=Zz.k (Kd.R_drew HO_3.out)
   have n1_:=Zz.k (Qae HB.out)
   clear HO_3
   clear HB
   have HO_3:=n0_
   have HB:=n1_
   clear n0_ n1_
   have p369 : 0 <= (x4_1 : Int):=od
   have q369 : x4_1 < (l0.length : Int):=od
   obtain ⟨ad369,A369_7,c369_7,e369,hx369_0,hx369_1,hx369_2,hx369_3,hx369_4,hx369_5,hx369_6,hx369_7,hx369_8,hx369_9,hx369_10,hl369_7,hi369_7⟩:=Qcg HR0.out x4_1 p369 q369
   have hw369_10:=hx369_10
   have hw369_9:=hx369_9
   have hw369_8:=hx369_8
   have hw369_7:=hx369_7
   have hw369_6:=hx369_6
   have hw369_5:=hx369_5
   have hw369_4:=hx369_4
   have hw369_3:=hx369_3
   have hw369_2:=hx369_2
   have hw369_1:=hx369_1
   have hw369_0:=hx369_0
   cases e369
   replace hx369_0:=cl HB hx369_0
   replace hx369_1:=cl HB hx369_1
   replace hx369_2:=cl HB hx369_2
   replace hx369_3:=cl HB hx369_3
   replace hx369_4:=cl HB hx369_4
   replace hx369_5:=cl HB hx369_5
   replace hx369_6:=cl HB hx369_6
   replace hx369_7:=cl HB hx369_7
   replace hx369_8:=cl HB hx369_8
   replace hx369_9:=cl HB hx369_9
   replace hx369_10:=cl HB hx369_10
   have HR369_7:=Zz.k hi369_7
   have HC369_7:=Zz.k hl369_7
   clear hi369_7 hl369_7
   replace p369:=eq_true p369
   replace q369:=eq_true q369
   refine start_ (n:=24) (S:=fun w' => Q11 w' (ad369.add ((x4_1).toNat * 11)) (Qad l0 x4_1) A369_7 c369_7) (ds:=[23]) #[false,false,false,false,false,false,false,false,false,false,false,false,false,false,false,false,false,false,false,false,false,false,false,false] (by kernel_rfl) rfl rfl ⟨(cW HB hw369_0),(cW HB hw369_1),(cW HB hw369_2),(cW HB hw369_3),(cW HB hw369_4),(cW HB hw369_5),(cW HB hw369_6),(cW HB hw369_7),(cW HB hw369_8),(cW HB hw369_9),(cW HB hw369_10)⟩ (fun hHeld => ?_); refine Qaw r4_Visible.tab5 r4_Visible.bits5 (fun HT_ HW_ => ?_)
   generalize wr.drew = w12 at HO_3 HB HR369_7 HR369_7 HR369_7 hx369_0 hx369_1 hx369_10 hx369_2 hx369_3 hx369_4 hx369_5 hx369_6 hx369_7 hx369_8 hx369_9 hx369_0 hx369_1 hx369_10 hx369_2 hx369_3 hx369_4 hx369_5 hx369_6 hx369_7 hx369_8 hx369_9 hx369_0 hx369_1 hx369_10 hx369_2 hx369_3 hx369_4 hx369_5 hx369_6 hx369_7 hx369_8 hx369_9 hHeld ⊢
   refine Qcc (i:=0) (N:=some 19) (v := ?_) (a' := ?_) #[true,false,false,false,false,false,false,false,false,false,false,false,false,false,false,false,false,false,false,false,false,false,false,false] rfl rfl (Qbn HT_.out (by kernel_rfl)) (fun _ _ _ h => h) (Or.inl ⟨by rfl, ?_⟩) ?_ ?_
   rotate_left
   ·intro w'
    go_simp
    with_reducible rfl
   rotate_left
   ·simp only [Act.put,List.setIfInBounds_toArray,List.set_cons_zero,List.set_cons_succ,Qbe,Qbi]
    rfl
   refine Qcc (i:=1) (N:=some 20) (v := ?_) (a' := ?_) #[true,true,false,false,false,false,false,false,false,false,false,false,false,false,false,false,false,false,false,false,false,false,false,false] rfl rfl (Qbn HT_.out (by kernel_rfl)) (fun _ _ _ h => h) (Or.inl ⟨by rfl, ?_⟩) ?_ ?_
   rotate_left
   ·intro w'
    go_simp
    with_reducible rfl
   rotate_left
   ·simp only [Act.put,List.setIfInBounds_toArray,List.set_cons_zero,List.set_cons_succ,Qbe,Qbi]
    rfl
   refine Qcc (i:=2) (N:=some 21) (v := ?_) (a' := ?_) #[true,true,true,false,false,false,false,false,false,false,false,false,false,false,false,false,false,false,false,false,false,false,false,false] rfl rfl (Qbn HT_.out (by kernel_rfl)) (fun _ _ _ h => h) (Or.inl ⟨by rfl, ?_⟩) ?_ ?_
   rotate_left
   ·intro w'
    go_simp
    with_reducible rfl
   rotate_left
   ·simp only [Act.put,List.setIfInBounds_toArray,List.set_cons_zero,List.set_cons_succ,Qbe,Qbi]
    rfl
   refine Qcc (i:=3) (N:=some 22) (v := ?_) (a' := ?_) #[true,true,true,true,false,false,false,false,false,false,false,false,false,false,false,false,false,false,false,false,false,false,false,false] rfl rfl (Qbn HT_.out (by kernel_rfl)) (fun _ _ _ h => h) (Or.inl ⟨by rfl, ?_⟩) ?_ ?_
   rotate_left
   ·intro w'
    go_simp
    with_reducible rfl
   rotate_left
   ·simp only [Act.put,List.setIfInBounds_toArray,List.set_cons_zero,List.set_cons_succ,Qbe,Qbi]
    rfl
   refine Qcc (i:=4) (N:=some 23) (v := ?_) (a' := ?_) #[true,true,true,true,true,false,false,false,false,false,false,false,false,false,false,false,false,false,false,false,false,false,false,false] rfl rfl (Qbn HT_.out (by kernel_rfl)) (fun _ _ _ h => h) (Or.inl ⟨by rfl, ?_⟩) ?_ ?_
   rotate_left
   ·intro w'
    go_simp
    with_reducible rfl
   rotate_left
   ·simp only [Act.put,List.setIfInBounds_toArray,List.set_cons_zero,List.set_cons_succ,Qbe,Qbi]
    rfl
   refine Qcc (i:=5) (N:=some 24) (v := ?_) (a' := ?_) #[true,true,true,true,true,true,false,false,false,false,false,false,false,false,false,false,false,false,false,false,false,false,false,false] rfl rfl (Qbn HT_.out (by kernel_rfl)) (fun _ _ _ h => h) (Or.inl ⟨by rfl, ?_⟩) ?_ ?_
   rotate_left
   ·intro w'
    go_simp
    with_reducible rfl
   rotate_left
   ·simp only [Act.put,List.setIfInBounds_toArray,List.set_cons_zero,List.set_cons_succ,Qbe,Qbi]
    rfl
   refine take_ (i:=6) (N:=some 25) (v := ?_) (a' := ?_) #[true,true,true,true,true,true,true,false,false,false,false,false,false,false,false,false,false,false,false,false,false,false,false,false] rfl rfl (take_ofW HT_.out HW_.out (by kernel_rfl)) (fun _ _ _ h => h) (Or.inl ⟨by rfl, ?_⟩) hHeld ?_ ?_
   rotate_left
   ·rintro w' ⟨s0,s1,s2,s3,s4,s5,s6,s7,s8,s9,s10⟩
    go_simp
    with_reducible rfl
   rotate_left
   ·simp only [Act.put,List.setIfInBounds_toArray,List.set_cons_zero,List.set_cons_succ,Qbe,Qbi]
    rfl
   refine Qcc (i:=7) (N:=some 26) (v := ?_) (a' := ?_) #[true,true,true,true,true,true,true,true,false,false,false,false,false,false,false,false,false,false,false,false,false,false,false,false] rfl rfl (Qbn HT_.out (by kernel_rfl)) (fun _ _ _ h => h) (Or.inl ⟨by rfl, ?_⟩) ?_ ?_
   rotate_left
   ·intro w'
    go_simp
    with_reducible rfl
   rotate_left
   ·simp only [Act.put,List.setIfInBounds_toArray,List.set_cons_zero,List.set_cons_succ,Qbe,Qbi]
    rfl
   refine Qcc (i:=8) (N:=some 27) (v := ?_) (a' := ?_) #[true,true,true,true,true,true,true,true,true,false,false,false,false,false,false,false,false,false,false,false,false,false,false,false] rfl rfl (Qbn HT_.out (by kernel_rfl)) (fun _ _ _ h => h) (Or.inl ⟨by rfl, ?_⟩) ?_ ?_
   rotate_left
   ·intro w'
    go_simp
    with_reducible rfl
   rotate_left
   ·simp only [Act.put,List.setIfInBounds_toArray,List.set_cons_zero,List.set_cons_succ,Qbe,Qbi]
    rfl
   refine Qcc (i:=9) (N:=some 28) (v := ?_) (a' := ?_) #[true,true,true,true,true,true,true,true,true,true,false,false,false,false,false,false,false,false,false,false,false,false,false,false] rfl rfl (Qbn HT_.out (by kernel_rfl)) (fun _ _ _ h => h) (Or.inl ⟨by rfl, ?_⟩) ?_ ?_
   rotate_left
   ·intro w'
    go_simp
    with_reducible rfl
   rotate_left
   ·simp only [Act.put,List.setIfInBounds_toArray,List.set_cons_zero,List.set_cons_succ,Qbe,Qbi]
    rfl
   refine Qcc (i:=10) (N:=some 29) (v := ?_) (a' := ?_) #[true,true,true,true,true,true,true,true,true,true,true,false,false,false,false,false,false,false,false,false,false,false,false,false] rfl rfl (Qbn HT_.out (by kernel_rfl)) (fun _ _ _ h => h) (Or.inl ⟨by rfl, ?_⟩) ?_ ?_
   rotate_left
   ·intro w'
    go_simp
    with_reducible rfl
   rotate_left
   ·simp only [Act.put,List.setIfInBounds_toArray,List.set_cons_zero,List.set_cons_succ,Qbe,Qbi]
    rfl
   refine Qcc (i:=11) (N:=some 30) (v := ?_) (a' := ?_) #[true,true,true,true,true,true,true,true,true,true,true,true,false,false,false,false,false,false,false,false,false,false,false,false] rfl rfl (Qbn HT_.out (by kernel_rfl)) (fun _ _ _ h => h) (Or.inl ⟨by rfl, ?_⟩) ?_ ?_
   rotate_left
   ·intro w'
    go_simp
    with_reducible rfl
   rotate_left
   ·simp only [Act.put,List.setIfInBounds_toArray,List.set_cons_zero,List.set_cons_succ,Qbe,Qbi]
    rfl
   refine Qcc (i:=12) (N:=some 31) (v := ?_) (a' := ?_) #[true,true,true,true,true,true,true,true,true,true,true,true,true,false,false,false,false,false,false,false,false,false,false,false] rfl rfl (Qbn HT_.out (by kernel_rfl)) (fun _ _ _ h => h) (Or.inl ⟨by rfl, ?_⟩) ?_ ?_
   rotate_left
   ·intro w'
    go_simp
    with_reducible rfl
   rotate_left
   ·simp only [Act.put,List.setIfInBounds_toArray,List.set_cons_zero,List.set_cons_succ,Qbe,Qbi]
    rfl
   refine Qcc (i:=13) (N:=some 32) (v := ?_) (a' := ?_) #[true,true,true,true,true,true,true,true,true,true,true,true,true,true,false,false,false,false,false,false,false,false,false,false] rfl rfl (Qbn HT_.out (by kernel_rfl)) (fun _ _ _ h => h) (Or.inl ⟨by rfl, ?_⟩) ?_ ?_
   rotate_left
   ·intro w'
    go_simp
    with_reducible rfl
   rotate_left
   ·simp only [Act.put,List.setIfInBounds_toArray,List.set_cons_zero,List.set_cons_succ,Qbe,Qbi]
    rfl
   refine Qcc (i:=15) (N:=some 34) (v := ?_) (a' := ?_) #[true,true,true,true,true,true,true,true,true,true,true,true,true,true,false,true,false,false,false,false,false,false,false,false] rfl rfl (Qbn HT_.out (by kernel_rfl)) (fun _ _ _ h => h) (Or.inl ⟨by rfl, ?_⟩) ?_ ?_
   rotate_left
   ·intro w'
    go_simp
    with_reducible rfl
   rotate_left
   ·simp only [Act.put,List.setIfInBounds_toArray,List.set_cons_zero,List.set_cons_succ,Qbe,Qbi]
    rfl
   refine Qcc (i:=16) (N:=some 35) (v := ?_) (a' := ?_) #[true,true,true,true,true,true,true,true,true,true,true,true,true,true,false,true,true,false,false,false,false,false,false,false] rfl rfl (Qbn HT_.out (by kernel_rfl)) (fun _ _ _ h => h) (Or.inl ⟨by rfl, ?_⟩) ?_ ?_
   rotate_left
   ·intro w'
    go_simp
    with_reducible rfl
   rotate_left
   ·simp only [Act.put,List.setIfInBounds_toArray,List.set_cons_zero,List.set_cons_succ,Qbe,Qbi]
    rfl
   refine Qcc (i:=17) (N:=some 36) (v := ?_) (a' := ?_) #[true,true,true,true,true,true,true,true,true,true,true,true,true,true,false,true,true,true,false,false,false,false,false,false] rfl rfl (Qbn HT_.out (by kernel_rfl)) (fun _ _ _ h => h) (Or.inl ⟨by rfl, ?_⟩) ?_ ?_
   rotate_left
   ·intro w'
    go_simp
    with_reducible rfl
   rotate_left
   ·simp only [Act.put,List.setIfInBounds_toArray,List.set_cons_zero,List.set_cons_succ,Qbe,Qbi]
    rfl
   refine Qcc (i:=18) (N:=some 37) (v := ?_) (a' := ?_) #[true,true,true,true,true,true,true,true,true,true,true,true,true,true,false,true,true,true,true,false,false,false,false,false] rfl rfl (Qbn HT_.out (by kernel_rfl)) (fun _ _ _ h => h) (Or.inl ⟨by rfl, ?_⟩) ?_ ?_
   rotate_left
   ·intro w'
    go_simp
    with_reducible rfl
   rotate_left
   ·simp only [Act.put,List.setIfInBounds_toArray,List.set_cons_zero,List.set_cons_succ,Qbe,Qbi]
    rfl
   refine take_ (i:=14) (N:=some 33) (v := ?_) (a' := ?_) #[true,true,true,true,true,true,true,true,true,true,true,true,true,true,true,true,true,true,true,false,false,false,false,false] rfl rfl (take_ofW HT_.out HW_.out (by kernel_rfl)) (fun _ _ _ h => h) (Or.inl ⟨by rfl, ?_⟩) hHeld ?_ ?_
   rotate_left
   ·rintro w' ⟨s0,s1,s2,s3,s4,s5,s6,s7,s8,s9,s10⟩
    go_simp
    with_reducible rfl
   rotate_left
   ·simp only [Act.put,List.setIfInBounds_toArray,List.set_cons_zero,List.set_cons_succ,Qbe,Qbi]
    rfl
   refine take_ (i:=19) (N:=some 38) (v := ?_) (a' := ?_) #[true,true,true,true,true,true,true,true,true,true,true,true,true,true,true,true,true,true,true,true,false,false,false,false] rfl rfl (take_ofW HT_.out HW_.out (by kernel_rfl)) (fun _ _ _ h => h) (Or.inl ⟨by rfl, ?_⟩) hHeld ?_ ?_
   rotate_left
   ·rintro w' ⟨s0,s1,s2,s3,s4,s5,s6,s7,s8,s9,s10⟩
    go_simp
    with_reducible rfl
   rotate_left
   ·simp only [Act.put,List.setIfInBounds_toArray,List.set_cons_zero,List.set_cons_succ,Qbe,Qbi]
    rfl
   refine one_ (i:=20) (N:=some 39) #[true,true,true,true,true,true,true,true,true,true,true,true,true,true,true,true,true,true,true,true,true,false,false,false] rfl rfl (one_of HT_.out (by kernel_rfl)) (by decide) (fun K hK => ?_)
   refine gS Tryz.func41 #[.slice (some ad369) l0.length c0, .int .i64 ((Qad l0 x4_1).f0), .int .i64 ((Qad l0 x4_1).f1)] (h := ?_)
   with_reducible refine (r4_Effective.calls k1 _ _ l0 ((Qad l0 x4_1).f0) ((Qad l0 x4_1).f1) t372 _ ?side1 ?side2 A9.out).mono ?_
   (case side1 => exact cb HR0 HB)
   (case side2 => exact HC0.out)
   rintro e w' ⟨rfl,⟨nd,rfl⟩⟩
   refine ⟨_,rfl, ?_⟩
   have p11 : 0 <= (x4_1 : Int):=od
   have q11 : (x4_1 : Int) < ((x3_1.length : Int) : Int):=od
   obtain ⟨go11,co11,eo11,gb11,gl11,cl11,HG11⟩:=Kd.R_form HO_3.out (by omega)
   (first | cases eo11 | (injection eo11 with ea_ en_ ec_; (first | subst ea_ | (injection ea_ with ea_; subst ea_)); subst ec_; clear en_))
   have GB11:=Zz.k gb11
   have GG11:=Zz.k HG11
   clear gb11 gl11 HG11
   obtain ⟨hx11_0,hf11_0⟩:=Kd.R_celln false HO_3.out (x4_1 : Int) p11 q11
   replace p11:=eq_true p11
   replace q11:=eq_true q11
   have HP13:=Kd.R_putn HO_3.out (x4_1 : Int) t372
   rw [<- Ny373.out] at HP13
   have HQ13:=Zz.k HP13
   clear HP13
   refine hK.out _ _ ⟨(cW HB hw369_0),(cW HB hw369_1),(cW HB hw369_2),(cW HB hw369_3),(cW HB hw369_4),(cW HB hw369_5),(cW HB hw369_6),(cW HB hw369_7),(cW HB hw369_8),(cW HB hw369_9),(cW HB hw369_10)⟩ (fun hHeld => ?_)
   clear hK K
   refine norm_ (a' := ?_) ?_ ?_
   rotate_left
   ·show Act.put _ (some 39) _ = _
    simp only [Act.put,List.setIfInBounds_toArray,List.set_cons_zero,List.set_cons_succ,Qbe,Qbi]
    rfl
   refine Qcc (i:=21) (N:=some 40) (v := ?_) (a' := ?_) #[true,true,true,true,true,true,true,true,true,true,true,true,true,true,true,true,true,true,true,true,true,true,false,false] rfl rfl (Qbn HT_.out (by kernel_rfl)) (fun _ _ _ h => h) (Or.inl ⟨by rfl, ?_⟩) ?_ ?_
   rotate_left
   ·intro w'
    go_simp
    with_reducible rfl
   rotate_left
   ·simp only [Act.put,List.setIfInBounds_toArray,List.set_cons_zero,List.set_cons_succ,Qbe,Qbi]
    rfl
   refine Qcc (i:=22) (N:=some 41) (v := ?_) (a' := ?_) #[true,true,true,true,true,true,true,true,true,true,true,true,true,true,true,true,true,true,true,true,true,true,true,false] rfl rfl (Qbn HT_.out (by kernel_rfl)) (fun _ _ _ h => h) (Or.inl ⟨by rfl, ?_⟩) ?_ ?_
   rotate_left
   ·intro w'
    go_simp
    with_reducible rfl
   rotate_left
   ·simp only [Act.put,List.setIfInBounds_toArray,List.set_cons_zero,List.set_cons_succ,Qbe,Qbi]
    rfl
   refine last_ (i:=23) (N:=none) #[true,true,true,true,true,true,true,true,true,true,true,true,true,true,true,true,true,true,true,true,true,true,true,true] rfl rfl (one_of HT_.out (by kernel_rfl)) (by decide) (fun K hK => ?_)
   refine skip_ (w1 := ?_) (by rfl) rfl ?_ ?_
   rotate_left
   ·go_simp
    rfl
   refine hK.out _ _ ?_
   clear hK K
   refine done_ (done_of HT_.out (by kernel_rfl)) ?_
   try go_wp2
   go_roundg k1
   case measure => have:=HK1.out; omega
   case rel => exact ⟨(y373),(wrap64 (x4_1 + 1)),rf,H',⟨by have:=HK1.out; omega⟩,⟨rk HQ13⟩,⟨by repeat (first | (with_reducible first | exact HB.out | apply Qag | apply Qbr | apply Qae | refine Qdj ?_ GB11.out) | exact HB.out)⟩⟩
end
section
attribute [local go_sem] Qbm Qbk Qbu Qbt Qbc Qbb Qbl Qbj
def r0_CopyElems.l0 : Nat -> List (SElem) -> List (SElem) -> Int -> Option ((List (SElem)))
 | 0,_,_,_ => none
 | k + 1,x0,x3,x4 => if x4 < (x0.length : Int) then (if 0 <= x4 then (if x3.length < 5864062014805 then (r0_CopyElems.l0 k x0 (x3 ++ [(⟨(Qaa x0 x4).f0,(Qaa x0 x4).f1,(Qaa x0 x4).f2⟩ : SElem)]) (wrap64 (x4 + 1))) else (none)) else (none)) else (some x3)
def r0_CopyElems.f (k : Nat) (l0 : List (SElem)) : Option ((List (SElem))):=r0_CopyElems.l0 k l0 ([] : List (SElem)) 0
theorem r0_CopyElems.calls (k : Nat) (A0 : Option Addr) (c0 : Nat) (l0 : List (SElem)) (r : List (SElem)) (w : World) (hr0 : Kd.C Qap w A0 l0.length l0) (hc0 : l0.length <= c0) (h : r0_CopyElems.f k l0 = some r) :
  Calls Tryz.prog 88 #[.slice A0 l0.length c0] w fun e w' => ∃ v0_ : Value,e = .returned (v0_) /\ Kd.R Qap 32 w' w.heap.size (fun _ => True) v0_ r /\ Below w.heap.size w w':=by
 have hu32:=Tryz.underlying32
 have HR0:=Zz.k hr0
 have HC0:=Zz.k hc0
 clear hr0 hc0
 have HB:=Zz.k (Below.refl w.heap.size w)
 unfold r0_CopyElems.f at h; have H:=h
 clear h
 have H':=Zz.k H
 clear H
 go_enter Tryz.func88,Tryz.ntmps88
 go_wp2
 go_loopg [3,4] k (fun kq v3 v4 w' => ∃ (x3_1 : List (SElem)) (x4_1 : Int),v4 = .int .i64 x4_1 /\ Zz (r0_CopyElems.l0 kq l0 x3_1 x4_1 = some r) /\ Zz (kq <= k) /\ Zz (Kd.R Qap 32 w' w.heap.size (fun _ => True) v3 x3_1) /\ Zz (Below w.heap.size w w'))
 case atStart => exact ⟨(([] : List (SElem))),(0),rf,H',⟨Nat.le_refl _⟩,⟨by first | exact Kd.R_nil _ _ _ _ _ | exact Kd.N_nil _ _ _ _ _ | exact Kd.V_nil _ _ _ _ _ | exact Kd.Q_nil _ _ _ _ _ | exact Kd.S_nil _ _ _ _ _⟩,⟨bw HB⟩⟩
 case round =>
  clear H'
  obtain ⟨x3_1,x4_1,rfl,HA,HK1,HO_3,HB⟩:=hrel
  cases gk with
  | zero => exact absurd HA.out (by simp [r0_CopyElems.l0])
  | succ k1 =>
   have H:=HA.out
   clear HA
   simp only [r0_CopyElems.l0] at H
   by_cases c2 : x4_1 < (l0.length : Int); rotate_left
   ·rw [if_neg c2] at H
    have c2b0:=Ze c2
    clear c2
    obtain rfl:=Zo H
    go_wp2
    go_ret
    exact ⟨_,re,by (with_reducible repeat (first | apply Kd.R_alloc | apply Kd.R_drewN | apply Kd.R_drew)); exact HO_3.out,bw HB⟩
   rw [if_pos c2] at H
   have c2b0:=Zd c2
   clear c2
   by_cases c3 : 0 <= x4_1; rotate_left
   ·rw [if_neg c3] at H
    exact absurd H (by simp)
   rw [if_pos c3] at H
   have c3b0:=Zd c3
   clear c3
   by_cases c4 : x3_1.length < 5864062014805; rotate_left
   ·rw [if_neg c4] at H
    exact absurd H (by simp)
   rw [if_pos c4] at H
   have LMc4:=Zz.k c4
   clear c4
   obtain ⟨y280,hy280⟩ : ∃ y_ : List (SElem),y_ = (x3_1 ++ [(⟨(Qaa l0 x4_1).f0,(Qaa l0 x4_1).f1,(Qaa l0 x4_1).f2⟩ : SElem)]):=⟨_,rfl⟩
   first | rw [Option.bind_some,<- hy280] at H | rw [<- hy280] at H
   have Ny280:=Zz.k hy280
   clear hy280
   have H':=Zz.k H
   clear H
   have p279 : 0 <= (x4_1 : Int):=od
   have q279 : x4_1 < (l0.length : Int):=od
   obtain ⟨ad279,e279,hx279_0,hx279_1,hx279_2⟩:=Qbd HR0.out x4_1 p279 q279
   cases e279
   replace hx279_0:=cl HB hx279_0
   replace hx279_1:=cl HB hx279_1
   replace hx279_2:=cl HB hx279_2
   replace p279:=eq_true p279
   replace q279:=eq_true q279
   go_wp2_with (first | ((with_reducible refine Qbz (b:=.append) (xs:=#[.tmp 11, .tmp 16]) rfl ?_); at_builtin; refine Kd.R_append Qap (w0:=w) w.heap.size rfl (.tmp 11) (.tmp 16) 23 32 (.agg #[(.int .i64 0),(.int .i64 0),(.int .i64 0)]) 24 rfl Tryz.underlying23 info32 rfl (by decide) (by omega) u3 x3_1 (⟨(Qaa l0 x4_1).f0,(Qaa l0 x4_1).f1,(Qaa l0 x4_1).f2⟩ : SElem) [.int .i64 ((Qaa l0 x4_1).f0), .int .i64 ((Qaa l0 x4_1).f1), .int .i64 ((Qaa l0 x4_1).f2)] (fun _ => True) (fun _ => False) rfl rfl ?aP (fun _ hk => hk.elim) ?aF ?aO ?aB ?aS ?aL ?_; (case aP => exact Qcd _ _ _ (⟨(Qaa l0 x4_1).f0,(Qaa l0 x4_1).f1,(Qaa l0 x4_1).f2⟩ : SElem)); (case aB => exact (bw HB)); (case aF => exact (fun _ _ => trivial)); (case aO => exact (rk HO_3)); (case aS => exact (Qal (bw HB))); (case aL => have:=LMc4.out; omega); intro v281 w5 ho hb hg hat; rw [<- Ny280.out] at ho; have n0_:=Zz.k (hb); have n1_:=Zz.k (ho); clear HB; clear HO_3; have HB:=n0_; have HO282:=n1_; clear n0_ n1_; clear ho hb hg hat))
   go_roundg k1
   case measure => have:=HK1.out; omega
   case rel => exact ⟨(y280),(wrap64 (x4_1 + 1)),rf,H',⟨by have:=HK1.out; omega⟩,⟨rk HO282⟩,⟨bw HB⟩⟩
def r0_CopyOp.f (k : Nat) (a0_0 : Int) (a0_1 : Int) (a0_2 : Int) (a0_3 : Int) (a0_4 : Int) (a0_5 : Int) (a0_6 : ByteArray) (l0_7 : List (SElem)) (a0_8 : Int) (a0_9 : Int) (a0_10 : Int) : Option (Int × Int × Int × Int × Int × Int × ByteArray × (List (SElem)) × Int × Int × Int):=(r0_CopyElems.f k l0_7).bind fun t286 => (some (a0_0,a0_1,a0_2,a0_3,a0_4,a0_5,a0_6,t286,a0_8,a0_9,a0_10))
theorem r0_CopyOp.calls (k : Nat) (a0_0 : Int) (a0_1 : Int) (a0_2 : Int) (a0_3 : Int) (a0_4 : Int) (a0_5 : Int) (a0_6 : ByteArray) (A0_7 : Option Addr) (c0_7 : Nat) (l0_7 : List (SElem)) (a0_8 : Int) (a0_9 : Int) (a0_10 : Int) (r1 : Int) (r2 : Int) (r3 : Int) (r4 : Int) (r5 : Int) (r6 : Int) (r7 : ByteArray) (r8 : List (SElem)) (r9 : Int) (r10 : Int) (r11 : Int) (w : World) (hr0_7 : Kd.C Qap w A0_7 l0_7.length l0_7) (hc0_7 : l0_7.length <= c0_7) (h : r0_CopyOp.f k a0_0 a0_1 a0_2 a0_3 a0_4 a0_5 a0_6 l0_7 a0_8 a0_9 a0_10 = some (r1,r2,r3,r4,r5,r6,r7,r8,r9,r10,r11)) :
  Calls Tryz.prog 54 #[.agg #[.int .i64 a0_0, .int .i64 a0_1, .int .i64 a0_2, .int .i64 a0_3, .int .i64 a0_4, .int .i64 a0_5, .string a0_6, .slice A0_7 l0_7.length c0_7, .int .i64 a0_8, .int .i64 a0_9, .int .i64 a0_10]] w fun e w' => ∃ v7_ : Value,e = .returned (.agg #[.int .i64 r1, .int .i64 r2, .int .i64 r3, .int .i64 r4, .int .i64 r5, .int .i64 r6, .string r7,v7_, .int .i64 r9, .int .i64 r10, .int .i64 r11]) /\ Kd.R Qap 32 w' w.heap.size (fun _ => True) v7_ r8 /\ Below w.heap.size w w':=by
 have hu34:=Tryz.underlying34
 have HR0_7:=Zz.k hr0_7
 have HC0_7:=Zz.k hc0_7
 clear hr0_7 hc0_7
 have HB:=Zz.k (Below.refl w.heap.size w)
 unfold r0_CopyOp.f at h; have H:=h
 clear h
 obtain ⟨t286,A2,H⟩:=bE H
 simp only [Option.some.injEq,Prod.mk.injEq] at H
 obtain ⟨rfl,rfl,rfl,rfl,rfl,rfl,rfl,rfl,rfl,rfl,rfl⟩:=H
 go_enter Tryz.func54,Tryz.ntmps54
 go_wp2_with (first | ((with_reducible refine Qaf (N:=1) rfl ?_); refine bx 1 #[.int .i64 a0_0, .int .i64 a0_1, .int .i64 a0_2, .int .i64 a0_3, .int .i64 a0_4, .int .i64 a0_5, .string a0_6, .slice A0_7 l0_7.length c0_7, .int .i64 a0_8, .int .i64 a0_9, .int .i64 a0_10] 34 (h := ?_); intro gb283 hg w3 hbox hb; have BK283:=Zz.k (hbox); have GW283:=bz HB hg; have GE283:=bz HB hg; replace HB:=bs HB hb; clear hb hbox hg) | ((with_reducible refine Qaf (N:=2) rfl ?_); refine bx 2 #[.int .i64 0, .int .i64 0, .int .i64 0, .int .i64 0, .int .i64 0, .int .i64 0, .string (⟨#[]⟩ : ByteArray), .slice none 0 0, .int .i64 0, .int .i64 0, .int .i64 0] 34 (h := ?_); intro gb284 hg w4 hbox hb; have BK284:=Zz.k (hbox); have GW284:=bz HB hg; have GE284:=bz HB hg; have NB283_284:=bn BK283 hg; have NB284_283:=bm BK283 hg; replace BK283:=bl BK283 hb; replace HB:=bs HB hb; clear hb hbox hg; have hnb5:=NB283_284.out; have hnc5:=NB284_283.out; obtain ⟨_,_,_,_,_,_,_,_,_,_,_,_,_,_,_,_,_,_,_,_,_,_⟩:=kc11 BK283) | ((with_reducible refine Qaf (N:=3) rfl ?_); refine bx 3 #[.int .i64 0, .int .i64 0, .int .i64 0, .int .i64 0, .int .i64 0, .int .i64 0, .string (⟨#[]⟩ : ByteArray), .slice none 0 0, .int .i64 0, .int .i64 0, .int .i64 0] 34 (h := ?_); intro gb285 hg w7 hbox hb; have BK285:=Zz.k (hbox); have GW285:=bz HB hg; have GE285:=bz HB hg; have NB283_285:=bn BK283 hg; have NB285_283:=bm BK283 hg; have NB284_285:=bn BK284 hg; have NB285_284:=bm BK284 hg; replace BK283:=bl BK283 hb; replace BK284:=bl BK284 hb; replace HB:=bs HB hb; clear hb hbox hg; have hnb8:=NB285_283.out; have hnc8:=NB283_285.out; have hnb9:=NB285_284.out; have hnc9:=NB284_285.out; obtain ⟨_,_,_,_,_,_,_,_,_,_,_,_,_,_,_,_,_,_,_,_,_,_⟩:=kc11 BK285; obtain ⟨_,_,_,_,_,_,_,_,_,_,_,_,_,_,_,_,_,_,_,_,_,_⟩:=kc11 BK283) | ((with_reducible refine Qac (f:=88) rfl ?_); refine gl (some 7) Tryz.func88 #[.slice A0_7 l0_7.length c0_7] (h := ?_); (with_reducible refine (r0_CopyElems.calls k _ _ l0_7 t286 _ ?side1 ?side2 A2.out).mono ?_); (case side1 => exact Kd.C_below HR0_7.out (bw HB)); (case side2 => exact HC0_7.out); rintro e w12 ⟨v287,rfl,ho0,hb⟩; refine ⟨_,rfl, ?_⟩; have HO288:=Zz.k (Kd.R_lower ho0 (Qal (bw HB))); replace BK283:=bl BK283 hb; replace BK284:=bl BK284 hb; replace BK285:=Zz.k (Qcp (bp11 (kk BK285)) hb); replace HB:=bs HB hb; clear hb; clear ho0; obtain ⟨Ao13,co13,eo13⟩:=Kd.R_slice HO288.out; subst eo13; obtain ⟨_,_,_,_,_,_,_,_,_,_,_,_,_,_,_,_,_,_,_,_,_,_⟩:=kc11 BK285; obtain ⟨_,_,_,_,_,_,_,_,_,_,_,_,_,_,_,_,_,_,_,_,_,_⟩:=kc11 BK284))
 refine bodyPost_ret (results_cell_row rfl _ _ gb284 34 #[.int .i64 a0_0, .int .i64 a0_1, .int .i64 a0_2, .int .i64 a0_3, .int .i64 a0_4, .int .i64 a0_5, .string a0_6, .slice Ao13 t286.length co13, .int .i64 a0_8, .int .i64 a0_9, .int .i64 a0_10] (0,0) _ rfl (by (with_reducible repeat (first | refine Qbp ?_ _ | refine Qao ?_ | refine Qax ?_ _)); refine Qcb (cs:=#[.int .i64 a0_0, .int .i64 a0_1, .int .i64 a0_2, .int .i64 a0_3, .int .i64 a0_4, .int .i64 a0_5, .string a0_6, .slice Ao13 t286.length co13, .int .i64 a0_8, .int .i64 a0_9, .int .i64 0]) ?_ 10 _ rfl; (with_reducible repeat (first | refine Qbp ?_ _ | refine Qao ?_ | refine Qax ?_ _)); refine Qcb (cs:=#[.int .i64 a0_0, .int .i64 a0_1, .int .i64 a0_2, .int .i64 a0_3, .int .i64 a0_4, .int .i64 a0_5, .string a0_6, .slice Ao13 t286.length co13, .int .i64 a0_8, .int .i64 0, .int .i64 0]) ?_ 9 _ rfl; (with_reducible repeat (first | refine Qbp ?_ _ | refine Qao ?_ | refine Qax ?_ _)); refine Qcb (cs:=#[.int .i64 a0_0, .int .i64 a0_1, .int .i64 a0_2, .int .i64 a0_3, .int .i64 a0_4, .int .i64 a0_5, .string a0_6, .slice Ao13 t286.length co13, .int .i64 0, .int .i64 0, .int .i64 0]) ?_ 8 _ rfl; (with_reducible repeat (first | refine Qbp ?_ _ | refine Qao ?_ | refine Qax ?_ _)); refine Qcb (cs:=#[.int .i64 a0_0, .int .i64 a0_1, .int .i64 a0_2, .int .i64 a0_3, .int .i64 a0_4, .int .i64 a0_5, .string a0_6, .slice none 0 0, .int .i64 0, .int .i64 0, .int .i64 0]) ?_ 7 _ rfl; (with_reducible repeat (first | refine Qbp ?_ _ | refine Qao ?_ | refine Qax ?_ _)); refine Qcb (cs:=#[.int .i64 a0_0, .int .i64 a0_1, .int .i64 a0_2, .int .i64 a0_3, .int .i64 a0_4, .int .i64 a0_5, .string (⟨#[]⟩ : ByteArray), .slice none 0 0, .int .i64 0, .int .i64 0, .int .i64 0]) ?_ 6 _ rfl; (with_reducible repeat (first | refine Qbp ?_ _ | refine Qao ?_ | refine Qax ?_ _)); refine Qcb (cs:=#[.int .i64 a0_0, .int .i64 a0_1, .int .i64 a0_2, .int .i64 a0_3, .int .i64 a0_4, .int .i64 0, .string (⟨#[]⟩ : ByteArray), .slice none 0 0, .int .i64 0, .int .i64 0, .int .i64 0]) ?_ 5 _ rfl; (with_reducible repeat (first | refine Qbp ?_ _ | refine Qao ?_ | refine Qax ?_ _)); refine Qcb (cs:=#[.int .i64 a0_0, .int .i64 a0_1, .int .i64 a0_2, .int .i64 a0_3, .int .i64 0, .int .i64 0, .string (⟨#[]⟩ : ByteArray), .slice none 0 0, .int .i64 0, .int .i64 0, .int .i64 0]) ?_ 4 _ rfl; (with_reducible repeat (first | refine Qbp ?_ _ | refine Qao ?_ | refine Qax ?_ _)); refine Qcb (cs:=#[.int .i64 a0_0, .int .i64 a0_1, .int .i64 a0_2, .int .i64 0, .int .i64 0, .int .i64 0, .string (⟨#[]⟩ : ByteArray), .slice none 0 0, .int .i64 0, .int .i64 0, .int .i64 0]) ?_ 3 _ rfl; (with_reducible repeat (first | refine Qbp ?_ _ | refine Qao ?_ | refine Qax ?_ _)); refine Qcb (cs:=#[.int .i64 a0_0, .int .i64 a0_1, .int .i64 0, .int .i64 0, .int .i64 0, .int .i64 0, .string (⟨#[]⟩ : ByteArray), .slice none 0 0, .int .i64 0, .int .i64 0, .int .i64 0]) ?_ 2 _ rfl; (with_reducible repeat (first | refine Qbp ?_ _ | refine Qao ?_ | refine Qax ?_ _)); refine Qcb (cs:=#[.int .i64 a0_0, .int .i64 0, .int .i64 0, .int .i64 0, .int .i64 0, .int .i64 0, .string (⟨#[]⟩ : ByteArray), .slice none 0 0, .int .i64 0, .int .i64 0, .int .i64 0]) ?_ 1 _ rfl; (with_reducible repeat (first | refine Qbp ?_ _ | refine Qao ?_ | refine Qax ?_ _)); refine Qcb (cs:=#[.int .i64 0, .int .i64 0, .int .i64 0, .int .i64 0, .int .i64 0, .int .i64 0, .string (⟨#[]⟩ : ByteArray), .slice none 0 0, .int .i64 0, .int .i64 0, .int .i64 0]) ?_ 0 _ rfl; (with_reducible repeat (first | refine Qbp ?_ _ | refine Qao ?_ | refine Qax ?_ _)); refine Qcn ?_ NB284_285.out _; (with_reducible repeat (first | refine Qbp ?_ _ | refine Qao ?_ | refine Qax ?_ _)); exact BK284.out) Tryz.underlying34 rfl (by kernel_rfl)) rfl ?_
 exact ⟨_,re,by (with_reducible repeat (first | apply Kd.R_alloc | apply Kd.R_drewN | apply Kd.R_drew)); exact Kd.R_mono (rf11 (Kd.R_far (p:=⟨gb285,7,none⟩) (Kd.R_types (Kd.R_types HO288.out BK285.out (by decide)) BK284.out (by decide)) (fun _ hk => hk.1.2) (.slice Ao13 t286.length co13))) (fun _ hk => trivial),bw HB⟩
def r0_CopyOps.l0 : Nat -> List (SOp) -> List (SOp) -> Int -> Option ((List (SOp)))
 | 0,_,_,_ => none
 | k + 1,x0,x3,x4 => if x4 < (x0.length : Int) then (if 0 <= x4 then ((r0_CopyOp.f k ((Qad x0 x4).f0) ((Qad x0 x4).f1) ((Qad x0 x4).f2) ((Qad x0 x4).f3.f0) ((Qad x0 x4).f3.f1) ((Qad x0 x4).f3.f2) ((Qad x0 x4).f4) ((Qad x0 x4).f5) ((Qad x0 x4).f6) ((Qad x0 x4).f7) ((Qad x0 x4).f8)).bind fun bt290 => (if x3.length < 1256584717458 then (r0_CopyOps.l0 k x0 (x3 ++ [(⟨bt290.1,bt290.2.1,bt290.2.2.1,(⟨bt290.2.2.2.1,bt290.2.2.2.2.1,bt290.2.2.2.2.2.1⟩ : SElem),bt290.2.2.2.2.2.2.1,bt290.2.2.2.2.2.2.2.1,bt290.2.2.2.2.2.2.2.2.1,bt290.2.2.2.2.2.2.2.2.2.1,bt290.2.2.2.2.2.2.2.2.2.2⟩ : SOp)]) (wrap64 (x4 + 1))) else (none))) else (none)) else (some x3)
def r0_CopyOps.f (k : Nat) (l0 : List (SOp)) : Option ((List (SOp))):=r0_CopyOps.l0 k l0 ([] : List (SOp)) 0
theorem r0_CopyOps.calls (k : Nat) (A0 : Option Addr) (c0 : Nat) (l0 : List (SOp)) (r : List (SOp)) (w : World) (hr0 : Kd.C kOp w A0 l0.length l0) (hc0 : l0.length <= c0) (h : r0_CopyOps.f k l0 = some r) :
  Calls Tryz.prog 20 #[.slice A0 l0.length c0] w fun e w' => ∃ v0_ : Value,e = .returned (v0_) /\ Kd.S kOp 34 w' w.heap.size (fun _ => True) v0_ r /\ Below w.heap.size w w':=by
 have hu34:=Tryz.underlying34
 have HR0:=Zz.k hr0
 have HC0:=Zz.k hc0
 clear hr0 hc0
 have HB:=Zz.k (Below.refl w.heap.size w)
 unfold r0_CopyOps.f at h; have H:=h
 clear h
 have H':=Zz.k H
 clear H
 go_enter Tryz.func20,Tryz.ntmps20
 go_wp2
 go_loopg [3,4] k (fun kq v3 v4 w' => ∃ (x3_1 : List (SOp)) (x4_1 : Int),v4 = .int .i64 x4_1 /\ Zz (r0_CopyOps.l0 kq l0 x3_1 x4_1 = some r) /\ Zz (kq <= k) /\ Zz (Kd.S kOp 34 w' w.heap.size (fun _ => True) v3 x3_1) /\ Zz (Below w.heap.size w w'))
 case atStart => exact ⟨(([] : List (SOp))),(0),rf,H',⟨Nat.le_refl _⟩,⟨by first | exact Kd.S_nil _ _ _ _ _ | exact Kd.N_nil _ _ _ _ _ | exact Kd.V_nil _ _ _ _ _ | exact Kd.Q_nil _ _ _ _ _ | exact Kd.R_nil _ _ _ _ _⟩,⟨bw HB⟩⟩
 case round =>
  clear H'
  obtain ⟨x3_1,x4_1,rfl,HA,HK1,HO_3,HB⟩:=hrel
  cases gk with
  | zero => exact absurd HA.out (by simp [r0_CopyOps.l0])
  | succ k1 =>
   have H:=HA.out
   clear HA
   simp only [r0_CopyOps.l0] at H
   by_cases c2 : x4_1 < (l0.length : Int); rotate_left
   ·rw [if_neg c2] at H
    have c2b0:=Ze c2
    clear c2
    obtain rfl:=Zo H
    go_wp2
    go_ret
    exact ⟨_,re,by (with_reducible repeat (first | apply Kd.S_alloc | apply Kd.S_drewN | apply Kd.S_drew)); exact HO_3.out,bw HB⟩
   rw [if_pos c2] at H
   have c2b0:=Zd c2
   clear c2
   by_cases c3 : 0 <= x4_1; rotate_left
   ·rw [if_neg c3] at H
    exact absurd H (by simp)
   rw [if_pos c3] at H
   have c3b0:=Zd c3
   clear c3
   obtain ⟨⟨t290,t291,t292,t293,t294,t295,t296,t297,t300,t301,t302⟩,A4,H⟩:=bE H
   try dsimp only at H
   by_cases c5 : x3_1.length < 1256584717458; rotate_left
   ·rw [if_neg c5] at H
    exact absurd H (by simp)
   rw [if_pos c5] at H
   have LMc5:=Zz.k c5
   clear c5
   obtain ⟨y303,hy303⟩ : ∃ y_ : List (SOp),y_ = (x3_1 ++ [(⟨t290,t291,t292,(⟨t293,t294,t295⟩ : SElem),t296,t297,t300,t301,t302⟩ : SOp)]):=⟨_,rfl⟩
   first | rw [Option.bind_some,<- hy303] at H | rw [<- hy303] at H
   have Ny303:=Zz.k hy303
   clear hy303
   have H':=Zz.k H
   clear H
   have p289 : 0 <= (x4_1 : Int):=od
   have q289 : x4_1 < (l0.length : Int):=od
   obtain ⟨ad289,A289_7,c289_7,e289,hx289_0,hx289_1,hx289_2,hx289_3,hx289_4,hx289_5,hx289_6,hx289_7,hx289_8,hx289_9,hx289_10,hl289_7,hi289_7⟩:=Qcg HR0.out x4_1 p289 q289
   cases e289
   replace hx289_0:=cl HB hx289_0
   replace hx289_1:=cl HB hx289_1
   replace hx289_2:=cl HB hx289_2
   replace hx289_3:=cl HB hx289_3
   replace hx289_4:=cl HB hx289_4
   replace hx289_5:=cl HB hx289_5
   replace hx289_6:=cl HB hx289_6
   replace hx289_7:=cl HB hx289_7
   replace hx289_8:=cl HB hx289_8
   replace hx289_9:=cl HB hx289_9
   replace hx289_10:=cl HB hx289_10
   have HR289_7:=Zz.k hi289_7
   have HC289_7:=Zz.k hl289_7
   clear hi289_7 hl289_7
   replace p289:=eq_true p289
   replace q289:=eq_true q289
   go_wp2_with (first | ((with_reducible refine Qac (f:=54) rfl ?_); refine gl (some 16) Tryz.func54 #[.agg #[.int .i64 ((Qad l0 x4_1).f0), .int .i64 ((Qad l0 x4_1).f1), .int .i64 ((Qad l0 x4_1).f2), .int .i64 ((Qad l0 x4_1).f3.f0), .int .i64 ((Qad l0 x4_1).f3.f1), .int .i64 ((Qad l0 x4_1).f3.f2), .string ((Qad l0 x4_1).f4), .slice A289_7 ((Qad l0 x4_1).f5).length c289_7, .int .i64 ((Qad l0 x4_1).f6), .int .i64 ((Qad l0 x4_1).f7), .int .i64 ((Qad l0 x4_1).f8)]] (h := ?_); (with_reducible refine (r0_CopyOp.calls k1 ((Qad l0 x4_1).f0) ((Qad l0 x4_1).f1) ((Qad l0 x4_1).f2) ((Qad l0 x4_1).f3.f0) ((Qad l0 x4_1).f3.f1) ((Qad l0 x4_1).f3.f2) ((Qad l0 x4_1).f4) _ _ ((Qad l0 x4_1).f5) ((Qad l0 x4_1).f6) ((Qad l0 x4_1).f7) ((Qad l0 x4_1).f8) t290 t291 t292 t293 t294 t295 t296 t297 t300 t301 t302 _ ?side1 ?side2 A4.out).mono ?_); (case side1 => exact cb HR289_7 HB); (case side2 => exact HC289_7.out); rintro e w6 ⟨v298,rfl,ho0,hb⟩; refine ⟨_,rfl, ?_⟩; have HO299:=Zz.k (Kd.R_lower ho0 (Qal (bw HB))); replace HO_3:=Zz.k (Kd.S_elder' (sk HO_3) (Kd.R_base ho0) hb); replace HB:=bs HB hb; clear hb; clear ho0; obtain ⟨Ao8,co8,eo8⟩:=Kd.R_slice HO299.out; subst eo8) | ((with_reducible refine Qbz (b:=.append) (xs:=#[.tmp 11, .tmp 17]) rfl ?_); at_builtin; refine Kd.S_append kOp (w0:=w) w.heap.size rfl (.tmp 11) (.tmp 17) 24 34 (.agg #[(.int .i64 0),(.int .i64 0),(.int .i64 0),(.int .i64 0),(.int .i64 0),(.int .i64 0),(.string ⟨#[]⟩),(.slice none 0 0),(.int .i64 0),(.int .i64 0),(.int .i64 0)]) 112 rfl Tryz.underlying24 info34 rfl (by decide) (by omega) u3 x3_1 (⟨t290,t291,t292,(⟨t293,t294,t295⟩ : SElem),t296,t297,t300,t301,t302⟩ : SOp) [.int .i64 t290, .int .i64 t291, .int .i64 t292, .int .i64 t293, .int .i64 t294, .int .i64 t295, .string t296, .slice Ao8 t297.length co8, .int .i64 t300, .int .i64 t301, .int .i64 t302] (fun _ => True) (fun k_ => some k_ = (.slice Ao8 t297.length co8 : Value).ownBlock) rfl rfl ?aP (fun k_ hk_ => ((Kd.R_mono (ok':=fun k_ => ((fun _ => True)) k_ /\ some k_ ≠ (u3 : Value).ownBlock) (Kd.R_apart' (HO299.out) (Kd.S_typed HO_3.out) (by decide)) (fun k_ hk => ⟨trivial,hk.2⟩))).1 k_ hk_.symm) ?aF ?aO ?aB ?aS ?aL ?_; (case aP => exact kOp_mkM _ _ _ (⟨t290,t291,t292,(⟨t293,t294,t295⟩ : SElem),t296,t297,t300,t301,t302⟩ : SOp) (Kd.R_mono (Kd.R_tight rfl (Kd.R_mono (ok':=fun k_ => ((fun _ => True)) k_ /\ some k_ ≠ (u3 : Value).ownBlock) (Kd.R_apart' (HO299.out) (Kd.S_typed HO_3.out) (by decide)) (fun k_ hk => ⟨trivial,hk.2⟩))) (fun _ h_ => h_))); (case aB => exact (bw HB)); (case aF => exact (fun _ _ => trivial)); (case aO => exact (by (with_reducible repeat (first | apply Kd.S_alloc | apply Kd.S_drewN | apply Kd.S_drew)); exact Kd.S_mono HO_3.out (fun k_ hk => ⟨trivial,fun e_ => hk.2 e_⟩))); (case aS => exact (Qal (bw HB))); (case aL => have:=LMc5.out; omega); intro v304 w7 ho hb hg hat; rw [<- Ny303.out] at ho; have n0_:=Zz.k (hb); have n1_:=Zz.k (ho); clear HB; clear HO_3; clear HO299; have HB:=n0_; have HO305:=n1_; clear n0_ n1_; clear ho hb hg hat))
   go_roundg k1
   case measure => have:=HK1.out; omega
   case rel => exact ⟨(y303),(wrap64 (x4_1 + 1)),rf,H',⟨by have:=HK1.out; omega⟩,⟨sk HO305⟩,⟨bw HB⟩⟩
end
section
attribute [local go_sem] Qbm Qbk Qbu Qbt Qbc Qbb Qbl Qbj
def r4_Behind.f (k : Nat) (l0 : List (SOp)) (a1_0 : Int) (a1_1 : Int) (a1_2 : Int) (a1_3 : Int) (a1_4 : Int) (a1_5 : Int) (a1_6 : ByteArray) (l1_7 : List (SElem)) (a1_8 : Int) (a1_9 : Int) (a1_10 : Int) : Option ((List (SOp))):=(r0_CopyOps.f k l0).bind fun t391 => ((r0_CopyOp.f k a1_0 a1_1 a1_2 a1_3 a1_4 a1_5 a1_6 l1_7 a1_8 a1_9 a1_10).bind fun bt394 => (if t391.length < 1256584717458 then (some (t391 ++ [(⟨bt394.1,bt394.2.1,bt394.2.2.1,(⟨bt394.2.2.2.1,bt394.2.2.2.2.1,bt394.2.2.2.2.2.1⟩ : SElem),bt394.2.2.2.2.2.2.1,bt394.2.2.2.2.2.2.2.1,bt394.2.2.2.2.2.2.2.2.1,bt394.2.2.2.2.2.2.2.2.2.1,bt394.2.2.2.2.2.2.2.2.2.2⟩ : SOp)])) else (none)))
theorem r4_Behind.calls (k : Nat) (A0 : Option Addr) (c0 : Nat) (l0 : List (SOp)) (a1_0 : Int) (a1_1 : Int) (a1_2 : Int) (a1_3 : Int) (a1_4 : Int) (a1_5 : Int) (a1_6 : ByteArray) (A1_7 : Option Addr) (c1_7 : Nat) (l1_7 : List (SElem)) (a1_8 : Int) (a1_9 : Int) (a1_10 : Int) (r : List (SOp)) (w : World) (hr0 : Kd.C kOp w A0 l0.length l0) (hc0 : l0.length <= c0) (hr1_7 : Kd.C Qap w A1_7 l1_7.length l1_7) (hc1_7 : l1_7.length <= c1_7) (h : r4_Behind.f k l0 a1_0 a1_1 a1_2 a1_3 a1_4 a1_5 a1_6 l1_7 a1_8 a1_9 a1_10 = some r) :
  Calls Tryz.prog 12 #[.slice A0 l0.length c0, .agg #[.int .i64 a1_0, .int .i64 a1_1, .int .i64 a1_2, .int .i64 a1_3, .int .i64 a1_4, .int .i64 a1_5, .string a1_6, .slice A1_7 l1_7.length c1_7, .int .i64 a1_8, .int .i64 a1_9, .int .i64 a1_10]] w fun e w' => ∃ v0_ : Value,e = .returned (v0_) /\ Kd.S kOp 34 w' w.heap.size (fun _ => True) v0_ r /\ Below w.heap.size w w':=by
 have hu34:=Tryz.underlying34
 have HR0:=Zz.k hr0
 have HC0:=Zz.k hc0
 clear hr0 hc0
 have HR1_7:=Zz.k hr1_7
 have HC1_7:=Zz.k hc1_7
 clear hr1_7 hc1_7
 have HB:=Zz.k (Below.refl w.heap.size w)
 unfold r4_Behind.f at h; have H:=h
 clear h
 obtain ⟨t391,A3,H⟩:=bE H
 obtain ⟨⟨t394,t395,t396,t397,t398,t399,t400,t401,t404,t405,t406⟩,A4,H⟩:=bE H
 try dsimp only at H
 by_cases c5 : t391.length < 1256584717458; rotate_left
 ·rw [if_neg c5] at H
  exact absurd H (by simp)
 rw [if_pos c5] at H
 have LMc5:=Zz.k c5
 clear c5
 obtain ⟨y407,hy407⟩ : ∃ y_ : List (SOp),y_ = (t391 ++ [(⟨t394,t395,t396,(⟨t397,t398,t399⟩ : SElem),t400,t401,t404,t405,t406⟩ : SOp)]):=⟨_,rfl⟩
 first | rw [Option.bind_some,<- hy407] at H | rw [<- hy407] at H
 have Ny407:=Zz.k hy407
 clear hy407
 obtain rfl:=Zo H
 go_enter Tryz.func12,Tryz.ntmps12
 try go_wp2_with (first | ((with_reducible refine Qaf (N:=3) rfl ?_); refine bx 3 #[.int .i64 a1_0, .int .i64 a1_1, .int .i64 a1_2, .int .i64 a1_3, .int .i64 a1_4, .int .i64 a1_5, .string a1_6, .slice A1_7 l1_7.length c1_7, .int .i64 a1_8, .int .i64 a1_9, .int .i64 a1_10] 34 (h := ?_); intro gb390 hg w6 hbox hb; have BK390:=Zz.k (hbox); have GW390:=bz HB hg; have GE390:=bz HB hg; replace HB:=bs HB hb; clear hb hbox hg))
 have n0_:=Zz.k (Qao BK390.out)
 have n1_:=Zz.k (Qae HB.out)
 clear BK390
 clear HB
 have BK390:=n0_
 have HB:=n1_
 clear n0_ n1_
 refine stP (fun w' => E11 w' gb390 (.int .i64 a1_0) (.int .i64 a1_1) (.int .i64 a1_2) (.int .i64 a1_3) (.int .i64 a1_4) (.int .i64 a1_5) (.string a1_6) (.slice A1_7 l1_7.length c1_7) (.int .i64 a1_8) (.int .i64 a1_9) (.int .i64 a1_10)) 7 (e11 BK390) (h:=fun hHeld => ?_)
 generalize w6.drew = w7 at BK390 HB hHeld ⊢
 refine pu0 0 5 1 (h := ?_)
 refine tk0 hHeld 2 7 5 (h := ?_)
 refine on0 1 (some 6) 7 (h:=fun K hK => ?_)
 refine gS Tryz.func20 #[.slice A0 l0.length c0] (h := ?_)
 with_reducible refine (r0_CopyOps.calls k _ _ l0 t391 _ ?side1 ?side2 A3.out).mono ?_
 (case side1 => exact cb HR0 HB)
 (case side2 => exact HC0.out)
 rintro e w8 ⟨v392,rfl,ho0,hb⟩
 refine ⟨_,rfl, ?_⟩
 have n0_:=Zz.k (Kd.S_lower (Kd.S_newB ho0 (kk BK390)) (Qal (bw HB)))
 have n1_:=bl BK390 hb
 have n2_:=bs HB hb
 clear BK390
 clear HB
 have HO393:=n0_
 have BK390:=n1_
 have HB:=n2_
 clear n0_ n1_ n2_
 (try clear hb)
 (try clear hb2)
 (try clear hk)
 (try clear hi)
 (try clear ho0)
 refine hK.out _ _ (e11 BK390) (fun hHeld => ?_)
 clear hK K
 refine nn 6 (h := ?_)
 refine on0 3 (some 8) 15 (h:=fun K hK => ?_)
 refine gS Tryz.func54 #[.agg #[.int .i64 a1_0, .int .i64 a1_1, .int .i64 a1_2, .int .i64 a1_3, .int .i64 a1_4, .int .i64 a1_5, .string a1_6, .slice A1_7 l1_7.length c1_7, .int .i64 a1_8, .int .i64 a1_9, .int .i64 a1_10]] (h := ?_)
 with_reducible refine (r0_CopyOp.calls k a1_0 a1_1 a1_2 a1_3 a1_4 a1_5 a1_6 _ _ l1_7 a1_8 a1_9 a1_10 t394 t395 t396 t397 t398 t399 t400 t401 t404 t405 t406 _ ?side1 ?side2 A4.out).mono ?_
 (case side1 => exact cb HR1_7 HB)
 (case side2 => exact HC1_7.out)
 rintro e w9 ⟨v402,rfl,ho0,hb⟩
 refine ⟨_,rfl, ?_⟩
 have n0_:=Zz.k (Kd.S_elder' (sk HO393) (Kd.R_base ho0) hb)
 have n1_:=Zz.k (Kd.R_lower ho0 (Qal (bw HB)))
 have n2_:=bl BK390 hb
 have n3_:=bs HB hb
 clear HO393
 clear BK390
 clear HB
 have HO393:=n0_
 have HO403:=n1_
 have BK390:=n2_
 have HB:=n3_
 clear n0_ n1_ n2_ n3_
 (try clear hb)
 (try clear hb2)
 (try clear hk)
 (try clear hi)
 (try clear ho0)
 obtain ⟨Ao11,co11,eo11⟩:=Kd.R_slice HO403.out
 (first | subst eo11 | (injection eo11 with f1_ f2_ f3_; have f4_:=f1_.symm; have f5_:=f3_.symm; clear f1_ f2_ f3_; subst f4_; subst f5_))
 refine hK.out _ _ (e11 BK390) (fun hHeld => ?_)
 clear hK K
 refine nn 8 (h := ?_)
 refine on0 4 (some 9) 31 (h:=fun K hK => ?_)
 refine value_ (w1 := ?_) (v := ?_) (by rfl) rfl ?_ ?_
 rotate_left 2
 ·go_simp
  constructor
  ·rfl
  rfl
 refine hK.out _ _ ⟨(Qdf (Qax BK390.out _) 0).trans rfl,(Qdf (Qax BK390.out _) 1).trans rfl,(Qdf (Qax BK390.out _) 2).trans rfl,(Qdf (Qax BK390.out _) 3).trans rfl,(Qdf (Qax BK390.out _) 4).trans rfl,(Qdf (Qax BK390.out _) 5).trans rfl,(Qdf (Qax BK390.out _) 6).trans rfl,(Qdf (Qax BK390.out _) 7).trans rfl,(Qdf (Qax BK390.out _) 8).trans rfl,(Qdf (Qax BK390.out _) 9).trans rfl,(Qdf (Qax BK390.out _) 10).trans rfl⟩ (fun hHeld => ?_)
 clear hK K
 refine nn 9 (h := ?_)
 refine on0 5 (some 10) 63 (h:=fun K hK => ?_)
 refine Kd.S_append_step kOp (w0:=w) w.heap.size (by rfl) (.tmp 6) (.tmp 9) 24 34 (.agg #[(.int .i64 0),(.int .i64 0),(.int .i64 0),(.int .i64 0),(.int .i64 0),(.int .i64 0),(.string ⟨#[]⟩),(.slice none 0 0),(.int .i64 0),(.int .i64 0),(.int .i64 0)]) 112 rfl Tryz.underlying24 info34 rfl (by decide) (by omega) v392 t391 (⟨t394,t395,t396,(⟨t397,t398,t399⟩ : SElem),t400,t401,t404,t405,t406⟩ : SOp) [.int .i64 t394, .int .i64 t395, .int .i64 t396, .int .i64 t397, .int .i64 t398, .int .i64 t399, .string t400, .slice Ao11 t401.length co11, .int .i64 t404, .int .i64 t405, .int .i64 t406] (fun k_ => k_ ≠ gb390) (fun k_ => some k_ = (.slice Ao11 t401.length co11 : Value).ownBlock) rfl rfl ?aP (fun k_ hk_ => ((Kd.R_mono (ok':=fun k_ => ((fun k_ => k_ ≠ gb390)) k_ /\ some k_ ≠ (v392 : Value).ownBlock) (Kd.R_types (Kd.R_apart' (HO403.out) (Kd.S_typed HO393.out) (by decide)) BK390.out (by decide)) (fun k_ hk => ⟨hk.2,hk.1.2⟩))).1 k_ hk_.symm) ?aF ?aO ?aB ?aS ?aL ?_
 (case aP => exact kOp_mkM _ _ _ (⟨t394,t395,t396,(⟨t397,t398,t399⟩ : SElem),t400,t401,t404,t405,t406⟩ : SOp) (Kd.R_mono (Kd.R_tight rfl (Kd.R_mono (ok':=fun k_ => ((fun k_ => k_ ≠ gb390)) k_ /\ some k_ ≠ (v392 : Value).ownBlock) (Kd.R_types (Kd.R_apart' (HO403.out) (Kd.S_typed HO393.out) (by decide)) BK390.out (by decide)) (fun k_ hk => ⟨hk.2,hk.1.2⟩))) (fun _ h_ => h_)))
 (case aB => exact (bw HB))
 (case aF => exact (fun k_ hk => Kd.freshB (kk BK390) k_ hk))
 (case aO => exact (by (with_reducible repeat (first | apply Kd.S_alloc | apply Kd.S_drewN | apply Kd.S_drew)); exact Kd.S_mono HO393.out (fun k_ hk => ⟨hk.1.2,fun e_ => hk.2 e_⟩)))
 (case aS => exact (Qal (bw HB)))
 (case aL => have:=LMc5.out; omega)
 intro v408 w10 ho hb hg hat
 rw [<- Ny407.out] at ho
 have n0_:=Zz.k (Qcx (kk BK390) hg (Kd.S_away HO393.out (fun _ hk => hk.1.2)))
 have n1_:=Zz.k (hb)
 have n2_:=Zz.k (ho)
 clear BK390
 clear HB
 clear HO393
 clear HO403
 have BK390:=n0_
 have HB:=n1_
 have HO409:=n2_
 clear n0_ n1_ n2_
 clear ho hb hg hat
 refine hK.out _ _ (e11 BK390) (fun hHeld => ?_)
 clear hK K
 refine nn 10 (h := ?_)
 refine pu0 6 4 127 (h := ?_)
 refine dn0 (h := ?_)
 try go_wp2
 go_ret
 exact ⟨_,re,by (with_reducible repeat (first | apply Kd.S_alloc | apply Kd.S_drewN | apply Kd.S_drew)); exact Kd.S_mono HO409.out (fun _ hk => trivial),bw HB⟩
end
section
attribute [local go_sem] Qbm Qbk Qbu Qbt Qbc Qbb Qbl Qbj
attribute [local go_sem high] eqAElem
def r0_EqElems.l0 : Nat -> List (SElem) -> List (SElem) -> Int -> Option (Bool)
 | 0,_,_,_ => none
 | k + 1,x0,x1,x5 => if x5 < (x0.length : Int) then (if 0 <= x5 then (if x5 < (x1.length : Int) then (if (!(((Qaa x0 x5).f0) == ((Qaa x1 x5).f0)) || (!(((Qaa x0 x5).f1) == ((Qaa x1 x5).f1)) || (!(((Qaa x0 x5).f2) == ((Qaa x1 x5).f2))))) = true then (some false) else (r0_EqElems.l0 k x0 x1 (wrap64 (x5 + 1)))) else (none)) else (none)) else (some true)
def r0_EqElems.f (k : Nat) (l0 : List (SElem)) (l1 : List (SElem)) : Option (Bool):=if (l0.length : Int) = (l1.length : Int) then (r0_EqElems.l0 k l0 l1 0) else (some false)
def r0_EqOp.f (k : Nat) (a0_0 : Int) (a0_1 : Int) (a0_2 : Int) (a0_3 : Int) (a0_4 : Int) (a0_5 : Int) (a0_6 : ByteArray) (l0_7 : List (SElem)) (a0_8 : Int) (a0_9 : Int) (a0_10 : Int) (a1_0 : Int) (a1_1 : Int) (a1_2 : Int) (a1_3 : Int) (a1_4 : Int) (a1_5 : Int) (a1_6 : ByteArray) (l1_7 : List (SElem)) (a1_8 : Int) (a1_9 : Int) (a1_10 : Int) : Option (Bool):=if a0_0 = a1_0 then (if a0_1 = a1_1 then (if a0_2 = a1_2 then (if (a0_3 == a1_3 && (a0_4 == a1_4 && (a0_5 == a1_5))) = true then (if a0_6.toList = a1_6.toList then ((r0_EqElems.f k l0_7 l1_7).bind fun t435 => (if t435 = true then (if a0_8 = a1_8 then (if a0_9 = a1_9 then (some (a0_10 == a1_10)) else (some false)) else (some false)) else (some false))) else (some false)) else (some false)) else (some false)) else (some false)) else (some false)
end
end Go.Proofs.YtlllghajjamdpaaGreatDoor.L
end
