/- Part 12 of the proof that for every argument the laws CaretDeletes and CaretUndoes answer true: what goes ahead of a caret moves it by so much, where its own element goes it stands where that was; behind a toggle, and another one of the same edit, a caret is where it was. -/
import Derived.Test.YtonoaflfobajcaaDoorZCA11
section
namespace Go.Proofs.YtonoaflfobajcaaDoor.L
open Go.RowKit Go.Proofs.YtonoaflfobajcaaDoorW.PrintWords Go.Proofs.YtonoaflfobajcaaDoorW.PrintLast Go.Proofs.YtonoaflfobajcaaDoorW.PrintMore
set_option linter.unusedVariables false
set_option linter.unusedSimpArgs false
set_option maxHeartbeats 40000000
set_option maxRecDepth 1000000
section
attribute [local go_sem] Qbp Qbn Qby Qbx Qbc Qbb Qbo Qbm
mutual
def w5_Elems.j0 : Nat → List (SOp) → List (SElem) → Option ((List (SElem)))
 | 0,_,_ => none
 | k + 1,x1,x5 => w5_Elems.l0 k x1 x5 0
def w5_Elems.l0 : Nat → List (SOp) → List (SElem) → Int → Option ((List (SElem)))
 | 0,_,_,_ => none
 | k + 1,x1,x5,x6 => if x6 < (x1.length : Int) then (if x6 < 40 then (if 0 ≤ x6 then (if x5.length < 5864062014805 then (w5_Elems.l0 k x1 (x5 ++ [(⟨(Qad x1 x6).f0,(Qad x1 x6).f1,Int.tmod x6 3⟩ : SElem)]) (wrap64 (x6 + 1))) else (none)) else (none)) else (some x5)) else (some x5)
end
def w5_Elems.f (k : Nat) (l0_0 : List (List (SOp))) (l0_1 : List (SElem)) (l0_2 : List (SOp)) (l0_3 : List Int) (l1 : List (SOp)) : Option ((List (SElem))):=(some (([(⟨0,0,0⟩ : SElem)] : List (SElem)) : List (SElem))).bind fun y455 => (if y455.length + l0_1.length < 5864062014805 then ((some (y455 ++ l0_1 : List (SElem))).bind fun y458 => (if (y458.length : Int) > 6 then (if 6 ≤ (y458.length : Int) then (w5_Elems.j0 k l1 (y458.take (6 : Int).toNat)) else (none)) else (w5_Elems.j0 k l1 y458))) else (none))
def w5_Elems.T7 : Bool × List (List Nat × List Nat):=(true,[([],[]),([],[]),([],[]),([1,2],[1,2]),([3],[3]),([4],[4]),([],[]),([],[]),([6,7],[6,7]),([8],[8]),([9],[9]),([],[]),([11],[11]),([5,10,12],[5,10,12]),([13],[13]),([0,14],[0,14]),([15,15,0,1,2,3,4,5,6,7,8,9,10,11,12,13,14,15],[0,15])])
def w5_Elems.B7 : List Nat:=[0,0,0,6,14,30,0,0,192,448,960,0,2048,8190,16382,32767,65535]
theorem w5_Elems.tab7 : rtab .any (Qcu Tryd.f21 7) = w5_Elems.T7:=by kernel_rfl
theorem w5_Elems.bits7 : Qax w5_Elems.T7.2 w5_Elems.B7 = true:=by kernel_rfl
theorem w5_Elems.calls (k : Nat) (A0_0 : Option Addr) (c0_0 : Nat) (l0_0 : List (List (SOp))) (A0_1 : Option Addr) (c0_1 : Nat) (l0_1 : List (SElem)) (A0_2 : Option Addr) (c0_2 : Nat) (l0_2 : List (SOp)) (A0_3 : Option Addr) (c0_3 : Nat) (l0_3 : List Int) (A1 : Option Addr) (c1 : Nat) (l1 : List (SOp)) (r : List (SElem)) (w : World) (hr0_0 : Kd.C (Kd.slice 55 kOp) w A0_0 l0_0.length l0_0) (hc0_0 : l0_0.length ≤ c0_0) (hr0_1 : Kd.C Qaq w A0_1 l0_1.length l0_1) (hc0_1 : l0_1.length ≤ c0_1) (hr0_2 : Kd.C kOp w A0_2 l0_2.length l0_2) (hc0_2 : l0_2.length ≤ c0_2) (hr0_3 : Kd.C (Kd.int .i64) w A0_3 l0_3.length l0_3) (hc0_3 : l0_3.length ≤ c0_3) (hr1 : Kd.C kOp w A1 l1.length l1) (hc1 : l1.length ≤ c1) (h : w5_Elems.f k l0_0 l0_1 l0_2 l0_3 l1 = some r) :
  Calls Tryd.prog 21 #[.agg #[.slice A0_0 l0_0.length c0_0, .slice A0_1 l0_1.length c0_1, .slice A0_2 l0_2.length c0_2, .slice A0_3 l0_3.length c0_3], .slice A1 l1.length c1] w fun e w' => ∃ v0_ : Value,e = .returned (v0_) ∧ Kd.R Qaq 43 w' w.heap.size (fun _ => True) v0_ r ∧ Below w.heap.size w w':=by
 have hu27:=Tryd.underlying27
 have hu43:=Tryd.underlying43
 have HR0_0:=Aside0.mk hr0_0
 have HC0_0:=Aside0.mk hc0_0
 clear hr0_0 hc0_0
 have HR0_1:=Aside0.mk hr0_1
 have HC0_1:=Aside0.mk hc0_1
 clear hr0_1 hc0_1
 have HR0_2:=Aside0.mk hr0_2
 have HC0_2:=Aside0.mk hc0_2
 clear hr0_2 hc0_2
 have HR0_3:=Aside0.mk hr0_3
 have HC0_3:=Aside0.mk hc0_3
 clear hr0_3 hc0_3
 have HR1:=Aside0.mk hr1
 have HC1:=Aside0.mk hc1
 clear hr1 hc1
 have HB:=Aside0.mk (Below.refl w.heap.size w)
 unfold w5_Elems.f at h; have H:=h
 clear h
 obtain ⟨y455,hy455⟩ : ∃ y_ : List (SElem),y_ = (([(⟨0,0,0⟩ : SElem)] : List (SElem))):=⟨_,rfl⟩
 first | rw [Option.bind_some,← hy455] at H | rw [← hy455] at H
 have Ny455:=Aside0.mk hy455
 clear hy455
 by_cases c3 : y455.length + l0_1.length < 5864062014805; rotate_left
 ·rw [if_neg c3] at H
  exact absurd H (by simp)
 rw [if_pos c3] at H
 have LMc3:=Aside0.mk c3
 clear c3
 obtain ⟨y458,hy458⟩ : ∃ y_ : List (SElem),y_ = (y455 ++ l0_1):=⟨_,rfl⟩
 first | rw [Option.bind_some,← hy458] at H | rw [← hy458] at H
 have Ny458:=Aside0.mk hy458
 clear hy458
 have HC4:=Aside0.mk H
 clear H
 go_enter Tryd.func21,Tryd.ntmps21
 go_upto_if 14 with (first | ((with_reducible refine Qae (N:=2) rfl ?_); refine bx 2 #[.slice A0_0 l0_0.length c0_0, .slice A0_1 l0_1.length c0_1, .slice A0_2 l0_2.length c0_2, .slice A0_3 l0_3.length c0_3] 27 (h := ?_); intro gb454 hg w5 hbox hb; have BK454:=Aside0.mk (hbox); have GW454:=bz HB hg; have GE454:=bz HB hg; replace HB:=bs HB hb; clear hb hbox hg) | ((with_reducible refine Qae (N:=8) rfl ?_); refine Kd.R_lit Qaq _ 43 ?hg (N:=8) ?hd (xs:=([(⟨0,0,0⟩ : SElem)] : List (SElem))) (inner:=[.int .i64 0, .int .i64 0, .int .i64 0]) (ok:=fun _ => True) (okp:=fun _ => True) ?hr ?hp (fun _ hk => hk) trivial (Below.refl _ _) (Nat.le_refl _) (by simp) ?_; (case hd => rfl); (case hg => rfl); (case hr => first | (go_simp; done) | (go_simp; rfl)); (case hp => exact (Reps.c3 (show Kd.M Qaq _ _ _ (⟨0,0,0⟩ : SElem) [.int .i64 0, .int .i64 0, .int .i64 0] from (Qbs _ _ _ (⟨0,0,0⟩ : SElem) )) (Reps.none _ _))); intro v456 w6 ho7 hb hg_ hnew_; clear hg_ hnew_; (first | rw [← Ny455.out] at ho7 | (simp only [Int.reduceToNat] at ho7; rw [← Ny455.out] at ho7)); have HO457:=Aside0.mk (Kd.R_lower ho7 (Qai (bw HB))); replace BK454:=bl BK454 hb; replace HB:=bs HB hb; clear hb ho7; obtain ⟨_,_,_,_,_,_,_,_⟩:=kc4 BK454) | ((with_reducible refine Qcf (b:=.append) (xs:=#[.tmp 8, .tmp 10]) rfl ?_); at_builtin; refine Kd.R_append_rows Qaq (w0:=w) w.heap.size rfl (.tmp 8) (.tmp 10) 23 43 (.agg #[(.int .i64 0),(.int .i64 0),(.int .i64 0)]) 24 rfl Tryd.underlying23 info43 rfl (by decide) (by omega) v456 y455 l0_1 _ _ _ (fun _ => True) (fun _ => False) rfl rfl ?aO ?aR (fun _ _ h => h) (fun _ h => h.elim) ?aF ?aB ?aS ?aL ?_; (case aR => exact cb HR0_1 HB); (case aB => exact (bw HB)); (case aF => exact (fun _ _ => trivial)); (case aO => exact (rk HO457)); (case aS => exact (Qai (bw HB))); (case aL => have:=LMc3.out; omega); intro v459 w9 ho hb hg hat; rw [← Ny458.out] at ho; have n0_:=Aside0.mk (Qcm (kk BK454) hg (Kd.R_ne HO457.out BK454.out (by decide))); have n1_:=Aside0.mk (hb); have n2_:=Aside0.mk (ho); clear BK454; clear HB; clear HO457; have BK454:=n0_; have HB:=n1_; have HO460:=n2_; clear n0_ n1_ n2_; clear ho hb hg hat; obtain ⟨Ao10,co10,eo10⟩:=Kd.R_slice HO460.out; subst eo10))
 (try simp only [Act.put,List.setIfInBounds_toArray,List.set_cons_zero,List.set_cons_succ])
 go_cut [5] (fun v5 wc => ∃ (kq : Nat) (x5_3 : List (SElem)),Aside0 (w5_Elems.j0 kq l1 x5_3 = some r) ∧ Aside0 (kq ≤ k) ∧ Aside0 (Kd.R Qaq 43 wc w.heap.size (fun _ => True) v5 x5_3) ∧ Aside0 (wc.heap[gb454]? = some (.cells #[(.slice A0_0 l0_0.length c0_0),(.slice A0_1 l0_1.length c0_1),(.slice A0_2 l0_2.length c0_2),(.slice A0_3 l0_3.length c0_3)] 27 (0,0))) ∧ Aside0 (Below w.heap.size w wc))
 case first =>
  have H:=HC4.out
  clear HC4
  by_cases c11 : (y458.length : Int) > 6; rotate_left
  ·rw [if_neg c11] at H
   have c11b0:=decide_eq_false c11
   have c11b1 : decide (6 < y458.length) = false:=decide_eq_false (by omega)
   clear c11
   (first | rw [c11b0] | (simp only [Qaw,Qay]; rw [c11b0]) | skip)
   have H':=Aside0.mk H
   clear H
   go_wp2
   go_meet
   case rel => exact ⟨_,(y458),H',⟨by first | omega | exact Nat.le_refl _⟩,⟨rk HO460⟩,⟨kk BK454⟩,⟨bw HB⟩⟩
  rw [if_pos c11] at H
  have c11b0:=decide_eq_true c11
  have c11b1 : decide (6 < y458.length) = true:=decide_eq_true (by omega)
  clear c11
  (first | rw [c11b0] | (simp only [Qaw,Qay]; rw [c11b0]) | skip)
  by_cases c12 : 6 ≤ (y458.length : Int); rotate_left
  ·rw [if_neg c12] at H
   exact absurd H (by simp)
  rw [if_pos c12] at H
  have c12b0:=eq_true c12
  have c12b1:=decide_eq_true c12
  clear c12
  obtain ⟨y461,hy461⟩ : ∃ y_ : List (SElem),y_ = (y458.take (6 : Int).toNat):=⟨_,rfl⟩
  first | rw [Option.bind_some,← hy461] at H | rw [← hy461] at H
  have Ny461:=Aside0.mk hy461
  clear hy461
  have H':=Aside0.mk H
  clear H
  have q13 : (6 : Int) ≤ ((y458.length : Int) : Int):=od
  obtain ⟨i013,hi013,_,hsz13,_⟩:=info_parts info43
  have hcut13:=cut_to (P:=Tryd.prog) 23 43 .i64 Tryd.underlying23 hi013 Ao10 y458.length co10 6 (by omega) q13 (Kd.R_reads' HO460.out).2.1
  have hr13:=Kd.R_take (m:=(6 : Int).toNat) HO460.out (by omega)
  have hy13 : y461.length = (6 : Int).toNat:=(by rw [Ny461.out,List.length_take]; omega)
  rw [← Ny461.out] at hr13
  rw [← hy13] at hr13 hcut13
  clear hy13 hi013 hsz13 HO460
  have HO463:=Aside0.mk hr13
  clear hr13
  replace q13:=eq_true q13
  go_wp2
  go_meet
  case rel => exact ⟨_,(y461),H',⟨by first | omega | exact Nat.le_refl _⟩,⟨rk HO463⟩,⟨kk BK454⟩,⟨bw HB⟩⟩
 case rest =>
  clear HC4
  try clear c1
  obtain ⟨kq,x5_3,HA,HJ3,HO_5,BK454,HB⟩:=hcut
  cases kq with
  | zero => exact absurd HA.out (by simp [w5_Elems.j0])
  | succ kj3 =>
   have H:=HA.out
   clear HA
   simp only [w5_Elems.j0] at H
   have H':=Aside0.mk H
   clear H
   go_wp2
   go_loopg [5,6] kj3 (fun kq v5 v6 w' => ∃ (x5_2 : List (SElem)) (x6_2 : Int),v6 = .int .i64 x6_2 ∧ Aside0 (w5_Elems.l0 kq l1 x5_2 x6_2 = some r) ∧ Aside0 (kq ≤ kj3) ∧ Aside0 (Kd.R Qaq 43 w' w.heap.size (fun _ => True) v5 x5_2) ∧ Aside0 (w'.heap[gb454]? = some (.cells #[(.slice A0_0 l0_0.length c0_0),(.slice A0_1 l0_1.length c0_1),(.slice A0_2 l0_2.length c0_2),(.slice A0_3 l0_3.length c0_3)] 27 (0,0))) ∧ Aside0 (Below w.heap.size w w'))
   case atStart => exact ⟨(x5_3),(0),rf,H',⟨Nat.le_refl _⟩,⟨rk HO_5⟩,⟨kk BK454⟩,⟨bw HB⟩⟩
   case round =>
    clear H'
    obtain ⟨x5_2,x6_2,rfl,HA,HK2,HO_5,BK454,HB⟩:=hrel
    cases gk with
    | zero => exact absurd HA.out (by simp [w5_Elems.l0])
    | succ k2 =>
     have H:=HA.out
     clear HA
     simp only [w5_Elems.l0] at H
     by_cases c14 : x6_2 < (l1.length : Int); rotate_left
     ·rw [if_neg c14] at H
      have c14b0:=decide_eq_false c14
      clear c14
      obtain rfl:=Option.some.inj H
      go_wp2
      go_ret
      exact ⟨_,re,by (with_reducible repeat (first | apply Kd.R_alloc | apply Kd.R_drewN | apply Kd.R_drew)); exact HO_5.out,bw HB⟩
     rw [if_pos c14] at H
     have c14b0:=decide_eq_true c14
     clear c14
     by_cases c15 : x6_2 < 40; rotate_left
     ·rw [if_neg c15] at H
      have c15b0:=decide_eq_false c15
      clear c15
      obtain rfl:=Option.some.inj H
      go_wp2
      go_ret
      exact ⟨_,re,by (with_reducible repeat (first | apply Kd.R_alloc | apply Kd.R_drewN | apply Kd.R_drew)); exact HO_5.out,bw HB⟩
     rw [if_pos c15] at H
     have c15b0:=decide_eq_true c15
     clear c15
     by_cases c16 : 0 ≤ x6_2; rotate_left
     ·rw [if_neg c16] at H
      exact absurd H (by simp)
     rw [if_pos c16] at H
     have c16b0:=decide_eq_true c16
     clear c16
     by_cases c17 : x5_2.length < 5864062014805; rotate_left
     ·rw [if_neg c17] at H
      exact absurd H (by simp)
     rw [if_pos c17] at H
     have LMc17:=Aside0.mk c17
     clear c17
     obtain ⟨y466,hy466⟩ : ∃ y_ : List (SElem),y_ = (x5_2 ++ [(⟨(Qad l1 x6_2).f0,(Qad l1 x6_2).f1,Int.tmod x6_2 3⟩ : SElem)]):=⟨_,rfl⟩
     first | rw [Option.bind_some,← hy466] at H | rw [← hy466] at H
     have Ny466:=Aside0.mk hy466
     clear hy466
     have H':=Aside0.mk H
     clear H
     try go_wp2
     have n0_:=Aside0.mk (Kd.R_drew HO_5.out)
     have n1_:=Aside0.mk (Qan BK454.out)
     have n2_:=Aside0.mk (Qaf HB.out)
     clear HO_5
     clear BK454
     clear HB
     have HO_5:=n0_
     have BK454:=n1_
     have HB:=n2_
     clear n0_ n1_ n2_
     have p464 : 0 ≤ (x6_2 : Int):=od
     have q464 : x6_2 < (l1.length : Int):=od
     obtain ⟨ad464,A464_7,c464_7,e464,hx464_0,hx464_1,hx464_2,hx464_3,hx464_4,hx464_5,hx464_6,hx464_7,hx464_8,hx464_9,hx464_10,hl464_7,hi464_7⟩:=Qck HR1.out x6_2 p464 q464
     have hw464_10:=hx464_10
     have hw464_9:=hx464_9
     have hw464_8:=hx464_8
     have hw464_7:=hx464_7
     have hw464_6:=hx464_6
     have hw464_5:=hx464_5
     have hw464_4:=hx464_4
     have hw464_3:=hx464_3
     have hw464_2:=hx464_2
     have hw464_1:=hx464_1
     have hw464_0:=hx464_0
     cases e464
     replace hx464_0:=cl HB hx464_0
     replace hx464_1:=cl HB hx464_1
     replace hx464_2:=cl HB hx464_2
     replace hx464_3:=cl HB hx464_3
     replace hx464_4:=cl HB hx464_4
     replace hx464_5:=cl HB hx464_5
     replace hx464_6:=cl HB hx464_6
     replace hx464_7:=cl HB hx464_7
     replace hx464_8:=cl HB hx464_8
     replace hx464_9:=cl HB hx464_9
     replace hx464_10:=cl HB hx464_10
     have HR464_7:=Aside0.mk hi464_7
     have HC464_7:=Aside0.mk hl464_7
     clear hi464_7 hl464_7
     replace p464:=eq_true p464
     replace q464:=eq_true q464
     refine stP (fun w' => Q11 w' (ad464.add ((x6_2).toNat * 11)) (Qad l1 x6_2) A464_7 c464_7) 17 ⟨(cW HB hw464_0),(cW HB hw464_1),(cW HB hw464_2),(cW HB hw464_3),(cW HB hw464_4),(cW HB hw464_5),(cW HB hw464_6),(cW HB hw464_7),(cW HB hw464_8),(cW HB hw464_9),(cW HB hw464_10)⟩ (h:=fun hHeld => ?_); refine Qas w5_Elems.tab7 w5_Elems.bits7 (fun HT_ HW_ => ?_)
     generalize wr.drew = w18 at HO_5 BK454 HB HR464_7 HR464_7 hx464_0 hx464_1 hx464_10 hx464_2 hx464_3 hx464_4 hx464_5 hx464_6 hx464_7 hx464_8 hx464_9 hx464_0 hx464_1 hx464_10 hx464_2 hx464_3 hx464_4 hx464_5 hx464_6 hx464_7 hx464_8 hx464_9 hHeld ⊢
     refine pu HT_ 0 27 1 (h := ?_)
     refine pu HT_ 1 28 3 (h := ?_)
     refine pu HT_ 2 29 7 (h := ?_)
     refine pu HT_ 3 30 15 (h := ?_)
     refine pu HT_ 4 31 31 (h := ?_)
     refine pu HT_ 6 33 95 (h := ?_)
     refine pu HT_ 7 34 223 (h := ?_)
     refine pu HT_ 8 35 479 (h := ?_)
     refine pu HT_ 9 36 991 (h := ?_)
     refine pu HT_ 11 38 3039 (h := ?_)
     refine pu HT_ 12 39 7135 (h := ?_)
     refine tk HT_ HW_ hHeld 5 32 7167 (h := ?_)
     refine tk HT_ HW_ hHeld 10 37 8191 (h := ?_)
     refine pu HT_ 13 40 16383 (h := ?_)
     refine on HT_ 14 (some 41) 32767 (h:=fun K hK => ?_)
     refine value_ (w1 := ?_) (v := ?_) (by rfl) rfl ?_ ?_
     rotate_left 2
     ·go_simp
      constructor
      ·rfl
      rfl
     refine hK.out _ _ ⟨(World.cell?_alloc_lt _ _ _ (World.block_lt_of_cell? _ _ ((cW HB hw464_0)))).trans ((cW HB hw464_0)),(World.cell?_alloc_lt _ _ _ (World.block_lt_of_cell? _ _ ((cW HB hw464_1)))).trans ((cW HB hw464_1)),(World.cell?_alloc_lt _ _ _ (World.block_lt_of_cell? _ _ ((cW HB hw464_2)))).trans ((cW HB hw464_2)),(World.cell?_alloc_lt _ _ _ (World.block_lt_of_cell? _ _ ((cW HB hw464_3)))).trans ((cW HB hw464_3)),(World.cell?_alloc_lt _ _ _ (World.block_lt_of_cell? _ _ ((cW HB hw464_4)))).trans ((cW HB hw464_4)),(World.cell?_alloc_lt _ _ _ (World.block_lt_of_cell? _ _ ((cW HB hw464_5)))).trans ((cW HB hw464_5)),(World.cell?_alloc_lt _ _ _ (World.block_lt_of_cell? _ _ ((cW HB hw464_6)))).trans ((cW HB hw464_6)),(World.cell?_alloc_lt _ _ _ (World.block_lt_of_cell? _ _ ((cW HB hw464_7)))).trans ((cW HB hw464_7)),(World.cell?_alloc_lt _ _ _ (World.block_lt_of_cell? _ _ ((cW HB hw464_8)))).trans ((cW HB hw464_8)),(World.cell?_alloc_lt _ _ _ (World.block_lt_of_cell? _ _ ((cW HB hw464_9)))).trans ((cW HB hw464_9)),(World.cell?_alloc_lt _ _ _ (World.block_lt_of_cell? _ _ ((cW HB hw464_10)))).trans ((cW HB hw464_10))⟩ (fun hHeld => ?_)
     clear hK K
     refine nn 41 (h := ?_)
     refine on HT_ 15 (some 42) 65535 (h:=fun K hK => ?_)
     refine Kd.R_append_step Qaq (w0:=w) w.heap.size (by rfl) (.tmp 27) (.tmp 41) 23 43 (.agg #[(.int .i64 0),(.int .i64 0),(.int .i64 0)]) 24 rfl Tryd.underlying23 info43 rfl (by decide) (by omega) u5 x5_2 (⟨(Qad l1 x6_2).f0,(Qad l1 x6_2).f1,Int.tmod x6_2 3⟩ : SElem) [.int .i64 ((Qad l1 x6_2).f0), .int .i64 ((Qad l1 x6_2).f1), .int .i64 (Int.tmod x6_2 3)] (fun _ => True) (fun _ => False) rfl rfl ?aP (fun _ hk => hk.elim) ?aF ?aO ?aB ?aS ?aL ?_
     (case aP => exact Qbs _ _ _ (⟨(Qad l1 x6_2).f0,(Qad l1 x6_2).f1,Int.tmod x6_2 3⟩ : SElem))
     (case aB => exact (bw HB))
     (case aF => exact (fun _ _ => trivial))
     (case aO => exact (rk HO_5))
     (case aS => exact (Qai (bw HB)))
     (case aL => have:=LMc17.out; omega)
     intro v467 w19 ho hb hg hat
     rw [← Ny466.out] at ho
     have n0_:=Aside0.mk (Qcm (kk BK454) hg (Kd.R_ne HO_5.out BK454.out (by decide)))
     have n1_:=Aside0.mk (hb)
     have n2_:=Aside0.mk (ho)
     clear BK454
     clear HB
     clear HO_5
     have BK454:=n0_
     have HB:=n1_
     have HO468:=n2_
     clear n0_ n1_ n2_
     clear ho hb hg hat
     refine hK.out _ _ ⟨(cW HB hw464_0),(cW HB hw464_1),(cW HB hw464_2),(cW HB hw464_3),(cW HB hw464_4),(cW HB hw464_5),(cW HB hw464_6),(cW HB hw464_7),(cW HB hw464_8),(cW HB hw464_9),(cW HB hw464_10)⟩ (fun hHeld => ?_)
     clear hK K
     refine nn 42 (h := ?_)
     refine pu HT_ 16 5 131071 (h := ?_)
     refine dn HT_ (h := ?_)
     try go_wp2
     go_roundg k2
     case measure => have:=HJ3.out; have:=HK2.out; omega
     case rel => exact ⟨(y466),(wrap64 (x6_2 + 1)),rf,H',⟨by have:=HJ3.out; have:=HK2.out; omega⟩,⟨rk HO468⟩,⟨kk BK454⟩,⟨bw HB⟩⟩
def r4_Toggle.f (k : Nat) (l0 : List (SOp)) (a1 : Int) (a2 : Int) (a3 : Int) : Option (Int × Int × Int × Int × Int × Int × ByteArray × (List (SElem)) × Int × Int × Int × Int):=(r4_Edit.f k l0 a2 a3).bind fun t470 => (if t470 = true then ((r4_Many.f k l0 a1).bind fun t471 => ((r4_Count.f k l0 a2 a3).bind fun t472 => ((r4_Behind.f k l0 a1 (wrap64 (t471 + 1)) 2 0 0 0 (⟨#[]⟩ : ByteArray) ([] : List (SElem)) a2 a3 t472).bind fun t474 => ((r4_Row.f k t474).bind fun t477 => (if t477 = true then (some (a1,wrap64 (t471 + 1),2,0,0,0,(⟨#[]⟩ : ByteArray),([] : List (SElem)),a2,a3,t472,0)) else (some (0,0,0,0,0,0,(⟨#[]⟩ : ByteArray),([] : List (SElem)),0,0,0,6))))))) else (some (0,0,0,0,0,0,(⟨#[]⟩ : ByteArray),([] : List (SElem)),0,0,0,3)))
theorem r4_Toggle.calls (k : Nat) (A0 : Option Addr) (c0 : Nat) (l0 : List (SOp)) (a1 : Int) (a2 : Int) (a3 : Int) (r1 : Int) (r2 : Int) (r3 : Int) (r4 : Int) (r5 : Int) (r6 : Int) (r7 : ByteArray) (r8 : List (SElem)) (r9 : Int) (r10 : Int) (r11 : Int) (r12 : Int) (w : World) (hr0 : Kd.C kOp w A0 l0.length l0) (hc0 : l0.length ≤ c0) (hT : GT w) (h : r4_Toggle.f k l0 a1 a2 a3 = some (r1,r2,r3,r4,r5,r6,r7,r8,r9,r10,r11,r12)) :
  Calls Tryd.prog 38 #[.slice A0 l0.length c0, .int .i64 a1, .int .i64 a2, .int .i64 a3] w fun e w' => ∃ v7_ : Value,e = .returned (.tuple #[.agg #[.int .i64 r1, .int .i64 r2, .int .i64 r3, .int .i64 r4, .int .i64 r5, .int .i64 r6, .string r7,v7_, .int .i64 r9, .int .i64 r10, .int .i64 r11], .int .i64 r12]) ∧ Kd.R Qaq 43 w' w.heap.size (fun _ => True) v7_ r8 ∧ Below w.heap.size w w':=by
 have hu55:=Tryd.underlying55
 have HR0:=Aside0.mk hr0
 have HC0:=Aside0.mk hc0
 clear hr0 hc0
 have HB:=Aside0.mk (Below.refl w.heap.size w)
 unfold r4_Toggle.f at h; have H:=h
 clear h
 obtain ⟨t470,A5,H⟩:=bE H
 by_cases c6 : t470 = true; rotate_left
 ·replace c6:=Bool.eq_false_iff.mpr c6
  subst c6
  rw [if_neg nft] at H
  simp only [Option.some.injEq,Prod.mk.injEq] at H
  obtain ⟨rfl,rfl,rfl,rfl,rfl,rfl,rfl,rfl,rfl,rfl,rfl,rfl⟩:=H
  go_enter Tryd.func38,Tryd.ntmps38
  go_wp2_with (first | ((with_reducible refine Qae (N:=8) rfl ?_); refine bx 8 #[.int .i64 0, .int .i64 0, .int .i64 0, .int .i64 0, .int .i64 0, .int .i64 0, .string (⟨#[]⟩ : ByteArray), .slice none 0 0, .int .i64 0, .int .i64 0, .int .i64 0] 55 (h := ?_); intro gb469 hg w29 hbox hb; have BK469:=Aside0.mk (hbox); have GW469:=bz HB hg; have GE469:=bz HB hg; replace HB:=bs HB hb; clear hb hbox hg) | ((with_reducible refine Qab (f:=82) rfl ?_); refine gl (some 14) Tryd.func82 #[.slice A0 l0.length c0, .int .i64 a2, .int .i64 a3] (h := ?_); (with_reducible refine (r4_Edit.calls k _ _ l0 a2 a3 false _ ?side1 ?side2 A5.out).mono ?_); (case side1 => exact cb HR0 HB); (case side2 => exact HC0.out); rintro e w' ⟨rfl,⟨nd,rfl⟩⟩; refine ⟨_,rfl, ?_⟩; (try (rw [Qbw w29]; generalize hq_ : World.drewN w29 _ = w29; have n0_ : Aside0 (w29.heap[gb469]? = some (.cells #[.int .i64 0, .int .i64 0, .int .i64 0, .int .i64 0, .int .i64 0, .int .i64 0, .string (⟨#[]⟩ : ByteArray), .slice none 0 0, .int .i64 0, .int .i64 0, .int .i64 0] 55 (0,0))):=⟨by rw [← hq_]; exact (kk BK469)⟩; have n1_ : Aside0 (Below w.heap.size w w29):=⟨by rw [← hq_]; exact (bw HB)⟩; clear BK469 HB hq_; have BK469:=n0_; have HB:=n1_; clear n0_ n1_)); obtain ⟨_,_,_,_,_,_,_,_,_,_,_,_,_,_,_,_,_,_,_,_,_,_⟩:=kc11 BK469))
  refine bodyPost_ret (Qch rfl _ _ gb469 55 #[.int .i64 0, .int .i64 0, .int .i64 0, .int .i64 0, .int .i64 0, .int .i64 0, .string (⟨#[]⟩ : ByteArray), .slice none 0 0, .int .i64 0, .int .i64 0, .int .i64 0] (0,0) _ rfl (bp11 (kk BK469)) Tryd.underlying55 rfl (by kernel_rfl)) rfl ?_
  exact ⟨_,re,by first | exact Kd.R_nil _ _ _ _ _ | exact Kd.N_nil _ _ _ _ _ | exact Kd.V_nil _ _ _ _ _ | exact Kd.Q_nil _ _ _ _ _ | exact Kd.S_nil _ _ _ _ _,bw HB⟩
 subst c6
 rw [if_pos rfl] at H
 obtain ⟨t471,A7,H⟩:=bE H
 obtain ⟨t472,A8,H⟩:=bE H
 obtain ⟨t474,A9,H⟩:=bE H
 obtain ⟨t477,A10,H⟩:=bE H
 by_cases c11 : t477 = true
 ·subst c11
  rw [if_pos rfl] at H
  simp only [Option.some.injEq,Prod.mk.injEq] at H
  obtain ⟨rfl,rfl,rfl,rfl,rfl,rfl,rfl,rfl,rfl,rfl,rfl,rfl⟩:=H
  go_enter Tryd.func38,Tryd.ntmps38
  go_wp2_with (first | ((with_reducible refine Qae (N:=8) rfl ?_); refine bx 8 #[.int .i64 0, .int .i64 0, .int .i64 0, .int .i64 0, .int .i64 0, .int .i64 0, .string (⟨#[]⟩ : ByteArray), .slice none 0 0, .int .i64 0, .int .i64 0, .int .i64 0] 55 (h := ?_); intro gb469 hg w12 hbox hb; have BK469:=Aside0.mk (hbox); have GW469:=bz HB hg; have GE469:=bz HB hg; replace HB:=bs HB hb; clear hb hbox hg) | ((with_reducible refine Qab (f:=82) rfl ?_); refine gl (some 14) Tryd.func82 #[.slice A0 l0.length c0, .int .i64 a2, .int .i64 a3] (h := ?_); (with_reducible refine (r4_Edit.calls k _ _ l0 a2 a3 true _ ?side1 ?side2 A5.out).mono ?_); (case side1 => exact cb HR0 HB); (case side2 => exact HC0.out); rintro e w' ⟨rfl,⟨nd,rfl⟩⟩; refine ⟨_,rfl, ?_⟩; (try (rw [Qbw w12]; generalize hq_ : World.drewN w12 _ = w12; have n0_ : Aside0 (w12.heap[gb469]? = some (.cells #[.int .i64 0, .int .i64 0, .int .i64 0, .int .i64 0, .int .i64 0, .int .i64 0, .string (⟨#[]⟩ : ByteArray), .slice none 0 0, .int .i64 0, .int .i64 0, .int .i64 0] 55 (0,0))):=⟨by rw [← hq_]; exact (kk BK469)⟩; have n1_ : Aside0 (Below w.heap.size w w12):=⟨by rw [← hq_]; exact (bw HB)⟩; clear BK469 HB hq_; have BK469:=n0_; have HB:=n1_; clear n0_ n1_))) | ((with_reducible refine Qab (f:=68) rfl ?_); refine gl (some 20) Tryd.func68 #[.slice A0 l0.length c0, .int .i64 a1] (h := ?_); (with_reducible refine (r4_Many.calls k _ _ l0 a1 t471 _ ?side1 ?side2 A7.out).mono ?_); (case side1 => exact cb HR0 HB); (case side2 => exact HC0.out); rintro e w' ⟨rfl,⟨nd,rfl⟩⟩; refine ⟨_,rfl, ?_⟩; (try (rw [Qbw w12]; generalize hq_ : World.drewN w12 _ = w12; have n0_ : Aside0 (w12.heap[gb469]? = some (.cells #[.int .i64 0, .int .i64 0, .int .i64 0, .int .i64 0, .int .i64 0, .int .i64 0, .string (⟨#[]⟩ : ByteArray), .slice none 0 0, .int .i64 0, .int .i64 0, .int .i64 0] 55 (0,0))):=⟨by rw [← hq_]; exact (kk BK469)⟩; have n1_ : Aside0 (Below w.heap.size w w12):=⟨by rw [← hq_]; exact (bw HB)⟩; clear BK469 HB hq_; have BK469:=n0_; have HB:=n1_; clear n0_ n1_))) | ((with_reducible refine Qab (f:=69) rfl ?_); refine gl (some 27) Tryd.func69 #[.slice A0 l0.length c0, .int .i64 a2, .int .i64 a3] (h := ?_); (with_reducible refine (r4_Count.calls k _ _ l0 a2 a3 t472 _ ?side1 ?side2 A8.out).mono ?_); (case side1 => exact cb HR0 HB); (case side2 => exact HC0.out); rintro e w' ⟨rfl,⟨nd,rfl⟩⟩; refine ⟨_,rfl, ?_⟩; (try (rw [Qbw w12]; generalize hq_ : World.drewN w12 _ = w12; have n0_ : Aside0 (w12.heap[gb469]? = some (.cells #[.int .i64 0, .int .i64 0, .int .i64 0, .int .i64 0, .int .i64 0, .int .i64 0, .string (⟨#[]⟩ : ByteArray), .slice none 0 0, .int .i64 0, .int .i64 0, .int .i64 0] 55 (0,0))):=⟨by rw [← hq_]; exact (kk BK469)⟩; have n1_ : Aside0 (Below w.heap.size w w12):=⟨by rw [← hq_]; exact (bw HB)⟩; clear BK469 HB hq_; have BK469:=n0_; have HB:=n1_; clear n0_ n1_))) | ((with_reducible refine Qae (N:=10) rfl ?_); refine bx 10 #[.int .i64 0, .int .i64 0, .int .i64 0, .int .i64 0, .int .i64 0, .int .i64 0, .string (⟨#[]⟩ : ByteArray), .slice none 0 0, .int .i64 0, .int .i64 0, .int .i64 0] 55 (h := ?_); intro gb473 hg w13 hbox hb; have BK473:=Aside0.mk (hbox); have GW473:=bz HB hg; have GE473:=bz HB hg; have NB469_473:=bn BK469 hg; have NB473_469:=bm BK469 hg; replace BK469:=bl BK469 hb; replace HB:=bs HB hb; clear hb hbox hg; have hnb14:=NB473_469.out; have hnc14:=NB469_473.out; obtain ⟨_,_,_,_,_,_,_,_,_,_,_,_,_,_,_,_,_,_,_,_,_,_⟩:=kc11 BK473) | ((with_reducible refine Qab (f:=36) rfl ?_); refine gl (some 31) Tryd.func36 #[.slice A0 l0.length c0, .agg #[.int .i64 a1, .int .i64 (wrap64 (t471 + 1)), .int .i64 2, .int .i64 0, .int .i64 0, .int .i64 0, .string (⟨#[]⟩ : ByteArray), .slice none 0 0, .int .i64 a2, .int .i64 a3, .int .i64 t472]] (h := ?_); (refine (r4_Behind.calls k _ _ l0 a1 (wrap64 (t471 + 1)) 2 0 0 0 (⟨#[]⟩ : ByteArray) _ _ ([] : List (SElem)) a2 a3 t472 t474 _ ?side1 ?side2 ?side3 ?side4 A9.out).mono ?_); (case side1 => exact Kd.C_below HR0.out (bw HB)); (case side2 => exact HC0.out); (case side3 => exact Kd.C_nil _ _); (case side4 => exact Nat.le_refl _); rintro e w16 ⟨v475,rfl,ho0,hb⟩; refine ⟨_,rfl, ?_⟩; have HO476:=Aside0.mk (Kd.S_lower (Kd.S_newB (Kd.S_newB ho0 (kk BK469)) (g:=gb473) (o:=.cells #[.int .i64 a1, .int .i64 (wrap64 (t471 + 1)), .int .i64 2, .int .i64 0, .int .i64 0, .int .i64 0, .string (⟨#[]⟩ : ByteArray), .slice none 0 0, .int .i64 a2, .int .i64 a3, .int .i64 t472] 55 (0,0)) (bp11 (kk BK473))) (Qai (bw HB))); replace BK469:=bl BK469 hb; replace BK473:=Aside0.mk (Qbl (bp11 (kk BK473)) hb); replace HB:=bs HB hb; clear hb; clear ho0; obtain ⟨Ao17,co17,eo17⟩:=Kd.S_slice HO476.out; subst eo17) | ((with_reducible refine Qab (f:=15) rfl ?_); refine gl (some 32) Tryd.func15 #[.slice Ao17 t474.length co17] (h := ?_); (with_reducible refine (r4_Row.calls k _ _ t474 true _ ?side1 ?side2 ?side3 A10.out).mono ?_); (case side1 => exact cs HO476); (case side2 => exact (Kd.S_reads' HO476.out).2.1); (case side3 => exact (hT.below (bw HB))); rintro e w18 ⟨rfl,hb⟩; refine ⟨_,rfl, ?_⟩; replace HO476:=sb HO476 hb; replace BK469:=bl BK469 hb; replace BK473:=bl BK473 hb; replace HB:=bs HB hb; clear hb; obtain ⟨_,_,_,_,_,_,_,_,_,_,_,_,_,_,_,_,_,_,_,_,_,_⟩:=kc11 BK473; obtain ⟨_,_,_,_,_,_,_,_,_,_,_,_,_,_,_,_,_,_,_,_,_,_⟩:=kc11 BK469))
  refine bodyPost_ret (Qch rfl _ _ gb469 55 #[.int .i64 a1, .int .i64 (wrap64 (t471 + 1)), .int .i64 2, .int .i64 0, .int .i64 0, .int .i64 0, .string (⟨#[]⟩ : ByteArray), .slice none 0 0, .int .i64 a2, .int .i64 a3, .int .i64 t472] (0,0) _ rfl (bp11 (kk BK469)) Tryd.underlying55 rfl (by kernel_rfl)) rfl ?_
  exact ⟨_,re,by first | exact Kd.R_nil _ _ _ _ _ | exact Kd.N_nil _ _ _ _ _ | exact Kd.V_nil _ _ _ _ _ | exact Kd.Q_nil _ _ _ _ _ | exact Kd.S_nil _ _ _ _ _,bw HB⟩
 replace c11:=Bool.eq_false_iff.mpr c11
 subst c11
 rw [if_neg nft] at H
 simp only [Option.some.injEq,Prod.mk.injEq] at H
 obtain ⟨rfl,rfl,rfl,rfl,rfl,rfl,rfl,rfl,rfl,rfl,rfl,rfl⟩:=H
 go_enter Tryd.func38,Tryd.ntmps38
 go_wp2_with (first | ((with_reducible refine Qae (N:=8) rfl ?_); refine bx 8 #[.int .i64 0, .int .i64 0, .int .i64 0, .int .i64 0, .int .i64 0, .int .i64 0, .string (⟨#[]⟩ : ByteArray), .slice none 0 0, .int .i64 0, .int .i64 0, .int .i64 0] 55 (h := ?_); intro gb469 hg w21 hbox hb; have BK469:=Aside0.mk (hbox); have GW469:=bz HB hg; have GE469:=bz HB hg; replace HB:=bs HB hb; clear hb hbox hg) | ((with_reducible refine Qab (f:=82) rfl ?_); refine gl (some 14) Tryd.func82 #[.slice A0 l0.length c0, .int .i64 a2, .int .i64 a3] (h := ?_); (with_reducible refine (r4_Edit.calls k _ _ l0 a2 a3 true _ ?side1 ?side2 A5.out).mono ?_); (case side1 => exact cb HR0 HB); (case side2 => exact HC0.out); rintro e w' ⟨rfl,⟨nd,rfl⟩⟩; refine ⟨_,rfl, ?_⟩; (try (rw [Qbw w21]; generalize hq_ : World.drewN w21 _ = w21; have n0_ : Aside0 (w21.heap[gb469]? = some (.cells #[.int .i64 0, .int .i64 0, .int .i64 0, .int .i64 0, .int .i64 0, .int .i64 0, .string (⟨#[]⟩ : ByteArray), .slice none 0 0, .int .i64 0, .int .i64 0, .int .i64 0] 55 (0,0))):=⟨by rw [← hq_]; exact (kk BK469)⟩; have n1_ : Aside0 (Below w.heap.size w w21):=⟨by rw [← hq_]; exact (bw HB)⟩; clear BK469 HB hq_; have BK469:=n0_; have HB:=n1_; clear n0_ n1_))) | ((with_reducible refine Qab (f:=68) rfl ?_); refine gl (some 20) Tryd.func68 #[.slice A0 l0.length c0, .int .i64 a1] (h := ?_); (with_reducible refine (r4_Many.calls k _ _ l0 a1 t471 _ ?side1 ?side2 A7.out).mono ?_); (case side1 => exact cb HR0 HB); (case side2 => exact HC0.out); rintro e w' ⟨rfl,⟨nd,rfl⟩⟩; refine ⟨_,rfl, ?_⟩; (try (rw [Qbw w21]; generalize hq_ : World.drewN w21 _ = w21; have n0_ : Aside0 (w21.heap[gb469]? = some (.cells #[.int .i64 0, .int .i64 0, .int .i64 0, .int .i64 0, .int .i64 0, .int .i64 0, .string (⟨#[]⟩ : ByteArray), .slice none 0 0, .int .i64 0, .int .i64 0, .int .i64 0] 55 (0,0))):=⟨by rw [← hq_]; exact (kk BK469)⟩; have n1_ : Aside0 (Below w.heap.size w w21):=⟨by rw [← hq_]; exact (bw HB)⟩; clear BK469 HB hq_; have BK469:=n0_; have HB:=n1_; clear n0_ n1_))) | ((with_reducible refine Qab (f:=69) rfl ?_); refine gl (some 27) Tryd.func69 #[.slice A0 l0.length c0, .int .i64 a2, .int .i64 a3] (h := ?_); (with_reducible refine (r4_Count.calls k _ _ l0 a2 a3 t472 _ ?side1 ?side2 A8.out).mono ?_); (case side1 => exact cb HR0 HB); (case side2 => exact HC0.out); rintro e w' ⟨rfl,⟨nd,rfl⟩⟩; refine ⟨_,rfl, ?_⟩; (try (rw [Qbw w21]; generalize hq_ : World.drewN w21 _ = w21; have n0_ : Aside0 (w21.heap[gb469]? = some (.cells #[.int .i64 0, .int .i64 0, .int .i64 0, .int .i64 0, .int .i64 0, .int .i64 0, .string (⟨#[]⟩ : ByteArray), .slice none 0 0, .int .i64 0, .int .i64 0, .int .i64 0] 55 (0,0))):=⟨by rw [← hq_]; exact (kk BK469)⟩; have n1_ : Aside0 (Below w.heap.size w w21):=⟨by rw [← hq_]; exact (bw HB)⟩; clear BK469 HB hq_; have BK469:=n0_; have HB:=n1_; clear n0_ n1_))) | ((with_reducible refine Qae (N:=10) rfl ?_); refine bx 10 #[.int .i64 0, .int .i64 0, .int .i64 0, .int .i64 0, .int .i64 0, .int .i64 0, .string (⟨#[]⟩ : ByteArray), .slice none 0 0, .int .i64 0, .int .i64 0, .int .i64 0] 55 (h := ?_); intro gb473 hg w22 hbox hb; have BK473:=Aside0.mk (hbox); have GW473:=bz HB hg; have GE473:=bz HB hg; have NB469_473:=bn BK469 hg; have NB473_469:=bm BK469 hg; replace BK469:=bl BK469 hb; replace HB:=bs HB hb; clear hb hbox hg; have hnb23:=NB473_469.out; have hnc23:=NB469_473.out; obtain ⟨_,_,_,_,_,_,_,_,_,_,_,_,_,_,_,_,_,_,_,_,_,_⟩:=kc11 BK473) | ((with_reducible refine Qab (f:=36) rfl ?_); refine gl (some 31) Tryd.func36 #[.slice A0 l0.length c0, .agg #[.int .i64 a1, .int .i64 (wrap64 (t471 + 1)), .int .i64 2, .int .i64 0, .int .i64 0, .int .i64 0, .string (⟨#[]⟩ : ByteArray), .slice none 0 0, .int .i64 a2, .int .i64 a3, .int .i64 t472]] (h := ?_); (refine (r4_Behind.calls k _ _ l0 a1 (wrap64 (t471 + 1)) 2 0 0 0 (⟨#[]⟩ : ByteArray) _ _ ([] : List (SElem)) a2 a3 t472 t474 _ ?side1 ?side2 ?side3 ?side4 A9.out).mono ?_); (case side1 => exact Kd.C_below HR0.out (bw HB)); (case side2 => exact HC0.out); (case side3 => exact Kd.C_nil _ _); (case side4 => exact Nat.le_refl _); rintro e w25 ⟨v475,rfl,ho0,hb⟩; refine ⟨_,rfl, ?_⟩; have HO476:=Aside0.mk (Kd.S_lower (Kd.S_newB (Kd.S_newB ho0 (kk BK469)) (g:=gb473) (o:=.cells #[.int .i64 a1, .int .i64 (wrap64 (t471 + 1)), .int .i64 2, .int .i64 0, .int .i64 0, .int .i64 0, .string (⟨#[]⟩ : ByteArray), .slice none 0 0, .int .i64 a2, .int .i64 a3, .int .i64 t472] 55 (0,0)) (bp11 (kk BK473))) (Qai (bw HB))); replace BK469:=bl BK469 hb; replace BK473:=Aside0.mk (Qbl (bp11 (kk BK473)) hb); replace HB:=bs HB hb; clear hb; clear ho0; obtain ⟨Ao26,co26,eo26⟩:=Kd.S_slice HO476.out; subst eo26) | ((with_reducible refine Qab (f:=15) rfl ?_); refine gl (some 32) Tryd.func15 #[.slice Ao26 t474.length co26] (h := ?_); (with_reducible refine (r4_Row.calls k _ _ t474 false _ ?side1 ?side2 ?side3 A10.out).mono ?_); (case side1 => exact cs HO476); (case side2 => exact (Kd.S_reads' HO476.out).2.1); (case side3 => exact (hT.below (bw HB))); rintro e w27 ⟨rfl,hb⟩; refine ⟨_,rfl, ?_⟩; replace HO476:=sb HO476 hb; replace BK469:=bl BK469 hb; replace BK473:=bl BK473 hb; replace HB:=bs HB hb; clear hb; obtain ⟨_,_,_,_,_,_,_,_,_,_,_,_,_,_,_,_,_,_,_,_,_,_⟩:=kc11 BK469))
 refine bodyPost_ret (Qch rfl _ _ gb469 55 #[.int .i64 0, .int .i64 0, .int .i64 0, .int .i64 0, .int .i64 0, .int .i64 0, .string (⟨#[]⟩ : ByteArray), .slice none 0 0, .int .i64 0, .int .i64 0, .int .i64 0] (0,0) _ rfl (bp11 (kk BK469)) Tryd.underlying55 rfl (by kernel_rfl)) rfl ?_
 exact ⟨_,re,by first | exact Kd.R_nil _ _ _ _ _ | exact Kd.N_nil _ _ _ _ _ | exact Kd.V_nil _ _ _ _ _ | exact Kd.Q_nil _ _ _ _ _ | exact Kd.S_nil _ _ _ _ _,bw HB⟩
end
section
attribute [local go_sem] Qbp Qbn Qby Qbx Qbc Qbb Qbo Qbm
mutual
def w11_CaretUndoes.l0 : Nat → Int → List (List (SOp)) → List (SElem) → List (SOp) → List Int → Option (Bool)
 | 0,_,_,_,_,_ => none
 | k + 1,x3,x479000,x479001,x479002,x479003 => if x3 < (x479000.length : Int) then (w11_CaretUndoes.j1 k x3 (decide (x3 < 4)) x479000 x479001 x479002 x479003) else (w11_CaretUndoes.j1 k x3 false x479000 x479001 x479002 x479003)
def w11_CaretUndoes.j1 : Nat → Int → Bool → List (List (SOp)) → List (SElem) → List (SOp) → List Int → Option (Bool)
 | 0,_,_,_,_,_,_ => none
 | k + 1,x3,x27,x479000,x479001,x479002,x479003 => if x27 = true then (if 0 ≤ x3 then (if x3 < (x479000.length : Int) then ((r4_Row.f k (Qak x479000 x3)).bind fun t482 => (if t482 = true then (w11_CaretUndoes.j2 k x3 (Qak x479000 x3) (((Qak x479000 x3).length : Int) == 0) x479000 x479001 x479002 x479003) else (w11_CaretUndoes.j2 k x3 (Qak x479000 x3) true x479000 x479001 x479002 x479003))) else (none)) else (none)) else ((w11_wakes.f k).bind fun t480 => (some t480))
def w11_CaretUndoes.j2 : Nat → Int → List (SOp) → Bool → List (List (SOp)) → List (SElem) → List (SOp) → List Int → Option (Bool)
 | 0,_,_,_,_,_,_,_ => none
 | k + 1,x3,x4,x42,x479000,x479001,x479002,x479003 => if x42 = true then (w11_CaretUndoes.l0 k (wrap64 (x3 + 1)) x479000 x479001 x479002 x479003) else (if (x4.length : Int) = 0 then (none) else (if 0 ≤ (Int.tmod (wrap64 (x3 + (x479003.length : Int))) (x4.length : Int)) then (if (Int.tmod (wrap64 (x3 + (x479003.length : Int))) (x4.length : Int)) < (x4.length : Int) then ((r4_Toggle.f k x4 1 ((Qad x4 (Int.tmod (wrap64 (x3 + (x479003.length : Int))) (x4.length : Int))).f0) ((Qad x4 (Int.tmod (wrap64 (x3 + (x479003.length : Int))) (x4.length : Int))).f1)).bind fun bt485 => (if bt485.2.2.2.2.2.2.2.2.2.2.2 = 0 then ((r4_Behind.f k x4 bt485.1 bt485.2.1 bt485.2.2.1 bt485.2.2.2.1 bt485.2.2.2.2.1 bt485.2.2.2.2.2.1 bt485.2.2.2.2.2.2.1 bt485.2.2.2.2.2.2.2.1 bt485.2.2.2.2.2.2.2.2.1 bt485.2.2.2.2.2.2.2.2.2.1 bt485.2.2.2.2.2.2.2.2.2.2.1).bind fun t500 => ((r4_Toggle.f k t500 2 ((Qad x4 (Int.tmod (wrap64 (x3 + (x479003.length : Int))) (x4.length : Int))).f0) ((Qad x4 (Int.tmod (wrap64 (x3 + (x479003.length : Int))) (x4.length : Int))).f1)).bind fun bt503 => (if bt503.2.2.2.2.2.2.2.2.2.2.2 = 0 then ((r4_Behind.f k t500 bt503.1 bt503.2.1 bt503.2.2.1 bt503.2.2.2.1 bt503.2.2.2.2.1 bt503.2.2.2.2.2.1 bt503.2.2.2.2.2.2.1 bt503.2.2.2.2.2.2.2.1 bt503.2.2.2.2.2.2.2.2.1 bt503.2.2.2.2.2.2.2.2.2.1 bt503.2.2.2.2.2.2.2.2.2.2.1).bind fun t518 => ((w5_Elems.f k x479000 x479001 x479002 x479003 x4).bind fun t521 => (w11_CaretUndoes.l1 k x3 x4 t518 t521 0 x479000 x479001 x479002 x479003))) else (w11_CaretUndoes.l0 k (wrap64 (x3 + 1)) x479000 x479001 x479002 x479003)))) else (w11_CaretUndoes.l0 k (wrap64 (x3 + 1)) x479000 x479001 x479002 x479003))) else (none)) else (none)))
def w11_CaretUndoes.l1 : Nat → Int → List (SOp) → List (SOp) → List (SElem) → Int → List (List (SOp)) → List (SElem) → List (SOp) → List Int → Option (Bool)
 | 0,_,_,_,_,_,_,_,_,_ => none
 | k + 1,x3,x4,x10,x11,x12,x479000,x479001,x479002,x479003 => if x12 < (x11.length : Int) then (if 0 ≤ x12 then ((caret_Place.f x4 ((Qaa x11 x12).f0) ((Qaa x11 x12).f1) ((Qaa x11 x12).f2)).bind fun bt525 => ((caret_Place.f x10 ((Qaa x11 x12).f0) ((Qaa x11 x12).f1) ((Qaa x11 x12).f2)).bind fun bt528 => ((w11_num.f bt525.2).bind fun t530 => ((w11_num.f bt528.2).bind fun t531 => (if t530 = t531 then (if bt525.1 = bt528.1 then (w11_CaretUndoes.l1 k x3 x4 x10 x11 (wrap64 (x12 + 1)) x479000 x479001 x479002 x479003) else (some false)) else (some false)))))) else (none)) else (w11_CaretUndoes.l0 k (wrap64 (x3 + 1)) x479000 x479001 x479002 x479003)
end
def w11_CaretUndoes.f (k : Nat) (l0_0 : List (List (SOp))) (l0_1 : List (SElem)) (l0_2 : List (SOp)) (l0_3 : List Int) : Option (Bool):=(w5_Heavy.f k l0_0 l0_1 l0_2 l0_3).bind fun t479 => (if t479 = true then (some true) else (w11_CaretUndoes.l0 k 0 l0_0 l0_1 l0_2 l0_3))
theorem w11_CaretUndoes.calls (k : Nat) (A0_0 : Option Addr) (c0_0 : Nat) (l0_0 : List (List (SOp))) (A0_1 : Option Addr) (c0_1 : Nat) (l0_1 : List (SElem)) (A0_2 : Option Addr) (c0_2 : Nat) (l0_2 : List (SOp)) (A0_3 : Option Addr) (c0_3 : Nat) (l0_3 : List Int) (r : Bool) (w : World) (hr0_0 : Kd.C (Kd.slice 55 kOp) w A0_0 l0_0.length l0_0) (hc0_0 : l0_0.length ≤ c0_0) (hr0_1 : Kd.C Qaq w A0_1 l0_1.length l0_1) (hc0_1 : l0_1.length ≤ c0_1) (hr0_2 : Kd.C kOp w A0_2 l0_2.length l0_2) (hc0_2 : l0_2.length ≤ c0_2) (hr0_3 : Kd.C (Kd.int .i64) w A0_3 l0_3.length l0_3) (hc0_3 : l0_3.length ≤ c0_3) (hT : GT w) (h : w11_CaretUndoes.f k l0_0 l0_1 l0_2 l0_3 = some r) :
  Calls Tryd.prog 9 #[.agg #[.slice A0_0 l0_0.length c0_0, .slice A0_1 l0_1.length c0_1, .slice A0_2 l0_2.length c0_2, .slice A0_3 l0_3.length c0_3]] w fun e w' => e = .returned (.bool r) ∧ Below w.heap.size w w':=by
 have hu27:=Tryd.underlying27
 have hu55:=Tryd.underlying55
 have hu43:=Tryd.underlying43
 have HR0_0:=Aside0.mk hr0_0
 have HC0_0:=Aside0.mk hc0_0
 clear hr0_0 hc0_0
 have HR0_1:=Aside0.mk hr0_1
 have HC0_1:=Aside0.mk hc0_1
 clear hr0_1 hc0_1
 have HR0_2:=Aside0.mk hr0_2
 have HC0_2:=Aside0.mk hc0_2
 clear hr0_2 hc0_2
 have HR0_3:=Aside0.mk hr0_3
 have HC0_3:=Aside0.mk hc0_3
 clear hr0_3 hc0_3
 have HB:=Aside0.mk (Below.refl w.heap.size w)
 unfold w11_CaretUndoes.f at h; have H:=h
 clear h
 obtain ⟨t479,A2,H⟩:=bE H
 by_cases c3 : t479 = true
 ·subst c3
  rw [if_pos rfl] at H
  obtain rfl:=Option.some.inj H
  go_enter Tryd.func9,Tryd.ntmps9
  go_wp2_with (first | ((with_reducible refine Qae (N:=1) rfl ?_); (try (refine Qao (by rfl) ?_; dsimp only)); refine bx 1 #[.slice A0_0 l0_0.length c0_0, .slice A0_1 l0_1.length c0_1, .slice A0_2 l0_2.length c0_2, .slice A0_3 l0_3.length c0_3] 27 (h := ?_); intro gb478 hg w4 hbox hb; have BK478:=Aside0.mk (hbox); have GW478:=bz HB hg; have GE478:=bz HB hg; replace HB:=bs HB hb; clear hb hbox hg; obtain ⟨_,_,_,_,_,_,_,_⟩:=kc4 BK478) | ((with_reducible refine Qab (f:=12) rfl ?_); refine gl (some 18) Tryd.func12 #[.agg #[.slice A0_0 l0_0.length c0_0, .slice A0_1 l0_1.length c0_1, .slice A0_2 l0_2.length c0_2, .slice A0_3 l0_3.length c0_3]] (h := ?_); (with_reducible refine (w5_Heavy.calls k _ _ l0_0 _ _ l0_1 _ _ l0_2 _ _ l0_3 true _ ?side1 ?side2 ?side3 ?side4 ?side5 ?side6 ?side7 ?side8 A2.out).mono ?_); (case side1 => exact cb HR0_0 HB); (case side2 => exact HC0_0.out); (case side3 => exact cb HR0_1 HB); (case side4 => exact HC0_1.out); (case side5 => exact cb HR0_2 HB); (case side6 => exact HC0_2.out); (case side7 => exact cb HR0_3 HB); (case side8 => exact HC0_3.out); rintro e w6 ⟨rfl,hb⟩; refine ⟨_,rfl, ?_⟩; replace BK478:=bl BK478 hb; replace HB:=bs HB hb; clear hb))
  go_ret
  exact ⟨re,bw HB⟩
 replace c3:=Bool.eq_false_iff.mpr c3
 subst c3
 rw [if_neg nft] at H
 have H':=Aside0.mk H
 clear H
 go_enter Tryd.func9,Tryd.ntmps9
 go_wp2_with (first | ((with_reducible refine Qae (N:=1) rfl ?_); (try (refine Qao (by rfl) ?_; dsimp only)); refine bx 1 #[.slice A0_0 l0_0.length c0_0, .slice A0_1 l0_1.length c0_1, .slice A0_2 l0_2.length c0_2, .slice A0_3 l0_3.length c0_3] 27 (h := ?_); intro gb478 hg w7 hbox hb; have BK478:=Aside0.mk (hbox); have GW478:=bz HB hg; have GE478:=bz HB hg; replace HB:=bs HB hb; clear hb hbox hg; obtain ⟨_,_,_,_,_,_,_,_⟩:=kc4 BK478) | ((with_reducible refine Qab (f:=12) rfl ?_); refine gl (some 18) Tryd.func12 #[.agg #[.slice A0_0 l0_0.length c0_0, .slice A0_1 l0_1.length c0_1, .slice A0_2 l0_2.length c0_2, .slice A0_3 l0_3.length c0_3]] (h := ?_); (with_reducible refine (w5_Heavy.calls k _ _ l0_0 _ _ l0_1 _ _ l0_2 _ _ l0_3 false _ ?side1 ?side2 ?side3 ?side4 ?side5 ?side6 ?side7 ?side8 A2.out).mono ?_); (case side1 => exact cb HR0_0 HB); (case side2 => exact HC0_0.out); (case side3 => exact cb HR0_1 HB); (case side4 => exact HC0_1.out); (case side5 => exact cb HR0_2 HB); (case side6 => exact HC0_2.out); (case side7 => exact cb HR0_3 HB); (case side8 => exact HC0_3.out); rintro e w9 ⟨rfl,hb⟩; refine ⟨_,rfl, ?_⟩; replace BK478:=bl BK478 hb; replace HB:=bs HB hb; clear hb))
 go_loopg [3] k (fun kq v3 w' => ∃ (x3_1 : Int),v3 = .int .i64 x3_1 ∧ Aside0 (w11_CaretUndoes.l0 kq x3_1 l0_0 l0_1 l0_2 l0_3 = some r) ∧ Aside0 (kq ≤ k) ∧ Aside0 (w'.heap[gb478]? = some (.cells #[(.slice A0_0 l0_0.length c0_0),(.slice A0_1 l0_1.length c0_1),(.slice A0_2 l0_2.length c0_2),(.slice A0_3 l0_3.length c0_3)] 27 (0,0))) ∧ Aside0 (Below w.heap.size w w'))
 case atStart => exact ⟨(0),rf,H',⟨Nat.le_refl _⟩,⟨kk BK478⟩,⟨bw HB⟩⟩
 case round =>
  clear H'
  try clear c3
  obtain ⟨x3_1,rfl,HA,HK1,BK478,HB⟩:=hrel
  cases gk with
  | zero => exact absurd HA.out (by simp [w11_CaretUndoes.l0])
  | succ k1 =>
   have H:=HA.out
   clear HA
   simp only [w11_CaretUndoes.l0] at H
   have HC10:=Aside0.mk H
   clear H
   go_upto_region 4 with (fail)
   go_cut [27] (fun v27 wc => ∃ (kq : Nat) (x27_9 : Bool),v27 = .bool x27_9 ∧ Aside0 (w11_CaretUndoes.j1 kq x3_1 x27_9 l0_0 l0_1 l0_2 l0_3 = some r) ∧ Aside0 (kq ≤ k1) ∧ Aside0 (wc.heap[gb478]? = some (.cells #[(.slice A0_0 l0_0.length c0_0),(.slice A0_1 l0_1.length c0_1),(.slice A0_2 l0_2.length c0_2),(.slice A0_3 l0_3.length c0_3)] 27 (0,0))) ∧ Aside0 (Below w.heap.size w wc))
   case first =>
    have H:=HC10.out
    clear HC10
    by_cases c11 : x3_1 < (l0_0.length : Int)
    ·rw [if_pos c11] at H
     have c11b0:=decide_eq_true c11
     clear c11
     (first | rw [c11b0] | (simp only [Qaw,Qay]; rw [c11b0]) | skip)
     have H':=Aside0.mk H
     clear H
     obtain ⟨_,_,_,_,_,_,_,_⟩:=kc4 BK478
     go_wp2
     go_meet
     case rel => exact ⟨_,(decide (x3_1 < 4)),rf,H',⟨by have:=HK1.out; first | omega | exact Nat.le_refl _⟩,⟨kk BK478⟩,⟨bw HB⟩⟩
    rw [if_neg c11] at H
    have c11b0:=decide_eq_false c11
    clear c11
    (first | rw [c11b0] | (simp only [Qaw,Qay]; rw [c11b0]) | skip)
    have H':=Aside0.mk H
    clear H
    obtain ⟨_,_,_,_,_,_,_,_⟩:=kc4 BK478
    go_wp2
    go_meet
    case rel => exact ⟨_,(false),rf,H',⟨by have:=HK1.out; first | omega | exact Nat.le_refl _⟩,⟨kk BK478⟩,⟨bw HB⟩⟩
   case rest =>
    clear HC10
    obtain ⟨kq,x27_9,rfl,HA,HJ9,BK478,HB⟩:=hcut
    cases kq with
    | zero => exact absurd HA.out (by simp [w11_CaretUndoes.j1])
    | succ kj9 =>
     have H:=HA.out
     clear HA
     simp only [w11_CaretUndoes.j1] at H
     by_cases c14 : x27_9 = true; rotate_left
     ·replace c14:=Bool.eq_false_iff.mpr c14
      subst c14
      rw [if_neg nft] at H
      obtain ⟨t480,A109,H⟩:=bE H
      obtain rfl:=Option.some.inj H
      go_wp2_with (first | ((with_reducible refine Qab (f:=37) rfl ?_); refine gl (some 119) Tryd.func37 #[] (h := ?_); (with_reducible refine (w11_wakes.calls kj9  t480 _ A109.out).mono ?_); rintro e w110 ⟨rfl,hb⟩; refine ⟨_,rfl, ?_⟩; replace BK478:=bl BK478 hb; replace HB:=bs HB hb; clear hb))
      go_ret
      exact ⟨re,bw HB⟩
     subst c14
     rw [if_pos rfl] at H
     by_cases c15 : 0 ≤ x3_1; rotate_left
     ·rw [if_neg c15] at H
      exact absurd H (by simp)
     rw [if_pos c15] at H
     have c15b0:=decide_eq_true c15
     clear c15
     by_cases c16 : x3_1 < (l0_0.length : Int); rotate_left
     ·rw [if_neg c16] at H
      exact absurd H (by simp)
     rw [if_pos c16] at H
     have c16b0:=decide_eq_true c16
     clear c16
     have HC17:=Aside0.mk H
     clear H
     obtain ⟨_,_,_,_,_,_,_,_⟩:=kc4 BK478
     have p481 : 0 ≤ (x3_1 : Int):=od
     have q481 : x3_1 < (l0_0.length : Int):=od
     obtain ⟨ad481,A481_0,c481_0,e481,hx481_0,hl481_0,hi481_0⟩:=at_LOp HR0_0.out x3_1 p481 q481
     cases e481
     replace hx481_0:=cl HB hx481_0
     have HR481_0:=Aside0.mk hi481_0
     have HC481_0:=Aside0.mk hl481_0
     clear hi481_0 hl481_0
     replace p481:=eq_true p481
     replace q481:=eq_true q481
     go_upto_region 7 with (fail)
     go_cut [42] (fun v42 wc => ∃ (kq : Nat) (x42_16 : Bool),v42 = .bool x42_16 ∧ Aside0 (w11_CaretUndoes.j2 kq x3_1 (Qak l0_0 x3_1) x42_16 l0_0 l0_1 l0_2 l0_3 = some r) ∧ Aside0 (kq ≤ kj9) ∧ Aside0 (wc.heap[gb478]? = some (.cells #[(.slice (some ad481) l0_0.length c0_0),(.slice A0_1 l0_1.length c0_1),(.slice A0_2 l0_2.length c0_2),(.slice A0_3 l0_3.length c0_3)] 27 (0,0))) ∧ Aside0 (Below w.heap.size w wc))
     case first =>
      have H:=HC17.out
      clear HC17
      obtain ⟨t482,A19,H⟩:=bE H
      by_cases c20 : t482 = true
      ·subst c20
       rw [if_pos rfl] at H
       have H':=Aside0.mk H
       clear H
       go_wp2_with (first | ((with_reducible refine Qab (f:=15) rfl ?_); refine gl (some 36) Tryd.func15 #[.slice A481_0 (Qak l0_0 x3_1).length c481_0] (h := ?_); (with_reducible refine (r4_Row.calls kj9 _ _ (Qak l0_0 x3_1) true _ ?side1 ?side2 ?side3 A19.out).mono ?_); (case side1 => exact cb HR481_0 HB); (case side2 => exact HC481_0.out); (case side3 => exact (hT.below (bw HB))); rintro e w21 ⟨rfl,hb⟩; refine ⟨_,rfl, ?_⟩; replace BK478:=bl BK478 hb; replace HB:=bs HB hb; clear hb))
       go_meet
       case rel => exact ⟨_,((((Qak l0_0 x3_1).length : Int) == 0)),rf,H',⟨by have:=HK1.out; have:=HJ9.out; first | omega | exact Nat.le_refl _⟩,⟨kk BK478⟩,⟨bw HB⟩⟩
      replace c20:=Bool.eq_false_iff.mpr c20
      subst c20
      rw [if_neg nft] at H
      have H':=Aside0.mk H
      clear H
      go_wp2_with (first | ((with_reducible refine Qab (f:=15) rfl ?_); refine gl (some 36) Tryd.func15 #[.slice A481_0 (Qak l0_0 x3_1).length c481_0] (h := ?_); (with_reducible refine (r4_Row.calls kj9 _ _ (Qak l0_0 x3_1) false _ ?side1 ?side2 ?side3 A19.out).mono ?_); (case side1 => exact cb HR481_0 HB); (case side2 => exact HC481_0.out); (case side3 => exact (hT.below (bw HB))); rintro e w22 ⟨rfl,hb⟩; refine ⟨_,rfl, ?_⟩; replace BK478:=bl BK478 hb; replace HB:=bs HB hb; clear hb))
      go_meet
      case rel => exact ⟨_,(true),rf,H',⟨by have:=HK1.out; have:=HJ9.out; first | omega | exact Nat.le_refl _⟩,⟨kk BK478⟩,⟨bw HB⟩⟩
     case rest =>
      clear HC17
      try clear c14; try clear c15b0; try clear c16b0; try clear hx481_0; try clear p481; try clear q481
      obtain ⟨kq,x42_16,rfl,HA,HJ16,BK478,HB⟩:=hcut
      cases kq with
      | zero => exact absurd HA.out (by simp [w11_CaretUndoes.j2])
      | succ kj16 =>
       have H:=HA.out
       clear HA
       simp only [w11_CaretUndoes.j2] at H
       by_cases c23 : x42_16 = true
       ·subst c23
        rw [if_pos rfl] at H
        have H':=Aside0.mk H
        clear H
        go_wp2
        go_roundg kj16
        case measure => have:=HK1.out; have:=HJ9.out; have:=HJ16.out; omega
        case rel => exact ⟨(wrap64 (x3_1 + 1)),rf,H',⟨by have:=HK1.out; have:=HJ9.out; have:=HJ16.out; omega⟩,⟨kk BK478⟩,⟨bw HB⟩⟩
       replace c23:=Bool.eq_false_iff.mpr c23
       subst c23
       rw [if_neg nft] at H
       by_cases c24 : ((Qak l0_0 x3_1).length : Int) = 0
       ·rw [if_pos c24] at H
        exact absurd H (by simp)
       rw [if_neg c24] at H
       obtain ⟨c24b0,c24b1⟩:=bF c24
       have c24b2 : ¬ ((Qak l0_0 x3_1) = []):=fun h_ => c24 (by rw [h_]; rfl)
       obtain ⟨ji25,hji25⟩ : ∃ j_ : Int,(Int.tmod (wrap64 (x3_1 + (l0_3.length : Int))) ((Qak l0_0 x3_1).length : Int)) = j_:=⟨_,rfl⟩
       replace H : (if 0 ≤ (ji25) then (if (ji25) < ((Qak l0_0 x3_1).length : Int) then ((r4_Toggle.f kj16 (Qak l0_0 x3_1) 1 ((Qad (Qak l0_0 x3_1) (ji25)).f0) ((Qad (Qak l0_0 x3_1) (ji25)).f1)).bind fun bt485 => (if bt485.2.2.2.2.2.2.2.2.2.2.2 = 0 then ((r4_Behind.f kj16 (Qak l0_0 x3_1) bt485.1 bt485.2.1 bt485.2.2.1 bt485.2.2.2.1 bt485.2.2.2.2.1 bt485.2.2.2.2.2.1 bt485.2.2.2.2.2.2.1 bt485.2.2.2.2.2.2.2.1 bt485.2.2.2.2.2.2.2.2.1 bt485.2.2.2.2.2.2.2.2.2.1 bt485.2.2.2.2.2.2.2.2.2.2.1).bind fun t500 => ((r4_Toggle.f kj16 t500 2 ((Qad (Qak l0_0 x3_1) (ji25)).f0) ((Qad (Qak l0_0 x3_1) (ji25)).f1)).bind fun bt503 => (if bt503.2.2.2.2.2.2.2.2.2.2.2 = 0 then ((r4_Behind.f kj16 t500 bt503.1 bt503.2.1 bt503.2.2.1 bt503.2.2.2.1 bt503.2.2.2.2.1 bt503.2.2.2.2.2.1 bt503.2.2.2.2.2.2.1 bt503.2.2.2.2.2.2.2.1 bt503.2.2.2.2.2.2.2.2.1 bt503.2.2.2.2.2.2.2.2.2.1 bt503.2.2.2.2.2.2.2.2.2.2.1).bind fun t518 => ((w5_Elems.f kj16 l0_0 l0_1 l0_2 l0_3 (Qak l0_0 x3_1)).bind fun t521 => (w11_CaretUndoes.l1 kj16 x3_1 (Qak l0_0 x3_1) t518 t521 0 l0_0 l0_1 l0_2 l0_3))) else (w11_CaretUndoes.l0 kj16 (wrap64 (x3_1 + 1)) l0_0 l0_1 l0_2 l0_3)))) else (w11_CaretUndoes.l0 kj16 (wrap64 (x3_1 + 1)) l0_0 l0_1 l0_2 l0_3))) else (none)) else (none)) = some r:=by first | (rw [hji25] at H; exact H) | (simp only [hji25] at H ⊢; exact H)
       by_cases c26 : 0 ≤ (ji25); rotate_left
       ·rw [if_neg c26] at H
        exact absurd H (by simp)
       rw [if_pos c26] at H
       have c26b0:=decide_eq_true c26
       clear c26
       by_cases c27 : (ji25) < ((Qak l0_0 x3_1).length : Int); rotate_left
       ·rw [if_neg c27] at H
        exact absurd H (by simp)
       rw [if_pos c27] at H
       have c27b0:=decide_eq_true c27
       clear c27
       obtain ⟨⟨t485,t486,t487,t488,t489,t490,t491,t492,t495,t496,t497,t498⟩,A28,H⟩:=bE H
       try dsimp only at H
       by_cases c29 : t498 = 0; rotate_left
       ·rw [if_neg c29] at H
        obtain ⟨c29b0,c29b1⟩:=bF c29
        have H':=Aside0.mk H
        clear H
        obtain ⟨_,_,_,_,_,_,_,_⟩:=kc4 BK478
        have p483 : 0 ≤ ((ji25) : Int):=od
        have q483 : (ji25) < ((Qak l0_0 x3_1).length : Int):=od
        obtain ⟨ad483,A483_7,c483_7,e483,hx483_0,hx483_1,hx483_2,hx483_3,hx483_4,hx483_5,hx483_6,hx483_7,hx483_8,hx483_9,hx483_10,hl483_7,hi483_7⟩:=Qck HR481_0.out (ji25) p483 q483
        cases e483
        replace hx483_0:=cl HB hx483_0
        replace hx483_1:=cl HB hx483_1
        replace hx483_2:=cl HB hx483_2
        replace hx483_3:=cl HB hx483_3
        replace hx483_4:=cl HB hx483_4
        replace hx483_5:=cl HB hx483_5
        replace hx483_6:=cl HB hx483_6
        replace hx483_7:=cl HB hx483_7
        replace hx483_8:=cl HB hx483_8
        replace hx483_9:=cl HB hx483_9
        replace hx483_10:=cl HB hx483_10
        have HR483_7:=Aside0.mk hi483_7
        have HC483_7:=Aside0.mk hl483_7
        clear hi483_7 hl483_7
        replace p483:=eq_true p483
        replace q483:=eq_true q483
        go_wp2_with (first | ((with_reducible refine Qae (N:=5) rfl ?_); (try (refine Qao (by rfl) ?_; dsimp only)); refine bx 5 #[.int .i64 0, .int .i64 0, .int .i64 0, .int .i64 0, .int .i64 0, .int .i64 0, .string (⟨#[]⟩ : ByteArray), .slice none 0 0, .int .i64 0, .int .i64 0, .int .i64 0] 55 (h := ?_); intro gb484 hg w100 hbox hb; have BK484:=Aside0.mk (hbox); have GW484:=bz HB hg; have GE484:=bz HB hg; have NB478_484:=bn BK478 hg; have NB484_478:=bm BK478 hg; replace BK478:=bl BK478 hb; replace HB:=bs HB hb; clear hb hbox hg; have hnb101:=NB484_478.out; have hnc101:=NB478_484.out; obtain ⟨_,_,_,_,_,_,_,_,_,_,_,_,_,_,_,_,_,_,_,_,_,_⟩:=kc11 BK484) | ((with_reducible refine Qab (f:=38) rfl ?_); refine goesL_ (some 60) rfl rfl Tryd.func38 (by kernel_rfl) rfl #[.slice (some ad483) (Qak l0_0 x3_1).length c481_0, .int .i64 1, .int .i64 ((Qad (Qak l0_0 x3_1) (ji25)).f0), .int .i64 ((Qad (Qak l0_0 x3_1) (ji25)).f1)] rfl (by (try simp only [List.map_toArray,List.map_cons,List.map_nil]); first | done | (simp only [hji25]; rfl) | rfl | (simp only [List.length_drop,List.length_take]; rfl)) ?_; (with_reducible refine (r4_Toggle.calls kj16 _ _ (Qak l0_0 x3_1) 1 ((Qad (Qak l0_0 x3_1) (ji25)).f0) ((Qad (Qak l0_0 x3_1) (ji25)).f1) t485 t486 t487 t488 t489 t490 t491 t492 t495 t496 t497 t498 _ ?side1 ?side2 ?side3 A28.out).mono ?_); (case side1 => exact Kd.C_below HR481_0.out (bw HB)); (case side2 => exact HC481_0.out); (case side3 => exact (hT.below (bw HB))); rintro e w103 ⟨v493,rfl,ho0,hb⟩; refine ⟨_,rfl, ?_⟩; have HO494:=Aside0.mk (Kd.R_lower ho0 (Qai (bw HB))); replace BK478:=bl BK478 hb; replace BK484:=Aside0.mk (Qbl (bp11 (kk BK484)) hb); replace HB:=bs HB hb; clear hb; clear ho0) | ((with_reducible refine Qae (N:=6) rfl ?_); (try (refine Qao (by rfl) ?_; dsimp only)); refine bx 6 #[.int .i64 0, .int .i64 0, .int .i64 0, .int .i64 0, .int .i64 0, .int .i64 0, .string (⟨#[]⟩ : ByteArray), .slice none 0 0, .int .i64 0, .int .i64 0, .int .i64 0] 55 (h := ?_); intro gb499 hg w104 hbox hb; have BK499:=Aside0.mk (hbox); have GW499:=bz HB hg; have GE499:=bz HB hg; have NB478_499:=bn BK478 hg; have NB499_478:=bm BK478 hg; have NB484_499:=bn BK484 hg; have NB499_484:=bm BK484 hg; replace HO494:=rb HO494 hb; replace BK478:=bl BK478 hb; replace BK484:=bl BK484 hb; replace HB:=bs HB hb; clear hb hbox hg; have hnb105:=NB499_478.out; have hnc105:=NB478_499.out; have hnb106:=NB499_484.out; have hnc106:=NB484_499.out; obtain ⟨_,_,_,_,_,_,_,_,_,_,_,_,_,_,_,_,_,_,_,_,_,_⟩:=kc11 BK499; obtain ⟨Ao108,co108,eo108⟩:=Kd.R_slice HO494.out; subst eo108))
        go_roundg kj16
        case measure => have:=HK1.out; have:=HJ9.out; have:=HJ16.out; omega
        case rel => exact ⟨(wrap64 (x3_1 + 1)),rf,H',⟨by have:=HK1.out; have:=HJ9.out; have:=HJ16.out; omega⟩,⟨kk BK478⟩,⟨bw HB⟩⟩
       rw [if_pos c29] at H
       obtain ⟨c29b0,c29b1⟩:=bT c29
       clear c29
       obtain ⟨t500,A30,H⟩:=bE H
       obtain ⟨⟨t503,t504,t505,t506,t507,t508,t509,t510,t513,t514,t515,t516⟩,A31,H⟩:=bE H
       try dsimp only at H
       by_cases c32 : t516 = 0; rotate_left
       ·rw [if_neg c32] at H
        obtain ⟨c32b0,c32b1⟩:=bF c32
        have H':=Aside0.mk H
        clear H
        obtain ⟨_,_,_,_,_,_,_,_⟩:=kc4 BK478
        have p483 : 0 ≤ ((ji25) : Int):=od
        have q483 : (ji25) < ((Qak l0_0 x3_1).length : Int):=od
        obtain ⟨ad483,A483_7,c483_7,e483,hx483_0,hx483_1,hx483_2,hx483_3,hx483_4,hx483_5,hx483_6,hx483_7,hx483_8,hx483_9,hx483_10,hl483_7,hi483_7⟩:=Qck HR481_0.out (ji25) p483 q483
        cases e483
        replace hx483_0:=cl HB hx483_0
        replace hx483_1:=cl HB hx483_1
        replace hx483_2:=cl HB hx483_2
        replace hx483_3:=cl HB hx483_3
        replace hx483_4:=cl HB hx483_4
        replace hx483_5:=cl HB hx483_5
        replace hx483_6:=cl HB hx483_6
        replace hx483_7:=cl HB hx483_7
        replace hx483_8:=cl HB hx483_8
        replace hx483_9:=cl HB hx483_9
        replace hx483_10:=cl HB hx483_10
        have HR483_7:=Aside0.mk hi483_7
        have HC483_7:=Aside0.mk hl483_7
        clear hi483_7 hl483_7
        replace p483:=eq_true p483
        replace q483:=eq_true q483
        go_wp2_with (first | ((with_reducible refine Qae (N:=5) rfl ?_); (try (refine Qao (by rfl) ?_; dsimp only)); refine bx 5 #[.int .i64 0, .int .i64 0, .int .i64 0, .int .i64 0, .int .i64 0, .int .i64 0, .string (⟨#[]⟩ : ByteArray), .slice none 0 0, .int .i64 0, .int .i64 0, .int .i64 0] 55 (h := ?_); intro gb484 hg w80 hbox hb; have BK484:=Aside0.mk (hbox); have GW484:=bz HB hg; have GE484:=bz HB hg; have NB478_484:=bn BK478 hg; have NB484_478:=bm BK478 hg; replace BK478:=bl BK478 hb; replace HB:=bs HB hb; clear hb hbox hg; have hnb81:=NB484_478.out; have hnc81:=NB478_484.out; obtain ⟨_,_,_,_,_,_,_,_,_,_,_,_,_,_,_,_,_,_,_,_,_,_⟩:=kc11 BK484) | ((with_reducible refine Qab (f:=38) rfl ?_); refine goesL_ (some 60) rfl rfl Tryd.func38 (by kernel_rfl) rfl #[.slice (some ad483) (Qak l0_0 x3_1).length c481_0, .int .i64 1, .int .i64 ((Qad (Qak l0_0 x3_1) (ji25)).f0), .int .i64 ((Qad (Qak l0_0 x3_1) (ji25)).f1)] rfl (by (try simp only [List.map_toArray,List.map_cons,List.map_nil]); first | done | (simp only [hji25]; rfl) | rfl | (simp only [List.length_drop,List.length_take]; rfl)) ?_; (with_reducible refine (r4_Toggle.calls kj16 _ _ (Qak l0_0 x3_1) 1 ((Qad (Qak l0_0 x3_1) (ji25)).f0) ((Qad (Qak l0_0 x3_1) (ji25)).f1) t485 t486 t487 t488 t489 t490 t491 t492 t495 t496 t497 t498 _ ?side1 ?side2 ?side3 A28.out).mono ?_); (case side1 => exact Kd.C_below HR481_0.out (bw HB)); (case side2 => exact HC481_0.out); (case side3 => exact (hT.below (bw HB))); rintro e w83 ⟨v493,rfl,ho0,hb⟩; refine ⟨_,rfl, ?_⟩; have HO494:=Aside0.mk (Kd.R_lower ho0 (Qai (bw HB))); replace BK478:=bl BK478 hb; replace BK484:=Aside0.mk (Qbl (bp11 (kk BK484)) hb); replace HB:=bs HB hb; clear hb; clear ho0) | ((with_reducible refine Qae (N:=6) rfl ?_); (try (refine Qao (by rfl) ?_; dsimp only)); refine bx 6 #[.int .i64 0, .int .i64 0, .int .i64 0, .int .i64 0, .int .i64 0, .int .i64 0, .string (⟨#[]⟩ : ByteArray), .slice none 0 0, .int .i64 0, .int .i64 0, .int .i64 0] 55 (h := ?_); intro gb499 hg w84 hbox hb; have BK499:=Aside0.mk (hbox); have GW499:=bz HB hg; have GE499:=bz HB hg; have NB478_499:=bn BK478 hg; have NB499_478:=bm BK478 hg; have NB484_499:=bn BK484 hg; have NB499_484:=bm BK484 hg; replace HO494:=rb HO494 hb; replace BK478:=bl BK478 hb; replace BK484:=bl BK484 hb; replace HB:=bs HB hb; clear hb hbox hg; have hnb85:=NB499_478.out; have hnc85:=NB478_499.out; have hnb86:=NB499_484.out; have hnc86:=NB484_499.out; obtain ⟨_,_,_,_,_,_,_,_,_,_,_,_,_,_,_,_,_,_,_,_,_,_⟩:=kc11 BK499; obtain ⟨Ao88,co88,eo88⟩:=Kd.R_slice HO494.out; subst eo88) | ((with_reducible refine Qab (f:=36) rfl ?_); refine gl (some 67) Tryd.func36 #[.slice (some ad483) (Qak l0_0 x3_1).length c481_0, .agg #[.int .i64 t485, .int .i64 t486, .int .i64 t487, .int .i64 t488, .int .i64 t489, .int .i64 t490, .string t491, .slice Ao88 t492.length co88, .int .i64 t495, .int .i64 t496, .int .i64 t497]] (h := ?_); (with_reducible refine (r4_Behind.calls kj16 _ _ (Qak l0_0 x3_1) t485 t486 t487 t488 t489 t490 t491 _ _ t492 t495 t496 t497 t500 _ ?side1 ?side2 ?side3 ?side4 A30.out).mono ?_); (case side1 => exact Kd.C_below HR481_0.out (bw HB)); (case side2 => exact HC481_0.out); (case side3 => refine (Kd.R_reads' (e:=43) (base:=w.heap.size) (ok:=fun k_ => True) (n:=t492.length) (c:=co88) ?_).2.2; exact (by (with_reducible repeat (first | apply Kd.R_alloc | apply Kd.R_drewN | apply Kd.R_drew)); exact (Kd.R_mono (rf11 (Kd.R_types HO494.out BK499.out (by decide))) (fun _ h_ => h_.1)))); (case side4 => exact (Kd.R_reads' HO494.out).2.1); rintro e w89 ⟨v501,rfl,ho0,hb⟩; refine ⟨_,rfl, ?_⟩; have HO502:=Aside0.mk (Kd.S_lower (Kd.S_newB (Kd.S_newB (Kd.S_new' ho0 (Kd.R_lt (by (with_reducible repeat (first | apply Kd.R_alloc | apply Kd.R_drewN | apply Kd.R_drew)); exact (Kd.R_mono (rf11 (Kd.R_types HO494.out BK499.out (by decide))) (fun _ h_ => h_.1))))) (kk BK484)) (g:=gb499) (o:=.cells #[.int .i64 t485, .int .i64 t486, .int .i64 t487, .int .i64 t488, .int .i64 t489, .int .i64 t490, .string t491, .slice Ao88 t492.length co88, .int .i64 t495, .int .i64 t496, .int .i64 t497] 55 (0,0)) (bp11 (kk BK499))) (Qai (bw HB))); replace HO494:=Aside0.mk (Kd.R_below (by (with_reducible repeat (first | apply Kd.R_alloc | apply Kd.R_drewN | apply Kd.R_drew)); exact (Kd.R_mono (rf11 (Kd.R_types HO494.out BK499.out (by decide))) (fun _ h_ => h_.1))) hb); replace BK478:=bl BK478 hb; replace BK484:=bl BK484 hb; replace BK499:=Aside0.mk (Qbl (bp11 (kk BK499)) hb); replace HB:=bs HB hb; clear hb; clear ho0; obtain ⟨_,_,_,_,_,_,_,_,_,_,_,_,_,_,_,_,_,_,_,_,_,_⟩:=kc11 BK484; obtain ⟨Ao91,co91,eo91⟩:=Kd.S_slice HO502.out; subst eo91) | ((with_reducible refine Qab (f:=38) rfl ?_); refine goesL_ (some 74) rfl rfl Tryd.func38 (by kernel_rfl) rfl #[.slice Ao91 t500.length co91, .int .i64 2, .int .i64 ((Qad (Qak l0_0 x3_1) (ji25)).f0), .int .i64 ((Qad (Qak l0_0 x3_1) (ji25)).f1)] rfl (by (try simp only [List.map_toArray,List.map_cons,List.map_nil]); first | done | (simp only [hji25]; rfl) | rfl | (simp only [List.length_drop,List.length_take]; rfl)) ?_; (with_reducible refine (r4_Toggle.calls kj16 _ _ t500 2 ((Qad (Qak l0_0 x3_1) (ji25)).f0) ((Qad (Qak l0_0 x3_1) (ji25)).f1) t503 t504 t505 t506 t507 t508 t509 t510 t513 t514 t515 t516 _ ?side1 ?side2 ?side3 A31.out).mono ?_); (case side1 => exact cs HO502); (case side2 => exact (Kd.S_reads' HO502.out).2.1); (case side3 => exact (hT.below (bw HB))); rintro e w92 ⟨v511,rfl,ho0,hb⟩; refine ⟨_,rfl, ?_⟩; have HO512:=Aside0.mk (Kd.R_lower (Kd.R_new' ho0 (Kd.R_lt (rk HO494))) (Qai (bw HB))); replace HO494:=Aside0.mk (Kd.R_elder' (rk HO494) (Kd.R_base ho0) hb); replace HO502:=Aside0.mk (Kd.S_elder' (sk HO502) (Kd.R_base ho0) hb); replace BK478:=bl BK478 hb; replace BK484:=bl BK484 hb; replace BK499:=bl BK499 hb; replace HB:=bs HB hb; clear hb; clear ho0) | ((with_reducible refine Qae (N:=9) rfl ?_); (try (refine Qao (by rfl) ?_; dsimp only)); refine bx 9 #[.int .i64 0, .int .i64 0, .int .i64 0, .int .i64 0, .int .i64 0, .int .i64 0, .string (⟨#[]⟩ : ByteArray), .slice none 0 0, .int .i64 0, .int .i64 0, .int .i64 0] 55 (h := ?_); intro gb517 hg w93 hbox hb; have BK517:=Aside0.mk (hbox); have GW517:=bz HB hg; have GE517:=bz HB hg; have NB478_517:=bn BK478 hg; have NB517_478:=bm BK478 hg; have NB484_517:=bn BK484 hg; have NB517_484:=bm BK484 hg; have NB499_517:=bn BK499 hg; have NB517_499:=bm BK499 hg; replace HO494:=rb HO494 hb; replace HO502:=Aside0.mk (Kd.S_below (Kd.S_elderB (sk HO502) gb517 (Nat.le_of_eq hg.symm)) hb); replace HO512:=rb HO512 hb; replace BK478:=bl BK478 hb; replace BK484:=bl BK484 hb; replace BK499:=bl BK499 hb; replace HB:=bs HB hb; clear hb hbox hg; have hnb94:=NB517_478.out; have hnc94:=NB478_517.out; have hnb95:=NB517_484.out; have hnc95:=NB484_517.out; have hnb96:=NB517_499.out; have hnc96:=NB499_517.out; obtain ⟨_,_,_,_,_,_,_,_,_,_,_,_,_,_,_,_,_,_,_,_,_,_⟩:=kc11 BK517; obtain ⟨Ao98,co98,eo98⟩:=Kd.R_slice HO512.out; subst eo98))
        go_roundg kj16
        case measure => have:=HK1.out; have:=HJ9.out; have:=HJ16.out; omega
        case rel => exact ⟨(wrap64 (x3_1 + 1)),rf,H',⟨by have:=HK1.out; have:=HJ9.out; have:=HJ16.out; omega⟩,⟨kk BK478⟩,⟨bw HB⟩⟩
       rw [if_pos c32] at H
       obtain ⟨c32b0,c32b1⟩:=bT c32
       clear c32
       obtain ⟨t518,A33,H⟩:=bE H
       obtain ⟨t521,A34,H⟩:=bE H
       have H':=Aside0.mk H
       clear H
       obtain ⟨_,_,_,_,_,_,_,_⟩:=kc4 BK478
       have p483 : 0 ≤ ((ji25) : Int):=od
       have q483 : (ji25) < ((Qak l0_0 x3_1).length : Int):=od
       obtain ⟨ad483,A483_7,c483_7,e483,hx483_0,hx483_1,hx483_2,hx483_3,hx483_4,hx483_5,hx483_6,hx483_7,hx483_8,hx483_9,hx483_10,hl483_7,hi483_7⟩:=Qck HR481_0.out (ji25) p483 q483
       cases e483
       replace hx483_0:=cl HB hx483_0
       replace hx483_1:=cl HB hx483_1
       replace hx483_2:=cl HB hx483_2
       replace hx483_3:=cl HB hx483_3
       replace hx483_4:=cl HB hx483_4
       replace hx483_5:=cl HB hx483_5
       replace hx483_6:=cl HB hx483_6
       replace hx483_7:=cl HB hx483_7
       replace hx483_8:=cl HB hx483_8
       replace hx483_9:=cl HB hx483_9
       replace hx483_10:=cl HB hx483_10
       have HR483_7:=Aside0.mk hi483_7
       have HC483_7:=Aside0.mk hl483_7
       clear hi483_7 hl483_7
       replace p483:=eq_true p483
       replace q483:=eq_true q483
       go_wp2_with (first | ((with_reducible refine Qae (N:=5) rfl ?_); (try (refine Qao (by rfl) ?_; dsimp only)); refine bx 5 #[.int .i64 0, .int .i64 0, .int .i64 0, .int .i64 0, .int .i64 0, .int .i64 0, .string (⟨#[]⟩ : ByteArray), .slice none 0 0, .int .i64 0, .int .i64 0, .int .i64 0] 55 (h := ?_); intro gb484 hg w36 hbox hb; have BK484:=Aside0.mk (hbox); have GW484:=bz HB hg; have GE484:=bz HB hg; have NB478_484:=bn BK478 hg; have NB484_478:=bm BK478 hg; replace BK478:=bl BK478 hb; replace HB:=bs HB hb; clear hb hbox hg; have hnb37:=NB484_478.out; have hnc37:=NB478_484.out; obtain ⟨_,_,_,_,_,_,_,_,_,_,_,_,_,_,_,_,_,_,_,_,_,_⟩:=kc11 BK484) | ((with_reducible refine Qab (f:=38) rfl ?_); refine goesL_ (some 60) rfl rfl Tryd.func38 (by kernel_rfl) rfl #[.slice (some ad483) (Qak l0_0 x3_1).length c481_0, .int .i64 1, .int .i64 ((Qad (Qak l0_0 x3_1) (ji25)).f0), .int .i64 ((Qad (Qak l0_0 x3_1) (ji25)).f1)] rfl (by (try simp only [List.map_toArray,List.map_cons,List.map_nil]); first | done | (simp only [hji25]; rfl) | rfl | (simp only [List.length_drop,List.length_take]; rfl)) ?_; (with_reducible refine (r4_Toggle.calls kj16 _ _ (Qak l0_0 x3_1) 1 ((Qad (Qak l0_0 x3_1) (ji25)).f0) ((Qad (Qak l0_0 x3_1) (ji25)).f1) t485 t486 t487 t488 t489 t490 t491 t492 t495 t496 t497 t498 _ ?side1 ?side2 ?side3 A28.out).mono ?_); (case side1 => exact Kd.C_below HR481_0.out (bw HB)); (case side2 => exact HC481_0.out); (case side3 => exact (hT.below (bw HB))); rintro e w39 ⟨v493,rfl,ho0,hb⟩; refine ⟨_,rfl, ?_⟩; have HO494:=Aside0.mk (Kd.R_lower ho0 (Qai (bw HB))); replace BK478:=bl BK478 hb; replace BK484:=Aside0.mk (Qbl (bp11 (kk BK484)) hb); replace HB:=bs HB hb; clear hb; clear ho0) | ((with_reducible refine Qae (N:=6) rfl ?_); (try (refine Qao (by rfl) ?_; dsimp only)); refine bx 6 #[.int .i64 0, .int .i64 0, .int .i64 0, .int .i64 0, .int .i64 0, .int .i64 0, .string (⟨#[]⟩ : ByteArray), .slice none 0 0, .int .i64 0, .int .i64 0, .int .i64 0] 55 (h := ?_); intro gb499 hg w40 hbox hb; have BK499:=Aside0.mk (hbox); have GW499:=bz HB hg; have GE499:=bz HB hg; have NB478_499:=bn BK478 hg; have NB499_478:=bm BK478 hg; have NB484_499:=bn BK484 hg; have NB499_484:=bm BK484 hg; replace HO494:=rb HO494 hb; replace BK478:=bl BK478 hb; replace BK484:=bl BK484 hb; replace HB:=bs HB hb; clear hb hbox hg; have hnb41:=NB499_478.out; have hnc41:=NB478_499.out; have hnb42:=NB499_484.out; have hnc42:=NB484_499.out; obtain ⟨_,_,_,_,_,_,_,_,_,_,_,_,_,_,_,_,_,_,_,_,_,_⟩:=kc11 BK499; obtain ⟨Ao44,co44,eo44⟩:=Kd.R_slice HO494.out; subst eo44) | ((with_reducible refine Qab (f:=36) rfl ?_); refine gl (some 67) Tryd.func36 #[.slice (some ad483) (Qak l0_0 x3_1).length c481_0, .agg #[.int .i64 t485, .int .i64 t486, .int .i64 t487, .int .i64 t488, .int .i64 t489, .int .i64 t490, .string t491, .slice Ao44 t492.length co44, .int .i64 t495, .int .i64 t496, .int .i64 t497]] (h := ?_); (with_reducible refine (r4_Behind.calls kj16 _ _ (Qak l0_0 x3_1) t485 t486 t487 t488 t489 t490 t491 _ _ t492 t495 t496 t497 t500 _ ?side1 ?side2 ?side3 ?side4 A30.out).mono ?_); (case side1 => exact Kd.C_below HR481_0.out (bw HB)); (case side2 => exact HC481_0.out); (case side3 => refine (Kd.R_reads' (e:=43) (base:=w.heap.size) (ok:=fun k_ => True) (n:=t492.length) (c:=co44) ?_).2.2; exact (by (with_reducible repeat (first | apply Kd.R_alloc | apply Kd.R_drewN | apply Kd.R_drew)); exact (Kd.R_mono (rf11 (Kd.R_types HO494.out BK499.out (by decide))) (fun _ h_ => h_.1)))); (case side4 => exact (Kd.R_reads' HO494.out).2.1); rintro e w45 ⟨v501,rfl,ho0,hb⟩; refine ⟨_,rfl, ?_⟩; have HO502:=Aside0.mk (Kd.S_lower (Kd.S_newB (Kd.S_newB (Kd.S_new' ho0 (Kd.R_lt (by (with_reducible repeat (first | apply Kd.R_alloc | apply Kd.R_drewN | apply Kd.R_drew)); exact (Kd.R_mono (rf11 (Kd.R_types HO494.out BK499.out (by decide))) (fun _ h_ => h_.1))))) (kk BK484)) (g:=gb499) (o:=.cells #[.int .i64 t485, .int .i64 t486, .int .i64 t487, .int .i64 t488, .int .i64 t489, .int .i64 t490, .string t491, .slice Ao44 t492.length co44, .int .i64 t495, .int .i64 t496, .int .i64 t497] 55 (0,0)) (bp11 (kk BK499))) (Qai (bw HB))); replace HO494:=Aside0.mk (Kd.R_below (by (with_reducible repeat (first | apply Kd.R_alloc | apply Kd.R_drewN | apply Kd.R_drew)); exact (Kd.R_mono (rf11 (Kd.R_types HO494.out BK499.out (by decide))) (fun _ h_ => h_.1))) hb); replace BK478:=bl BK478 hb; replace BK484:=bl BK484 hb; replace BK499:=Aside0.mk (Qbl (bp11 (kk BK499)) hb); replace HB:=bs HB hb; clear hb; clear ho0; obtain ⟨_,_,_,_,_,_,_,_,_,_,_,_,_,_,_,_,_,_,_,_,_,_⟩:=kc11 BK484; obtain ⟨Ao47,co47,eo47⟩:=Kd.S_slice HO502.out; subst eo47) | ((with_reducible refine Qab (f:=38) rfl ?_); refine goesL_ (some 74) rfl rfl Tryd.func38 (by kernel_rfl) rfl #[.slice Ao47 t500.length co47, .int .i64 2, .int .i64 ((Qad (Qak l0_0 x3_1) (ji25)).f0), .int .i64 ((Qad (Qak l0_0 x3_1) (ji25)).f1)] rfl (by (try simp only [List.map_toArray,List.map_cons,List.map_nil]); first | done | (simp only [hji25]; rfl) | rfl | (simp only [List.length_drop,List.length_take]; rfl)) ?_; (with_reducible refine (r4_Toggle.calls kj16 _ _ t500 2 ((Qad (Qak l0_0 x3_1) (ji25)).f0) ((Qad (Qak l0_0 x3_1) (ji25)).f1) t503 t504 t505 t506 t507 t508 t509 t510 t513 t514 t515 t516 _ ?side1 ?side2 ?side3 A31.out).mono ?_); (case side1 => exact cs HO502); (case side2 => exact (Kd.S_reads' HO502.out).2.1); (case side3 => exact (hT.below (bw HB))); rintro e w48 ⟨v511,rfl,ho0,hb⟩; refine ⟨_,rfl, ?_⟩; have HO512:=Aside0.mk (Kd.R_lower (Kd.R_new' ho0 (Kd.R_lt (rk HO494))) (Qai (bw HB))); replace HO494:=Aside0.mk (Kd.R_elder' (rk HO494) (Kd.R_base ho0) hb); replace HO502:=Aside0.mk (Kd.S_elder' (sk HO502) (Kd.R_base ho0) hb); replace BK478:=bl BK478 hb; replace BK484:=bl BK484 hb; replace BK499:=bl BK499 hb; replace HB:=bs HB hb; clear hb; clear ho0) | ((with_reducible refine Qae (N:=9) rfl ?_); (try (refine Qao (by rfl) ?_; dsimp only)); refine bx 9 #[.int .i64 0, .int .i64 0, .int .i64 0, .int .i64 0, .int .i64 0, .int .i64 0, .string (⟨#[]⟩ : ByteArray), .slice none 0 0, .int .i64 0, .int .i64 0, .int .i64 0] 55 (h := ?_); intro gb517 hg w49 hbox hb; have BK517:=Aside0.mk (hbox); have GW517:=bz HB hg; have GE517:=bz HB hg; have NB478_517:=bn BK478 hg; have NB517_478:=bm BK478 hg; have NB484_517:=bn BK484 hg; have NB517_484:=bm BK484 hg; have NB499_517:=bn BK499 hg; have NB517_499:=bm BK499 hg; replace HO494:=rb HO494 hb; replace HO502:=Aside0.mk (Kd.S_below (Kd.S_elderB (sk HO502) gb517 (Nat.le_of_eq hg.symm)) hb); replace HO512:=rb HO512 hb; replace BK478:=bl BK478 hb; replace BK484:=bl BK484 hb; replace BK499:=bl BK499 hb; replace HB:=bs HB hb; clear hb hbox hg; have hnb50:=NB517_478.out; have hnc50:=NB478_517.out; have hnb51:=NB517_484.out; have hnc51:=NB484_517.out; have hnb52:=NB517_499.out; have hnc52:=NB499_517.out; obtain ⟨_,_,_,_,_,_,_,_,_,_,_,_,_,_,_,_,_,_,_,_,_,_⟩:=kc11 BK517; obtain ⟨Ao54,co54,eo54⟩:=Kd.R_slice HO512.out; subst eo54) | ((with_reducible refine Qab (f:=36) rfl ?_); refine gl (some 81) Tryd.func36 #[.slice Ao47 t500.length co47, .agg #[.int .i64 t503, .int .i64 t504, .int .i64 t505, .int .i64 t506, .int .i64 t507, .int .i64 t508, .string t509, .slice Ao54 t510.length co54, .int .i64 t513, .int .i64 t514, .int .i64 t515]] (h := ?_); (with_reducible refine (r4_Behind.calls kj16 _ _ t500 t503 t504 t505 t506 t507 t508 t509 _ _ t510 t513 t514 t515 t518 _ ?side1 ?side2 ?side3 ?side4 A33.out).mono ?_); (case side1 => refine (Kd.S_reads' (e:=55) (base:=w.heap.size) (ok:=fun k_ => (((((True ∧ some k_ ≠ (.slice Ao44 t492.length co44 : Value).ownBlock) ∧ k_ ≠ gb484) ∧ k_ ≠ gb499) ∧ some k_ ≠ (.slice Ao54 t510.length co54 : Value).ownBlock) ∧ k_ ≠ gb517)) (n:=t500.length) (c:=co47) ?_).2.2; exact (by (with_reducible repeat (first | apply Kd.S_alloc | apply Kd.S_drewN | apply Kd.S_drew)); exact (Kd.S_mono (sf11 (Kd.S_mono HO502.out (fun k_ hk => (⟨hk,hk.2⟩ : _ ∧ k_ ≠ gb517)))) (fun _ h_ => h_.1)))); (case side2 => exact (Kd.S_reads' HO502.out).2.1); (case side3 => refine (Kd.R_reads' (e:=43) (base:=w.heap.size) (ok:=fun k_ => (True ∧ some k_ ≠ (.slice Ao44 t492.length co44 : Value).ownBlock)) (n:=t510.length) (c:=co54) ?_).2.2; exact (by (with_reducible repeat (first | apply Kd.R_alloc | apply Kd.R_drewN | apply Kd.R_drew)); exact (Kd.R_mono (rf11 (Kd.R_types HO512.out BK517.out (by decide))) (fun _ h_ => h_.1)))); (case side4 => exact (Kd.R_reads' HO512.out).2.1); rintro e w55 ⟨v519,rfl,ho0,hb⟩; refine ⟨_,rfl, ?_⟩; have HO520:=Aside0.mk (Kd.S_lower (Kd.S_newB (Kd.S_newB (Kd.S_newB (Kd.S_new' (Kd.S_new' (Kd.S_new' ho0 (Kd.R_lt (by (with_reducible repeat (first | apply Kd.R_alloc | apply Kd.R_drewN | apply Kd.R_drew)); exact (Kd.R_mono (rf11 (Kd.R_types HO494.out BK517.out (by decide))) (fun _ h_ => h_.1))))) (Kd.S_lt (by (with_reducible repeat (first | apply Kd.S_alloc | apply Kd.S_drewN | apply Kd.S_drew)); exact (Kd.S_mono (sf11 (Kd.S_mono HO502.out (fun k_ hk => (⟨hk,hk.2⟩ : _ ∧ k_ ≠ gb517)))) (fun _ h_ => h_.1))))) (Kd.R_lt (by (with_reducible repeat (first | apply Kd.R_alloc | apply Kd.R_drewN | apply Kd.R_drew)); exact (Kd.R_mono (rf11 (Kd.R_types HO512.out BK517.out (by decide))) (fun _ h_ => h_.1))))) (kk BK484)) (kk BK499)) (g:=gb517) (o:=.cells #[.int .i64 t503, .int .i64 t504, .int .i64 t505, .int .i64 t506, .int .i64 t507, .int .i64 t508, .string t509, .slice Ao54 t510.length co54, .int .i64 t513, .int .i64 t514, .int .i64 t515] 55 (0,0)) (bp11 (kk BK517))) (Qai (bw HB))); replace HO494:=Aside0.mk (Kd.R_below (by (with_reducible repeat (first | apply Kd.R_alloc | apply Kd.R_drewN | apply Kd.R_drew)); exact (Kd.R_mono (rf11 (Kd.R_types HO494.out BK517.out (by decide))) (fun _ h_ => h_.1))) hb); replace HO502:=Aside0.mk (Kd.S_elder' (by (with_reducible repeat (first | apply Kd.S_alloc | apply Kd.S_drewN | apply Kd.S_drew)); exact (Kd.S_mono (sf11 (Kd.S_mono HO502.out (fun k_ hk => (⟨hk,hk.2⟩ : _ ∧ k_ ≠ gb517)))) (fun _ h_ => h_.1))) (Kd.S_base ho0) hb); replace HO512:=Aside0.mk (Kd.R_below (by (with_reducible repeat (first | apply Kd.R_alloc | apply Kd.R_drewN | apply Kd.R_drew)); exact (Kd.R_mono (rf11 (Kd.R_types HO512.out BK517.out (by decide))) (fun _ h_ => h_.1))) hb); replace BK478:=bl BK478 hb; replace BK484:=bl BK484 hb; replace BK499:=bl BK499 hb; replace BK517:=Aside0.mk (Qbl (bp11 (kk BK517)) hb); replace HB:=bs HB hb; clear hb; clear ho0; obtain ⟨_,_,_,_,_,_,_,_⟩:=kc4 BK478) | ((with_reducible refine Qab (f:=21) rfl ?_); refine gl (some 84) Tryd.func21 #[.agg #[.slice (some ad481) l0_0.length c0_0, .slice A0_1 l0_1.length c0_1, .slice A0_2 l0_2.length c0_2, .slice A0_3 l0_3.length c0_3], .slice (some ad483) (Qak l0_0 x3_1).length c481_0] (h := ?_); (with_reducible refine (w5_Elems.calls kj16 _ _ l0_0 _ _ l0_1 _ _ l0_2 _ _ l0_3 _ _ (Qak l0_0 x3_1) t521 _ ?side1 ?side2 ?side3 ?side4 ?side5 ?side6 ?side7 ?side8 ?side9 ?side10 A34.out).mono ?_); (case side1 => exact cb HR0_0 HB); (case side2 => exact HC0_0.out); (case side3 => exact cb HR0_1 HB); (case side4 => exact HC0_1.out); (case side5 => exact cb HR0_2 HB); (case side6 => exact HC0_2.out); (case side7 => exact cb HR0_3 HB); (case side8 => exact HC0_3.out); (case side9 => exact cb HR481_0 HB); (case side10 => exact HC481_0.out); rintro e w57 ⟨v522,rfl,ho0,hb⟩; refine ⟨_,rfl, ?_⟩; have HO523:=Aside0.mk (Kd.R_lower (Kd.R_new' (Kd.R_new' ho0 (Kd.R_lt (rk HO494))) (Kd.R_lt (rk HO512))) (Qai (bw HB))); replace HO494:=Aside0.mk (Kd.R_elder' (rk HO494) (Kd.R_base ho0) hb); replace HO502:=Aside0.mk (Kd.S_elder' (sk HO502) (Kd.R_base ho0) hb); replace HO512:=Aside0.mk (Kd.R_elder' (rk HO512) (Kd.R_base ho0) hb); replace HO520:=Aside0.mk (Kd.S_elder' (sk HO520) (Kd.R_base ho0) hb); replace BK478:=bl BK478 hb; replace BK484:=bl BK484 hb; replace BK499:=bl BK499 hb; replace BK517:=bl BK517 hb; replace HB:=bs HB hb; clear hb; clear ho0))
       go_loopg [12] kj16 (fun kq v12 w' => ∃ (x12_4 : Int),v12 = .int .i64 x12_4 ∧ Aside0 (w11_CaretUndoes.l1 kq x3_1 (Qak l0_0 x3_1) t518 t521 x12_4 l0_0 l0_1 l0_2 l0_3 = some r) ∧ Aside0 (kq ≤ kj16) ∧ Aside0 (Kd.S kOp 55 w' w.heap.size (fun k_ => some k_ ≠ (v522 : Value).ownBlock ∧ some k_ ≠ ((.slice Ao44 t492.length co44) : Value).ownBlock ∧ some k_ ≠ ((.slice Ao54 t510.length co54) : Value).ownBlock ∧ k_ ≠ gb484 ∧ k_ ≠ gb499 ∧ k_ ≠ gb517) v519 t518) ∧ Aside0 (Kd.R Qaq 43 w' w.heap.size (fun k_ => some k_ ≠ ((.slice Ao44 t492.length co44) : Value).ownBlock ∧ some k_ ≠ ((.slice Ao54 t510.length co54) : Value).ownBlock) v522 t521) ∧ Aside0 (Kd.R Qaq 43 w' w.heap.size (fun k_ => some k_ ≠ (v522 : Value).ownBlock ∧ some k_ ≠ ((.slice Ao54 t510.length co54) : Value).ownBlock) (.slice Ao44 t492.length co44) t492) ∧ Aside0 (Kd.R Qaq 43 w' w.heap.size (fun k_ => some k_ ≠ (v522 : Value).ownBlock ∧ some k_ ≠ ((.slice Ao44 t492.length co44) : Value).ownBlock) (.slice Ao54 t510.length co54) t510) ∧ Aside0 (w'.heap[gb478]? = some (.cells #[(.slice (some ad481) l0_0.length c0_0),(.slice A0_1 l0_1.length c0_1),(.slice A0_2 l0_2.length c0_2),(.slice A0_3 l0_3.length c0_3)] 27 (0,0))) ∧ Aside0 (w'.heap[gb484]? = some (.cells #[.int .i64 ((Qad (Qak l0_0 x3_1) (ji25)).f0), .int .i64 ((Qad (Qak l0_0 x3_1) (ji25)).f1), .int .i64 ((Qad (Qak l0_0 x3_1) (ji25)).f2), .int .i64 ((Qad (Qak l0_0 x3_1) (ji25)).f3.f0), .int .i64 ((Qad (Qak l0_0 x3_1) (ji25)).f3.f1), .int .i64 ((Qad (Qak l0_0 x3_1) (ji25)).f3.f2), .string ((Qad (Qak l0_0 x3_1) (ji25)).f4),(.slice A483_7 ((Qad (Qak l0_0 x3_1) (ji25)).f5).length c483_7), .int .i64 ((Qad (Qak l0_0 x3_1) (ji25)).f6), .int .i64 ((Qad (Qak l0_0 x3_1) (ji25)).f7), .int .i64 ((Qad (Qak l0_0 x3_1) (ji25)).f8)] 55 (0,0))) ∧ Aside0 (w'.heap[gb499]? = some (.cells #[.int .i64 t485, .int .i64 t486, .int .i64 t487, .int .i64 t488, .int .i64 t489, .int .i64 t490, .string t491,(.slice Ao44 t492.length co44), .int .i64 t495, .int .i64 t496, .int .i64 t497] 55 (0,0))) ∧ Aside0 (w'.heap[gb517]? = some (.cells #[.int .i64 t503, .int .i64 t504, .int .i64 t505, .int .i64 t506, .int .i64 t507, .int .i64 t508, .string t509,(.slice Ao54 t510.length co54), .int .i64 t513, .int .i64 t514, .int .i64 t515] 55 (0,0))) ∧ Aside0 (Below w.heap.size w w'))
       case atStart => exact ⟨(0),rf,H',⟨Nat.le_refl _⟩,⟨by (with_reducible repeat (first | apply Kd.S_alloc | apply Kd.S_drewN | apply Kd.S_drew)); exact Kd.S_mono HO520.out (fun _ hk => ⟨hk.2,⟨hk.1.1.1.1.1.1.2,⟨hk.1.1.1.1.2,⟨hk.1.1.1.2,⟨hk.1.1.2,hk.1.2⟩⟩⟩⟩⟩)⟩,⟨by (with_reducible repeat (first | apply Kd.R_alloc | apply Kd.R_drewN | apply Kd.R_drew)); exact Kd.R_mono HO523.out (fun _ hk => ⟨hk.1.2,hk.2⟩)⟩,⟨by (with_reducible repeat (first | apply Kd.R_alloc | apply Kd.R_drewN | apply Kd.R_drew)); exact Kd.R_mono HO494.out (fun _ hk => ⟨hk.2,hk.1.2⟩)⟩,⟨by (with_reducible repeat (first | apply Kd.R_alloc | apply Kd.R_drewN | apply Kd.R_drew)); exact Kd.R_mono HO512.out (fun _ hk => ⟨hk.2,hk.1.2⟩)⟩,⟨kk BK478⟩,⟨kk BK484⟩,⟨kk BK499⟩,⟨kk BK517⟩,⟨bw HB⟩⟩
       case round =>
        clear H'
        try clear c23; try clear c24; try clear c24b0; try clear c24b1; try clear c24b2; try clear c26b0; try clear c27b0; try clear c29b0; try clear c29b1; try clear c32b0; try clear c32b1; try clear hx483_0; try clear hx483_1; try clear hx483_10; try clear hx483_2; try clear hx483_3; try clear hx483_4; try clear hx483_5; try clear hx483_6; try clear hx483_7; try clear hx483_8; try clear hx483_9; try clear p483; try clear q483
        obtain ⟨x12_4,rfl,HA,HK4,HO_10,HO_11,HO_500007,HO_518007,BK478,BK484,BK499,BK517,HB⟩:=hrel
        cases gk with
        | zero => exact absurd HA.out (by simp [w11_CaretUndoes.l1])
        | succ k4 =>
         have H:=HA.out
         clear HA
         simp only [w11_CaretUndoes.l1] at H
         by_cases c58 : x12_4 < (t521.length : Int); rotate_left
         ·rw [if_neg c58] at H
          have c58b0:=decide_eq_false c58
          clear c58
          have H':=Aside0.mk H
          clear H
          obtain ⟨Ao78,co78,eo78⟩:=Kd.R_slice HO_11.out
          subst eo78
          go_wp2
          go_roundg k4
          case measure => have:=HK1.out; have:=HJ9.out; have:=HJ16.out; have:=HK4.out; omega
          case rel => exact ⟨(wrap64 (x3_1 + 1)),rf,H',⟨by have:=HK1.out; have:=HJ9.out; have:=HJ16.out; have:=HK4.out; omega⟩,⟨kk BK478⟩,⟨bw HB⟩⟩
         rw [if_pos c58] at H
         have c58b0:=decide_eq_true c58
         clear c58
         by_cases c59 : 0 ≤ x12_4; rotate_left
         ·rw [if_neg c59] at H
          exact absurd H (by simp)
         rw [if_pos c59] at H
         have c59b0:=decide_eq_true c59
         clear c59
         obtain ⟨⟨t525,t526⟩,A60,H⟩:=bE H
         try dsimp only at H
         obtain ⟨⟨t528,t529⟩,A61,H⟩:=bE H
         try dsimp only at H
         obtain ⟨t530,A62,H⟩:=bE H
         obtain ⟨t531,A63,H⟩:=bE H
         by_cases c64 : t530 = t531; rotate_left
         ·rw [if_neg c64] at H
          obtain ⟨c64b0,c64b1⟩:=bF c64
          obtain rfl:=Option.some.inj H
          obtain ⟨Ao74,co74,eo74⟩:=Kd.R_slice HO_11.out
          subst eo74
          have p524 : 0 ≤ (x12_4 : Int):=od
          have q524 : x12_4 < (t521.length : Int):=od
          obtain ⟨ad524,e524,hx524_0,hx524_1,hx524_2⟩:=Qba (Kd.R_reads' HO_11.out).2.2 x12_4 p524 q524
          cases e524
          replace p524:=eq_true p524
          replace q524:=eq_true q524
          go_wp2_with (first | ((with_reducible refine Qab (f:=35) rfl ?_); refine gl (some 97) Tryd.func35 #[.slice (some ad483) (Qak l0_0 x3_1).length c481_0, .agg #[.int .i64 ((Qaa t521 x12_4).f0), .int .i64 ((Qaa t521 x12_4).f1), .int .i64 ((Qaa t521 x12_4).f2)]] (h := ?_); (with_reducible refine (caret_Place.calls _ _ (Qak l0_0 x3_1) ((Qaa t521 x12_4).f0) ((Qaa t521 x12_4).f1) ((Qaa t521 x12_4).f2) t525 t526 _ ?side1 ?side2 A60.out).mono ?_); (case side1 => exact cb HR481_0 HB); (case side2 => exact HC481_0.out); rintro e w75 ⟨rfl,hb⟩; refine ⟨_,rfl, ?_⟩; replace HO_10:=sb HO_10 hb; replace HO_11:=rb HO_11 hb; replace HO_500007:=rb HO_500007 hb; replace HO_518007:=rb HO_518007 hb; replace BK478:=bl BK478 hb; replace BK484:=bl BK484 hb; replace BK499:=bl BK499 hb; replace BK517:=bl BK517 hb; replace HB:=bs HB hb; clear hb; have p527 : 0 ≤ (x12_4 : Int):=od; have q527 : x12_4 < (t521.length : Int):=od; obtain ⟨ad527,e527,hx527_0,hx527_1,hx527_2⟩:=Qba (Kd.R_reads' HO_11.out).2.2 x12_4 p527 q527; obtain rfl : ad524 = ad527:=(by injection e527); replace p527:=eq_true p527; replace q527:=eq_true q527; obtain ⟨Ao76,co76,eo76⟩:=Kd.S_slice HO_10.out; subst eo76) | ((with_reducible refine Qab (f:=35) rfl ?_); refine gl (some 106) Tryd.func35 #[.slice Ao76 t518.length co76, .agg #[.int .i64 ((Qaa t521 x12_4).f0), .int .i64 ((Qaa t521 x12_4).f1), .int .i64 ((Qaa t521 x12_4).f2)]] (h := ?_); (with_reducible refine (caret_Place.calls _ _ t518 ((Qaa t521 x12_4).f0) ((Qaa t521 x12_4).f1) ((Qaa t521 x12_4).f2) t528 t529 _ ?side1 ?side2 A61.out).mono ?_); (case side1 => exact cs HO_10); (case side2 => exact (Kd.S_reads' HO_10.out).2.1); rintro e w77 ⟨rfl,hb⟩; refine ⟨_,rfl, ?_⟩; replace HO_10:=sb HO_10 hb; replace HO_11:=rb HO_11 hb; replace HO_500007:=rb HO_500007 hb; replace HO_518007:=rb HO_518007 hb; replace BK478:=bl BK478 hb; replace BK484:=bl BK484 hb; replace BK499:=bl BK499 hb; replace BK517:=bl BK517 hb; replace HB:=bs HB hb; clear hb) | ((with_reducible refine Qab (f:=33) rfl ?_); refine gl (some 110) Tryd.func33 #[.int .i64 t526] (h := ?_); (with_reducible refine (w11_num.calls t526 t530 _ A62.out).mono ?_); rintro e w' ⟨rfl,⟨nd,rfl⟩⟩; refine ⟨_,rfl, ?_⟩) | ((with_reducible refine Qab (f:=33) rfl ?_); refine gl (some 112) Tryd.func33 #[.int .i64 t529] (h := ?_); (with_reducible refine (w11_num.calls t529 t531 _ A63.out).mono ?_); rintro e w' ⟨rfl,⟨nd,rfl⟩⟩; refine ⟨_,rfl, ?_⟩))
          go_ret
          exact ⟨by first | rfl | (simp [Qbu,Qbt] <;> rfl) | (simp only [← hji25]; first | rfl | (simp [Qbu,Qbt] <;> rfl)) | (simp [*,Qbu,Qbt] <;> rfl),bw HB⟩
         rw [if_pos c64] at H
         obtain ⟨c64b0,c64b1⟩:=bT c64
         clear c64
         by_cases c65 : t525 = t528; rotate_left
         ·rw [if_neg c65] at H
          obtain ⟨c65b0,c65b1⟩:=bF c65
          obtain rfl:=Option.some.inj H
          obtain ⟨Ao70,co70,eo70⟩:=Kd.R_slice HO_11.out
          subst eo70
          have p524 : 0 ≤ (x12_4 : Int):=od
          have q524 : x12_4 < (t521.length : Int):=od
          obtain ⟨ad524,e524,hx524_0,hx524_1,hx524_2⟩:=Qba (Kd.R_reads' HO_11.out).2.2 x12_4 p524 q524
          cases e524
          replace p524:=eq_true p524
          replace q524:=eq_true q524
          go_wp2_with (first | ((with_reducible refine Qab (f:=35) rfl ?_); refine gl (some 97) Tryd.func35 #[.slice (some ad483) (Qak l0_0 x3_1).length c481_0, .agg #[.int .i64 ((Qaa t521 x12_4).f0), .int .i64 ((Qaa t521 x12_4).f1), .int .i64 ((Qaa t521 x12_4).f2)]] (h := ?_); (with_reducible refine (caret_Place.calls _ _ (Qak l0_0 x3_1) ((Qaa t521 x12_4).f0) ((Qaa t521 x12_4).f1) ((Qaa t521 x12_4).f2) t525 t526 _ ?side1 ?side2 A60.out).mono ?_); (case side1 => exact cb HR481_0 HB); (case side2 => exact HC481_0.out); rintro e w71 ⟨rfl,hb⟩; refine ⟨_,rfl, ?_⟩; replace HO_10:=sb HO_10 hb; replace HO_11:=rb HO_11 hb; replace HO_500007:=rb HO_500007 hb; replace HO_518007:=rb HO_518007 hb; replace BK478:=bl BK478 hb; replace BK484:=bl BK484 hb; replace BK499:=bl BK499 hb; replace BK517:=bl BK517 hb; replace HB:=bs HB hb; clear hb; have p527 : 0 ≤ (x12_4 : Int):=od; have q527 : x12_4 < (t521.length : Int):=od; obtain ⟨ad527,e527,hx527_0,hx527_1,hx527_2⟩:=Qba (Kd.R_reads' HO_11.out).2.2 x12_4 p527 q527; obtain rfl : ad524 = ad527:=(by injection e527); replace p527:=eq_true p527; replace q527:=eq_true q527; obtain ⟨Ao72,co72,eo72⟩:=Kd.S_slice HO_10.out; subst eo72) | ((with_reducible refine Qab (f:=35) rfl ?_); refine gl (some 106) Tryd.func35 #[.slice Ao72 t518.length co72, .agg #[.int .i64 ((Qaa t521 x12_4).f0), .int .i64 ((Qaa t521 x12_4).f1), .int .i64 ((Qaa t521 x12_4).f2)]] (h := ?_); (with_reducible refine (caret_Place.calls _ _ t518 ((Qaa t521 x12_4).f0) ((Qaa t521 x12_4).f1) ((Qaa t521 x12_4).f2) t528 t529 _ ?side1 ?side2 A61.out).mono ?_); (case side1 => exact cs HO_10); (case side2 => exact (Kd.S_reads' HO_10.out).2.1); rintro e w73 ⟨rfl,hb⟩; refine ⟨_,rfl, ?_⟩; replace HO_10:=sb HO_10 hb; replace HO_11:=rb HO_11 hb; replace HO_500007:=rb HO_500007 hb; replace HO_518007:=rb HO_518007 hb; replace BK478:=bl BK478 hb; replace BK484:=bl BK484 hb; replace BK499:=bl BK499 hb; replace BK517:=bl BK517 hb; replace HB:=bs HB hb; clear hb) | ((with_reducible refine Qab (f:=33) rfl ?_); refine gl (some 110) Tryd.func33 #[.int .i64 t526] (h := ?_); (with_reducible refine (w11_num.calls t526 t530 _ A62.out).mono ?_); rintro e w' ⟨rfl,⟨nd,rfl⟩⟩; refine ⟨_,rfl, ?_⟩) | ((with_reducible refine Qab (f:=33) rfl ?_); refine gl (some 112) Tryd.func33 #[.int .i64 t529] (h := ?_); (with_reducible refine (w11_num.calls t529 t531 _ A63.out).mono ?_); rintro e w' ⟨rfl,⟨nd,rfl⟩⟩; refine ⟨_,rfl, ?_⟩))
          go_ret
          exact ⟨by first | rfl | (simp [Qbu,Qbt] <;> rfl) | (simp only [← hji25]; first | rfl | (simp [Qbu,Qbt] <;> rfl)) | (simp [*,Qbu,Qbt] <;> rfl),bw HB⟩
         rw [if_pos c65] at H
         obtain ⟨c65b0,c65b1⟩:=bT c65
         clear c65
         have H':=Aside0.mk H
         clear H
         obtain ⟨Ao66,co66,eo66⟩:=Kd.R_slice HO_11.out
         subst eo66
         have p524 : 0 ≤ (x12_4 : Int):=od
         have q524 : x12_4 < (t521.length : Int):=od
         obtain ⟨ad524,e524,hx524_0,hx524_1,hx524_2⟩:=Qba (Kd.R_reads' HO_11.out).2.2 x12_4 p524 q524
         cases e524
         replace p524:=eq_true p524
         replace q524:=eq_true q524
         go_wp2_with (first | ((with_reducible refine Qab (f:=35) rfl ?_); refine gl (some 97) Tryd.func35 #[.slice (some ad483) (Qak l0_0 x3_1).length c481_0, .agg #[.int .i64 ((Qaa t521 x12_4).f0), .int .i64 ((Qaa t521 x12_4).f1), .int .i64 ((Qaa t521 x12_4).f2)]] (h := ?_); (with_reducible refine (caret_Place.calls _ _ (Qak l0_0 x3_1) ((Qaa t521 x12_4).f0) ((Qaa t521 x12_4).f1) ((Qaa t521 x12_4).f2) t525 t526 _ ?side1 ?side2 A60.out).mono ?_); (case side1 => exact cb HR481_0 HB); (case side2 => exact HC481_0.out); rintro e w67 ⟨rfl,hb⟩; refine ⟨_,rfl, ?_⟩; replace HO_10:=sb HO_10 hb; replace HO_11:=rb HO_11 hb; replace HO_500007:=rb HO_500007 hb; replace HO_518007:=rb HO_518007 hb; replace BK478:=bl BK478 hb; replace BK484:=bl BK484 hb; replace BK499:=bl BK499 hb; replace BK517:=bl BK517 hb; replace HB:=bs HB hb; clear hb; have p527 : 0 ≤ (x12_4 : Int):=od; have q527 : x12_4 < (t521.length : Int):=od; obtain ⟨ad527,e527,hx527_0,hx527_1,hx527_2⟩:=Qba (Kd.R_reads' HO_11.out).2.2 x12_4 p527 q527; obtain rfl : ad524 = ad527:=(by injection e527); replace p527:=eq_true p527; replace q527:=eq_true q527; obtain ⟨Ao68,co68,eo68⟩:=Kd.S_slice HO_10.out; subst eo68) | ((with_reducible refine Qab (f:=35) rfl ?_); refine gl (some 106) Tryd.func35 #[.slice Ao68 t518.length co68, .agg #[.int .i64 ((Qaa t521 x12_4).f0), .int .i64 ((Qaa t521 x12_4).f1), .int .i64 ((Qaa t521 x12_4).f2)]] (h := ?_); (with_reducible refine (caret_Place.calls _ _ t518 ((Qaa t521 x12_4).f0) ((Qaa t521 x12_4).f1) ((Qaa t521 x12_4).f2) t528 t529 _ ?side1 ?side2 A61.out).mono ?_); (case side1 => exact cs HO_10); (case side2 => exact (Kd.S_reads' HO_10.out).2.1); rintro e w69 ⟨rfl,hb⟩; refine ⟨_,rfl, ?_⟩; replace HO_10:=sb HO_10 hb; replace HO_11:=rb HO_11 hb; replace HO_500007:=rb HO_500007 hb; replace HO_518007:=rb HO_518007 hb; replace BK478:=bl BK478 hb; replace BK484:=bl BK484 hb; replace BK499:=bl BK499 hb; replace BK517:=bl BK517 hb; replace HB:=bs HB hb; clear hb) | ((with_reducible refine Qab (f:=33) rfl ?_); refine gl (some 110) Tryd.func33 #[.int .i64 t526] (h := ?_); (with_reducible refine (w11_num.calls t526 t530 _ A62.out).mono ?_); rintro e w' ⟨rfl,⟨nd,rfl⟩⟩; refine ⟨_,rfl, ?_⟩) | ((with_reducible refine Qab (f:=33) rfl ?_); refine gl (some 112) Tryd.func33 #[.int .i64 t529] (h := ?_); (with_reducible refine (w11_num.calls t529 t531 _ A63.out).mono ?_); rintro e w' ⟨rfl,⟨nd,rfl⟩⟩; refine ⟨_,rfl, ?_⟩))
         go_roundg k4
         case measure => have:=HK1.out; have:=HJ9.out; have:=HJ16.out; have:=HK4.out; omega
         case rel => exact ⟨(wrap64 (x12_4 + 1)),rf,H',⟨by have:=HK1.out; have:=HJ9.out; have:=HJ16.out; have:=HK4.out; omega⟩,⟨sk HO_10⟩,⟨rk HO_11⟩,⟨rk HO_500007⟩,⟨rk HO_518007⟩,⟨kk BK478⟩,⟨kk BK484⟩,⟨kk BK499⟩,⟨kk BK517⟩,⟨bw HB⟩⟩
end
section
theorem wakes11_ev : Ev (fun k => w11_wakes.f k) true:=Ev.of (w11_wakes.mono) (k:=9) (by decide +kernel)
theorem num11_f (a : Int) : w11_num.f a = some a:=rfl
def togC (s q a b g : Int) : SOp:=⟨s,q,2,⟨0,0,0⟩,(⟨#[]⟩ : ByteArray),[],a,b,g⟩
theorem togC_tiny (s q a b g : Int) : tiny (togC s q a b g):=⟨Nat.zero_le _,Nat.zero_le _⟩
theorem cnt_togC (L : List SOp) (s q a b g c d : Int) : cntR (L ++ [togC s q a b g]) c d = if a = c ∧ b = d ∧ g = cntR L c d then cntR L c d + 1 else cntR L c d:=by
 rw [cntR_app]
 unfold cntStep togC
 simp
theorem EditC_ev {L : List SOp} (hl : L.length ≤ 1000) (s q : Int) : Ev (fun k => r4_Edit.f k L s q) (decide (0 ≤ Qbi L s q) && (Qad L (Qbi L s q)).f2 == 1):=by
 refine Ev.bind (f:=fun _ t => if t ≥ 0 then (if 0 ≤ t then (if t < (L.length : Int) then (some (((Qad L t).f2) == 1)) else (none)) else (none)) else (some false)) (Find_ev L (by omega) s q) ?_
 rcases Qbe L s q with ⟨i,hi,_,_,_,e⟩ | ⟨_,e⟩
 ·rw [e,decide_eq_true (by omega),Bool.true_and]
  refine Ev.congr (fun k => ?_) (Ev.now _)
  rw [if_pos (by omega),if_pos (by omega),if_pos (by omega)]
 ·rw [e]
  exact Ev.now _
theorem Toggle_ev {L : List SOp} (h : RowOk L) (ht : Tiny L) (s a b : Int) :
  (∃ c : Int,c ≠ 0 ∧ Ev (fun k => r4_Toggle.f k L s a b) (0,0,0,0,0,0,(⟨#[]⟩ : ByteArray),([] : List SElem),0,0,0,c)) ∨
  (Ev (fun k => r4_Toggle.f k L s a b) (s,((Qbj L s + 1 : Nat) : Int),2,0,0,0,(⟨#[]⟩ : ByteArray),([] : List SElem),a,b,cntR L a b,0) ∧ RowOk (L ++ [togC s ((Qbj L s + 1 : Nat) : Int) a b (cntR L a b)])):=by
 have h40:=h.sums.1
 have hc:=countS_le L s
 have hE:=EditC_ev (L:=L) (by omega) a b
 have hM:=Many_ev L (by omega) s
 have hC:=CountR_ev L (by omega) a b
 have hw : wrap64 ((Qbj L s : Int) + 1) = ((Qbj L s + 1 : Nat) : Int):=by rw [Qaj (by omega) (by omega)]; omega
 have hB:=Behind_ev L (by omega) (fun o ho => by have:=(ht o ho).2; omega) (togC s ((Qbj L s + 1 : Nat) : Int) a b (cntR L a b)) (Nat.zero_le _)
 have hR:=Row_ev (L ++ [togC s ((Qbj L s + 1 : Nat) : Int) a b (cntR L a b)]) ((ht.snoc (togC_tiny _ _ _ _ _)).smL (by rw [List.length_append,List.length_singleton]; omega))
 cases he : decide (0 ≤ Qbi L a b) && (Qad L (Qbi L a b)).f2 == 1
 ·refine .inl ⟨3,by decide, ?_⟩
  rw [he] at hE
  exact Ev.bind hE (Ev.now _)
 ·rw [he] at hE
  cases hm : mayB (L ++ [togC s ((Qbj L s + 1 : Nat) : Int) a b (cntR L a b)])
  ·refine .inl ⟨6,by decide,Ev.bind hE ?_⟩
   rw [hm] at hR
   simp only [if_true]
   refine Ev.bind hM (Ev.bind hC ?_)
   simp only [hw]
   exact Ev.bind hB (Ev.bind hR (Ev.now _))
  ·refine .inr ⟨Ev.bind hE ?_,(Qdi _).1 hm⟩
   rw [hm] at hR
   simp only [if_true]
   refine Ev.bind hM (Ev.bind hC ?_)
   simp only [hw]
   exact Ev.bind hB (Ev.bind hR (Ev.now _))
theorem two_toggles {L : List SOp} (h : RowOk L) {s1 q1 s2 q2 a b : Int} (h1 : RowOk (L ++ [togC s1 q1 a b (cntR L a b)]))
  (h2 : RowOk (L ++ [togC s1 q1 a b (cntR L a b)] ++ [togC s2 q2 a b (cntR (L ++ [togC s1 q1 a b (cntR L a b)]) a b)])) (e : SElem) :
  uptoR (L ++ [togC s1 q1 a b (cntR L a b)] ++ [togC s2 q2 a b (cntR (L ++ [togC s1 q1 a b (cntR L a b)]) a b)]) e = uptoR L e ∧
   Qcc (L ++ [togC s1 q1 a b (cntR L a b)] ++ [togC s2 q2 a b (cntR (L ++ [togC s1 q1 a b (cntR L a b)]) a b)]) e = Qcc L e:=by
 obtain ⟨_,n1⟩:=h1.snoc_inv
 obtain ⟨_,n2⟩:=h2.snoc_inv
 have o1:=tog_ord n1 rfl
 have o2:=tog_ord n2 rfl
 refine ⟨?_,by rw [written_tog h1 n2 rfl,written_tog h n1 rfl]⟩
 have hc : ∀ c d,cntR (L ++ [togC s1 q1 a b (cntR L a b)] ++ [togC s2 q2 a b (cntR (L ++ [togC s1 q1 a b (cntR L a b)]) a b)]) c d % 2 = cntR L c d % 2:=by
  intro c d
  rw [cnt_togC]
  by_cases hh : a = c ∧ b = d
  ·obtain ⟨rfl,rfl⟩:=hh
   rw [if_pos ⟨rfl,rfl,rfl⟩,cnt_togC L,if_pos ⟨rfl,rfl,rfl⟩]
   omega
  ·rw [if_neg (fun x => hh ⟨x.1,x.2.1⟩),cnt_togC L,if_neg (fun x => hh ⟨x.1,x.2.1⟩)]
 rw [List.append_assoc] at o2 hc ⊢
 refine upto_tog (o2.trans o1) (tog_seen (o2.trans o1) (fun t ht => ?_) (fun o ho => ?_)) e
 ·rcases List.mem_append.1 ht with ht | ht <;> (rw [List.mem_singleton] at ht; subst ht; rfl)
 ·unfold Qbk; rw [hc]
theorem El_l0 (L : List SOp) (hL : L.length ≤ 40) : ∀ d i (acc : List SElem),i + d = L.length → acc.length ≤ 6 + i → ∃ es,Ev (fun k => w5_Elems.l0 k L acc (i : Int)) es ∧ es.length ≤ 46
 | 0,i,acc,hi,ha => ⟨acc,Ev.step (f:=fun _ => some acc) (fun k => by simp only [w5_Elems.l0]; rw [if_neg (by omega)]) (Ev.now _),by omega⟩
 | d + 1,i,acc,hi,ha => by
  obtain ⟨es,h1,h2⟩:=El_l0 L hL d (i + 1) (acc ++ [(⟨(Qad L (i : Int)).f0,(Qad L (i : Int)).f1,Int.tmod (i : Int) 3⟩ : SElem)]) (by omega) (by rw [List.length_append,List.length_singleton]; omega)
  refine ⟨es,Ev.step (fun k => ?_) h1,h2⟩
  simp only [w5_Elems.l0]
  rw [if_pos (by omega),if_pos (by omega),if_pos (by omega),if_pos (by omega),Qdh (show i < L.length by omega) (by omega)]
theorem Elems_some (l0 : List (List SOp)) (l1 : List SElem) (l2 : List SOp) (l3 : List Int) (hn : l1.length ≤ 900) (L : List SOp) (hL : L.length ≤ 40) : ∃ es,Ev (fun k => w5_Elems.f k l0 l1 l2 l3 L) es ∧ es.length ≤ 46:=by
 have hlen : ([(⟨0,0,0⟩ : SElem)] ++ l1).length = 1 + l1.length:=by rw [List.length_append,List.length_singleton]
 obtain ⟨es,h1,h2⟩:=El_l0 L hL L.length 0 (if (([(⟨0,0,0⟩ : SElem)] ++ l1).length : Int) > 6 then ([(⟨0,0,0⟩ : SElem)] ++ l1).take 6 else [(⟨0,0,0⟩ : SElem)] ++ l1) (Nat.zero_add _) (by
  split
  ·rw [List.length_take]; omega
  ·omega)
 refine ⟨es,Ev.congr (f:=fun k => w5_Elems.j0 k L (if (([(⟨0,0,0⟩ : SElem)] ++ l1).length : Int) > 6 then ([(⟨0,0,0⟩ : SElem)] ++ l1).take 6 else [(⟨0,0,0⟩ : SElem)] ++ l1)) (fun k => ?_) (Ev.step (fun k => by simp only [w5_Elems.j0]; rfl) h1),h2⟩
 unfold w5_Elems.f
 simp only [Option.bind_some]
 rw [if_pos (by rw [List.length_singleton]; omega)]
 by_cases h6 : (([(⟨0,0,0⟩ : SElem)] ++ l1).length : Int) > 6
 ·rw [if_pos h6,if_pos (by omega),if_pos h6]; rfl
 ·rw [if_neg h6,if_neg h6]
section
variable {l0 : List (List SOp)} {l1 : List SElem} {l2 : List SOp} {l3 : List Int}
theorem CU_l1 {L M : List SOp} {es : List SElem} (hes : es.length ≤ 46) (x3 : Int) (hP : ∀ e : SElem,∃ n c : Int,caret_Place.f L e.f0 e.f1 e.f2 = some (n,c) ∧ caret_Place.f M e.f0 e.f1 e.f2 = some (n,c))
  (hnext : Ev (fun k => w11_CaretUndoes.l0 k (wrap64 (x3 + 1)) l0 l1 l2 l3) true) : ∀ d i,i + d = es.length → Ev (fun k => w11_CaretUndoes.l1 k x3 L M es (i : Int) l0 l1 l2 l3) true
 | 0,i,hi => by
  refine Ev.step (fun k => ?_) hnext
  simp only [w11_CaretUndoes.l1]
  rw [if_neg (by omega)]
 | d + 1,i,hi => by
  have ih:=CU_l1 hes x3 hP hnext d (i + 1) (by omega)
  obtain ⟨n,c,e1,e2⟩:=hP (Qaa es (i : Int))
  refine Ev.step (fun k => ?_) ih
  simp only [w11_CaretUndoes.l1]
  rw [if_pos (by omega),if_pos (by omega),e1,Option.bind_some,e2,Option.bind_some]
  simp only [num11_f,Option.bind_some]
  rw [if_pos True.intro,if_pos True.intro,Qdh (show i < es.length by omega) (by omega)]
theorem CU_j2 (hn1 : l1.length ≤ 900) (hn3 : l3.length ≤ 900) {L : List SOp} (h : RowOk L) (ht : Tiny L) {i : Nat} (hi : i < 4) (b : Bool) (hb : b = ((L.length : Int) == 0))
  (hnext : Ev (fun k => w11_CaretUndoes.l0 k (wrap64 ((i : Int) + 1)) l0 l1 l2 l3) true) : Ev (fun k => w11_CaretUndoes.j2 k (i : Int) L b l0 l1 l2 l3) true:=by
 have h40:=h.sums.1
 cases b
 ·have hz : ¬ (L.length : Int) = 0:=by intro e; rw [e] at hb; simp at hb
  have w1 : wrap64 ((i : Int) + (l3.length : Int)) = (i : Int) + (l3.length : Int):=Qaj (by omega) (by omega)
  have q:=tmod_in (a:=wrap64 ((i : Int) + (l3.length : Int))) (by rw [w1]; omega) hz
  have hsL:=ht.smalls (by omega)
  refine Ev.step (fun k => by simp only [w11_CaretUndoes.j2]; rw [if_neg (by decide),if_neg hz,if_pos q.1,if_pos q.2]) ?_
  generalize Int.tmod (wrap64 ((i : Int) + (l3.length : Int))) (L.length : Int) = x
  generalize Qad L x = o
  rcases Toggle_ev h ht 1 o.f0 o.f1 with ⟨c,hc,hE⟩ | ⟨hE,hr1⟩
  ·refine Ev.bind hE ?_
   simp only [if_neg hc]
   exact hnext
  ·have ht1:=ht.snoc (togC_tiny 1 ((Qbj L 1 + 1 : Nat) : Int) o.f0 o.f1 (cntR L o.f0 o.f1))
   have hB1:=Behind_ev L (by omega) (fun o ho => by have:=(ht o ho).2; omega) (togC 1 ((Qbj L 1 + 1 : Nat) : Int) o.f0 o.f1 (cntR L o.f0 o.f1)) (Nat.zero_le _)
   have h41:=hr1.sums.1
   refine Ev.bind hE ?_
   simp only [if_true]
   refine Ev.bind hB1 ?_
   rcases Toggle_ev hr1 ht1 2 o.f0 o.f1 with ⟨c,hc,hE2⟩ | ⟨hE2,hr2⟩
   ·refine Ev.bind hE2 ?_
    simp only [if_neg hc]
    exact hnext
   ·generalize hq2 : ((Qbj (L ++ [togC 1 ((Qbj L 1 + 1 : Nat) : Int) o.f0 o.f1 (cntR L o.f0 o.f1)]) 2 + 1 : Nat) : Int) = q2 at hE2 hr2
    have ht2:=ht1.snoc (togC_tiny 2 q2 o.f0 o.f1 (cntR (L ++ [togC 1 ((Qbj L 1 + 1 : Nat) : Int) o.f0 o.f1 (cntR L o.f0 o.f1)]) o.f0 o.f1))
    have hB2:=Behind_ev (L ++ [togC 1 ((Qbj L 1 + 1 : Nat) : Int) o.f0 o.f1 (cntR L o.f0 o.f1)]) (by omega) (fun o ho => by have:=(ht1 o ho).2; omega) (togC 2 q2 o.f0 o.f1 (cntR (L ++ [togC 1 ((Qbj L 1 + 1 : Nat) : Int) o.f0 o.f1 (cntR L o.f0 o.f1)]) o.f0 o.f1)) (Nat.zero_le _)
    have h42:=hr2.sums.1
    have hs2:=ht2.smalls (by omega)
    obtain ⟨es,hes,hel⟩:=Elems_some l0 l1 l2 l3 hn1 L h40
    refine Ev.bind hE2 ?_
    simp only [if_true]
    refine Ev.bind hB2 (Ev.bind hes ?_)
    refine CU_l1 hel (i : Int) (fun e => ?_) hnext _ 0 (Nat.zero_add _)
    obtain ⟨t1,t2⟩:=two_toggles h hr1 hr2 e
    have p1:=Place_ok hsL h e
    have p2:=Place_ok hs2 hr2 e
    rw [t1,t2] at p2
    cases hbw : (Qam e || Qcc L e)
    ·rw [hbw] at p1 p2; exact ⟨_,_,p1,p2⟩
    ·rw [hbw] at p1 p2; exact ⟨_,_,p1,p2⟩
 ·refine Ev.step (fun k => ?_) hnext
  simp only [w11_CaretUndoes.j2]
  rw [if_pos True.intro]
theorem CU_end (x : Int) : Ev (fun k => w11_CaretUndoes.j1 k x false l0 l1 l2 l3) true :=
 Ev.step (fun k => by simp only [w11_CaretUndoes.j1]; rw [if_neg (by decide)]) (Ev.bind (f:=fun _ t => some t) wakes11_ev (Ev.now _))
theorem CU_l0 (hg : GoodAsk l0 l1 l2 l3) (hsm : ∀ x ∈ l0,x.length ≤ 900 ∧ Tiny x) (hn1 : l1.length ≤ 900) (hn3 : l3.length ≤ 900) : ∀ d i,i + d = l0.length → Ev (fun k => w11_CaretUndoes.l0 k (i : Int) l0 l1 l2 l3) true
 | 0,i,h => by
  refine Ev.step (fun k => ?_) (CU_end (l0:=l0) (l1:=l1) (l2:=l2) (l3:=l3) (i : Int))
  simp only [w11_CaretUndoes.l0]; rw [if_neg (by omega)]
 | d + 1,i,h => by
  have ih:=CU_l0 hg hsm hn1 hn3 d (i + 1) (by omega)
  have hn0:=hg.n0
  have hlt : i < l0.length:=by omega
  have hw : wrap64 ((i : Int) + 1) = ((i + 1 : Nat) : Int):=Qdh hlt (by omega)
  by_cases h4 : (i : Int) < 4
  ·obtain ⟨hn,ht⟩:=hsm _ (List.getElem_mem hlt)
   have hR:=Row_ev l0[i] (ht.smL (by omega))
   refine Ev.step (f:=fun k => w11_CaretUndoes.j1 k (i : Int) true l0 l1 l2 l3) (fun k => ?_) ?_
   ·simp only [w11_CaretUndoes.l0]; rw [if_pos (by omega),decide_eq_true h4]
   ·refine Ev.step (fun k => by simp only [w11_CaretUndoes.j1]; rw [if_pos True.intro,if_pos (by omega),if_pos (by omega),rd_LOp_nat _ _ hlt]) (Ev.bind hR ?_)
    cases hm : mayB l0[i]
    ·simp only [Bool.false_eq_true,if_false]
     refine Ev.step (fun k => ?_) ih
     simp only [w11_CaretUndoes.j2]
     rw [if_pos True.intro,hw]
    ·have hr:=(Qdi _).1 hm
     simp only [if_true]
     exact CU_j2 hn1 hn3 hr ht (by omega) _ rfl (by rw [hw]; exact ih)
  ·refine Ev.step (fun k => ?_) (CU_end (l0:=l0) (l1:=l1) (l2:=l2) (l3:=l3) (i : Int))
   simp only [w11_CaretUndoes.l0]; rw [if_pos (by omega),decide_eq_false h4]
end
theorem PureCaretUndoes (l0 : List (List SOp)) (l1 : List SElem) (l2 : List SOp) (l3 : List Int) (hg : GoodAsk l0 l1 l2 l3) : ∃ k,w11_CaretUndoes.f k l0 l1 l2 l3 = some true:=by
 obtain ⟨b,hb,hsm⟩:=Heavy_small2 hg
 refine Ev.rounds (Ev.bind (f:=fun k t => if t = true then some true else w11_CaretUndoes.l0 k 0 l0 l1 l2 l3) hb ?_)
 cases b
 ·obtain ⟨k1,k2,k3⟩:=hsm rfl
  exact Ev.congr (fun k => if_neg (by decide)) (CU_l0 hg k1 k2 k3 _ 0 (Nat.zero_add _))
 ·exact Ev.congr (fun k => if_pos rfl) (Ev.now true)
end
end Go.Proofs.YtonoaflfobajcaaDoor.L
end
