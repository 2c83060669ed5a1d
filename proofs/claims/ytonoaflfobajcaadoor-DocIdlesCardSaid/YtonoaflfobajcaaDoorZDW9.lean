/- Part 9 of the proof that for every argument the laws DocWrites, DocGoes, DocUndoes and DocIdles answer true: with more and more that is written, that goes, that is toggled, or that is toggled idly, a row's text and its visible elements are the page's. -/
import Derived.Test.YtonoaflfobajcaaDoorZDW8
import Derived.Lib.SliceRun
section
namespace Go.Proofs.YtonoaflfobajcaaDoor.L
open Go.RowKit Go.Proofs.YtonoaflfobajcaaDoorW.PrintWords Go.Proofs.YtonoaflfobajcaaDoorW.PrintLast Go.Proofs.YtonoaflfobajcaaDoorW.PrintMore
attribute [local go_sem] max2_int min2_int max_two min_two max_three min_three max_four min_four
set_option linter.unusedVariables false
set_option linter.unusedSimpArgs false
mutual
def r4_Visible.l0 : Nat → List (SOp) → List Bool → Int → Option ((List (SElem)))
 | 0,_,_,_ => none
 | k + 1,x0,x3,x4 => if x4 < (x0.length : Int) then (if 0 ≤ x4 then (if ((rd_Op x0 x4).f2) = 1 then ((r4_Effective.f k x0 ((rd_Op x0 x4).f0) ((rd_Op x0 x4).f1)).bind fun t301 => (if x4 < (x3.length : Int) then (r4_Visible.l0 k x0 (x3.set (x4 : Int).toNat t301) (wrap64 (x4 + 1))) else (none))) else (if x4 < (x3.length : Int) then (r4_Visible.l0 k x0 (x3.set (x4 : Int).toNat false) (wrap64 (x4 + 1))) else (none))) else (none)) else ((r4_Order.f k x0).bind fun t304 => (r4_Visible.l1 k x0 x3 ([] : List (SElem)) t304 0))
def r4_Visible.l1 : Nat → List (SOp) → List Bool → List (SElem) → List (SElem) → Int → Option ((List (SElem)))
 | 0,_,_,_,_,_ => none
 | k + 1,x0,x3,x5,x6,x7 => if x7 < (x6.length : Int) then (if 0 ≤ x7 then ((r4_Find.f k x0 ((rd_Elem x6 x7).f0) ((rd_Elem x6 x7).f1)).bind fun t309 => (if 0 ≤ t309 then (if t309 < (x3.length : Int) then (r4_Visible.l2 k x0 x3 x5 x6 x7 (rdOf false x3 t309) 0) else (none)) else (none))) else (none)) else (some x5)
def r4_Visible.l2 : Nat → List (SOp) → List Bool → List (SElem) → List (SElem) → Int → Bool → Int → Option ((List (SElem)))
 | 0,_,_,_,_,_,_,_ => none
 | k + 1,x0,x3,x5,x6,x7,x8,x9 => if x9 < (x0.length : Int) then (if x8 = true then (if 0 ≤ x9 then (if x9 < (x3.length : Int) then (if rdOf false x3 x9 = true then (if 0 ≤ x7 then (if x7 < (x6.length : Int) then ((r0_At.f k ((rd_Op x0 x9).f5) ((rd_Elem x6 x7).f0) ((rd_Elem x6 x7).f1) ((rd_Elem x6 x7).f2)).bind fun t314 => (r4_Visible.l2 k x0 x3 x5 x6 x7 (decide (t314 < 0)) (wrap64 (x9 + 1)))) else (none)) else (none)) else (r4_Visible.l2 k x0 x3 x5 x6 x7 true (wrap64 (x9 + 1)))) else (none)) else (none)) else (r4_Visible.l1 k x0 x3 x5 x6 (wrap64 (x7 + 1)))) else (if x8 = true then (if 0 ≤ x7 then (if x7 < (x6.length : Int) then (if x5.length < 5864062014805 then (r4_Visible.l1 k x0 x3 (x5 ++ [(⟨(rd_Elem x6 x7).f0,(rd_Elem x6 x7).f1,(rd_Elem x6 x7).f2⟩ : SElem)]) x6 (wrap64 (x7 + 1))) else (none)) else (none)) else (none)) else (r4_Visible.l1 k x0 x3 x5 x6 (wrap64 (x7 + 1))))
end
def r4_Visible.f (k : Nat) (l0 : List (SOp)) : Option ((List (SElem))):=if 0 ≤ (l0.length : Int) then (if ((l0.length : Int) : Int).toNat ≤ 281474976710656 then (r4_Visible.l0 k l0 (List.replicate ((l0.length : Int) : Int).toNat false) 0) else (none)) else (none)
def r4_Visible.T5 : Bool × List (List Nat × List Nat):=(true,[([],[]),([],[]),([],[]),([],[]),([2,3],[2,3]),([4],[4]),([5],[5]),([6],[6]),([7],[7]),([8],[8]),([8],[8]),([8],[8]),([10,11,8],[8,10,11]),([12,8],[8,12]),([13,8],[8,13]),([8],[8]),([8],[8]),([15,16,8],[8,15,16]),([17,8],[8,17]),([18,8],[8,18]),([9,14,19,8,8],[8,9,14,19]),([8,20],[8,20]),([0,1,0,1,2,3,4,5,6,7,8,9,10,11,12,13,14,15,16,17,18,19,20,21],[0,1]),([22,21,20,0,1,2,3,4,5,6,7,8,9,10,11,12,13,14,15,16,17,18,19,20,21],[21,22])])
def r4_Visible.B5 : List Nat:=[0,0,0,0,12,28,60,124,252,508,508,508,3580,7676,15868,508,508,98812,229884,492028,1048572,2097148,4194303,8388607]
theorem r4_Visible.tab5 : rtab .any (opsOf Tryd.f31 5) = r4_Visible.T5:=by kernel_rfl
theorem r4_Visible.bits5 : waitsOk r4_Visible.T5.2 r4_Visible.B5 = true:=by kernel_rfl
def r4_Visible.T11 : Bool × List (List Nat × List Nat):=(true,[([],[]),([],[]),([],[]),([],[]),([2,3],[2,3]),([4],[4]),([5],[5]),([],[]),([],[]),([7,8],[7,8]),([9],[9]),([10],[10]),([1,6,11],[1,6,11]),([0,12],[0,12]),([13],[13]),([14,12,0,1,2,3,4,5,6,7,8,9,10,11,12,13,14],[14])])
def r4_Visible.B11 : List Nat:=[0,0,0,0,12,28,60,0,0,384,896,1920,4094,8191,16383,32767]
theorem r4_Visible.tab11 : rtab .any (opsOf Tryd.f31 11) = r4_Visible.T11:=by kernel_rfl
theorem r4_Visible.bits11 : waitsOk r4_Visible.T11.2 r4_Visible.B11 = true:=by kernel_rfl
def r4_Visible.T15 : Bool × List (List Nat × List Nat):=(true,[([],[]),([],[]),([0,1],[0,1]),([2],[2]),([3],[3]),([4],[4]),([5],[5]),([5],[5]),([6,7,5],[5,6,7]),([8,5],[5,8]),([9,5],[5,9]),([5],[5]),([5],[5]),([11,12,5],[5,11,12]),([13,5],[5,13]),([10,14,5,5],[5,10,14]),([15,5],[5,15]),([5,16],[5,16]),([17,15,0,1,2,3,4,5,6,7,8,9,10,11,12,13,14,15,16,17],[17])])
def r4_Visible.B15 : List Nat:=[0,0,3,7,15,31,63,63,255,511,1023,63,63,6207,14399,32767,65535,131071,262143]
theorem r4_Visible.tab15 : rtab .any (opsOf Tryd.f31 15) = r4_Visible.T15:=by kernel_rfl
theorem r4_Visible.bits15 : waitsOk r4_Visible.T15.2 r4_Visible.B15 = true:=by kernel_rfl
set_option maxHeartbeats 8000000 in
set_option maxRecDepth 100000 in
theorem r4_Visible.calls (k : Nat) (A0 : Option Addr) (c0 : Nat) (l0 : List (SOp)) (r : List (SElem)) (w : World) (hr0 : Kd.C kOp w A0 l0.length l0) (hc0 : l0.length ≤ c0) (hT : GT w) (h : r4_Visible.f k l0 = some r) :
  Calls Tryd.prog 31 #[.slice A0 l0.length c0] w fun e w' => ∃ v0_ : Value,e = .returned (v0_) ∧ Kd.R kElem 43 w' w.heap.size (fun _ => True) v0_ r ∧ Below w.heap.size w w':=by
 have hu43:=Tryd.underlying43
 have HR0:=Aside0.mk hr0
 have HC0:=Aside0.mk hc0
 clear hr0 hc0
 have HB:=Aside0.mk (Below.refl w.heap.size w)
 unfold r4_Visible.f at h; have H:=h
 clear h
 by_cases c2 : 0 ≤ (l0.length : Int); rotate_left
 ·rw [if_neg c2] at H
  exact absurd H (by simp)
 rw [if_pos c2] at H
 have c2b0:=eq_true c2
 have c2b1:=decide_eq_true c2
 clear c2
 by_cases c3 : ((l0.length : Int) : Int).toNat ≤ 281474976710656; rotate_left
 ·rw [if_neg c3] at H
  exact absurd H (by simp)
 rw [if_pos c3] at H
 have c3b0:=eq_true c3
 have c3b1:=decide_eq_true c3
 clear c3
 obtain ⟨y295,hy295⟩ : ∃ y_ : List Bool,y_ = (List.replicate ((l0.length : Int) : Int).toNat false):=⟨_,rfl⟩
 first | rw [Option.bind_some,← hy295] at H | rw [← hy295] at H
 have Ny295:=Aside0.mk hy295
 clear hy295
 have H':=Aside0.mk H
 clear H
 go_enter Tryd.func31,Tryd.ntmps31
 go_wp2_with (first | ((with_reducible refine gate_dst (N:=12) rfl ?_); refine Kd.R_make Kd.bool _ 4 rfl (N:=12) rfl 85 _ _ rfl (l0.length : Int) rfl rfl Tryd.underlying85 (.bool false) 1 info4 rfl (by decide) (by omega) false (ok:=fun _ => True) (okp:=fun _ => True) rfl (fun _ hk => hk) trivial (od) (Nat.le_trans (Nat.mul_le_mul_right _ (od : (l0.length : Int).toNat ≤ 281474976710656)) (by omega)) (Below.refl _ _) (Nat.le_refl _) ?_; intro v296 w4 ho5 hb hg_ hnew_; clear hg_ hnew_; (first | rw [← Ny295.out] at ho5 | (simp only [Int.reduceToNat] at ho5; rw [← Ny295.out] at ho5)); have HO297:=Aside0.mk (Kd.R_lower ho5 (below_size (bw HB))); replace HB:=bs HB hb; clear hb ho5))
 go_loopg [4] k (fun kq v4 w' => ∃ (x3_1 : List Bool) (x4_1 : Int),v4 = .int .i64 x4_1 ∧ Aside0 (r4_Visible.l0 kq l0 x3_1 x4_1 = some r) ∧ Aside0 (kq ≤ k) ∧ Aside0 (Kd.R Kd.bool 4 w' w.heap.size (fun _ => True) v296 x3_1) ∧ Aside0 (Below w.heap.size w w'))
 case atStart => exact ⟨(y295),(0),rf,H',⟨Nat.le_refl _⟩,⟨rk HO297⟩,⟨bw HB⟩⟩
 case round =>
  clear H'
  try clear c2b0; try clear c2b1; try clear c3b0; try clear c3b1
  obtain ⟨x3_1,x4_1,rfl,HA,HK1,HO_3,HB⟩:=hrel
  cases gk with
  | zero => exact absurd HA.out (by simp [r4_Visible.l0])
  | succ k1 =>
   have H:=HA.out
   clear HA
   simp only [r4_Visible.l0] at H
   by_cases c6 : x4_1 < (l0.length : Int); rotate_left
   ·rw [if_neg c6] at H
    have c6b0:=decide_eq_false c6
    clear c6
    obtain ⟨t304,A18,H⟩:=bE H
    have H':=Aside0.mk H
    clear H
    go_wp2_with (first | ((with_reducible refine gate_callee (f:=17) rfl ?_); refine gl (some 43) Tryd.func17 #[.slice A0 l0.length c0] (h := ?_); (with_reducible refine (r4_Order.calls k1 _ _ l0 t304 _ ?side1 ?side2 ?side3 A18.out).mono ?_); (case side1 => exact cb HR0 HB); (case side2 => exact HC0.out); (case side3 => exact (hT.below (bw HB))); rintro e w19 ⟨v305,rfl,ho0,hb⟩; refine ⟨_,rfl, ?_⟩; have HO306:=Aside0.mk (Kd.R_lower ho0 (below_size (bw HB))); replace HO_3:=rb HO_3 hb; replace HB:=bs HB hb; clear hb; clear ho0))
    go_loopg [5,7] k1 (fun kq v5 v7 w' => ∃ (x5_2 : List (SElem)) (x7_2 : Int),v7 = .int .i64 x7_2 ∧ Aside0 (r4_Visible.l1 kq l0 x3_1 x5_2 t304 x7_2 = some r) ∧ Aside0 (kq ≤ k1) ∧ Aside0 (Kd.R Kd.bool 4 w' w.heap.size (fun _ => True) v296 x3_1) ∧ Aside0 (Kd.R kElem 43 w' w.heap.size (fun k_ => some k_ ≠ (v305 : Value).ownBlock) v5 x5_2) ∧ Aside0 (Kd.R kElem 43 w' w.heap.size (fun k_ => some k_ ≠ (v5 : Value).ownBlock) v305 t304) ∧ Aside0 (Below w.heap.size w w'))
    case atStart => exact ⟨(([] : List (SElem))),(0),rf,H',⟨Nat.le_refl _⟩,⟨rk HO_3⟩,⟨by first | exact Kd.R_nil _ _ _ _ _ | exact Kd.N_nil _ _ _ _ _ | exact Kd.V_nil _ _ _ _ _ | exact Kd.Q_nil _ _ _ _ _ | exact Kd.S_nil _ _ _ _ _⟩,⟨by (with_reducible repeat (first | apply Kd.R_alloc | apply Kd.R_drewN | apply Kd.R_drew)); exact Kd.R_mono HO306.out (fun _ hk => (by simp [Value.ownBlock]))⟩,⟨bw HB⟩⟩
    case round =>
     clear H'
     try clear c6b0
     obtain ⟨x5_2,x7_2,rfl,HA,HK2,HO_3,HO_5,HO_6,HB⟩:=hrel
     cases gk with
     | zero => exact absurd HA.out (by simp [r4_Visible.l1])
     | succ k2 =>
      have H:=HA.out
      clear HA
      simp only [r4_Visible.l1] at H
      by_cases c20 : x7_2 < (t304.length : Int); rotate_left
      ·rw [if_neg c20] at H
       have c20b0:=decide_eq_false c20
       clear c20
       obtain rfl:=Option.some.inj H
       obtain ⟨Ao45,co45,eo45⟩:=Kd.R_slice HO_6.out
       subst eo45
       go_wp2
       go_ret
       exact ⟨_,re,by (with_reducible repeat (first | apply Kd.R_alloc | apply Kd.R_drewN | apply Kd.R_drew)); exact Kd.R_mono HO_5.out (fun _ hk => trivial),bw HB⟩
      rw [if_pos c20] at H
      have c20b0:=decide_eq_true c20
      clear c20
      by_cases c21 : 0 ≤ x7_2; rotate_left
      ·rw [if_neg c21] at H
       exact absurd H (by simp)
      rw [if_pos c21] at H
      have c21b0:=decide_eq_true c21
      clear c21
      obtain ⟨t309,A22,H⟩:=bE H
      by_cases c23 : 0 ≤ t309; rotate_left
      ·rw [if_neg c23] at H
       exact absurd H (by simp)
      rw [if_pos c23] at H
      have c23b0:=decide_eq_true c23
      clear c23
      by_cases c24 : t309 < (x3_1.length : Int); rotate_left
      ·rw [if_neg c24] at H
       exact absurd H (by simp)
      rw [if_pos c24] at H
      have c24b0:=decide_eq_true c24
      clear c24
      have H':=Aside0.mk H
      clear H
      obtain ⟨Ao25,co25,eo25⟩:=Kd.R_slice HO_6.out
      subst eo25
      try go_wp2
      have n0_:=Aside0.mk (Kd.R_drew HO_3.out)
      have n1_:=Aside0.mk (Kd.R_drew HO_5.out)
      have n2_:=Aside0.mk (Kd.R_drew HO_6.out)
      have n3_:=Aside0.mk (below_drew1 HB.out)
      clear HO_3
      clear HO_5
      clear HO_6
      clear HB
      have HO_3:=n0_
      have HO_5:=n1_
      have HO_6:=n2_
      have HB:=n3_
      clear n0_ n1_ n2_ n3_
      have p307 : 0 ≤ (x7_2 : Int):=od
      have q307 : x7_2 < (t304.length : Int):=od
      obtain ⟨ad307,e307,hx307_0,hx307_1,hx307_2⟩:=at_Elem (Kd.R_reads' HO_6.out).2.2 x7_2 p307 q307
      cases e307
      replace p307:=eq_true p307
      replace q307:=eq_true q307
      obtain ⟨Aw_,cw_,ew_⟩:=Kd.R_slice HO_3.out; subst ew_
      have p310 : 0 ≤ (t309 : Int):=od
      have q310 : t309 < (x3_1.length : Int):=od
      obtain ⟨ad310,e310,hx310_0⟩:=Kd.at_bool (Kd.R_reads' HO_3.out).2.2 t309 p310 q310
      cases e310
      replace p310:=eq_true p310
      replace q310:=eq_true q310
      refine stP (fun w' => w'.cell? (ad307.add ((x7_2).toNat * 3)) = some (.int .i64 ((rd_Elem t304 x7_2).f0)) ∧ w'.cell? ⟨(ad307.add ((x7_2).toNat * 3)).block,(ad307.add ((x7_2).toNat * 3)).off + 1,none⟩ = some (.int .i64 ((rd_Elem t304 x7_2).f1)) ∧ w'.cell? ⟨(ad307.add ((x7_2).toNat * 3)).block,(ad307.add ((x7_2).toNat * 3)).off + 2,none⟩ = some (.int .i64 ((rd_Elem t304 x7_2).f2)) ∧ w'.cell? (ad310.add (t309).toNat) = some (.bool (rdOf false x3_1 t309))) 16 ⟨hx307_0,hx307_1,hx307_2,hx310_0⟩ (h:=fun hHeld => ?_); refine with_tabW r4_Visible.tab11 r4_Visible.bits11 (fun HT_ HW_ => ?_)
      generalize wr.drew = w26 at HO_3 HO_5 HO_6 HB hx307_0 hx307_1 hx307_2 hx307_0 hx307_1 hx307_2 hx310_0 hHeld ⊢
      refine pu HT_ 0 50 1 (h := ?_)
      refine pu HT_ 1 51 3 (h := ?_)
      refine pu HT_ 2 52 7 (h := ?_)
      refine pu HT_ 3 53 15 (h := ?_)
      refine pu HT_ 4 54 31 (h := ?_)
      refine pu HT_ 5 55 63 (h := ?_)
      refine pu HT_ 7 57 191 (h := ?_)
      refine pu HT_ 8 58 447 (h := ?_)
      refine pu HT_ 9 59 959 (h := ?_)
      refine pu HT_ 10 60 1983 (h := ?_)
      refine tk HT_ HW_ hHeld 6 56 2047 (h := ?_)
      refine tk HT_ HW_ hHeld 11 61 4095 (h := ?_)
      refine on HT_ 12 (some 62) 8191 (h:=fun K hK => ?_)
      refine gS Tryd.func76 #[.slice A0 l0.length c0, .int .i64 ((rd_Elem t304 x7_2).f0), .int .i64 ((rd_Elem t304 x7_2).f1)] (h := ?_)
      with_reducible refine (r4_Find.calls k2 _ _ l0 ((rd_Elem t304 x7_2).f0) ((rd_Elem t304 x7_2).f1) t309 _ ?side1 ?side2 A22.out).mono ?_
      (case side1 => exact cb HR0 HB)
      (case side2 => exact HC0.out)
      rintro e w' ⟨rfl,⟨nd,rfl⟩⟩
      refine ⟨_,rfl, ?_⟩
      obtain ⟨Ao27,co27,eo27⟩:=Kd.R_slice HO_3.out
      (first | subst eo27 | (injection eo27 with f1_ f2_ f3_; have f4_:=f1_.symm; have f5_:=f3_.symm; clear f1_ f2_ f3_; subst f4_; subst f5_))
      refine hK.out _ _ ⟨hHeld.1,hHeld.2.1,hHeld.2.2.1,hHeld.2.2.2⟩ (fun hHeld => ?_)
      clear hK K
      refine nn 62 (h := ?_)
      refine pu HT_ 13 63 16383 (h := ?_)
      refine tk HT_ HW_ hHeld 14 64 32767 (h := ?_)
      refine pu HT_ 15 8 65535 (h := ?_)
      refine dn HT_ (h := ?_)
      try go_wp2
      go_loopg [8,9] k2 (fun kq v8 v9 w' => ∃ (x8_3 : Bool) (x9_3 : Int),v8 = .bool x8_3 ∧ v9 = .int .i64 x9_3 ∧ Aside0 (r4_Visible.l2 kq l0 x3_1 x5_2 t304 x7_2 x8_3 x9_3 = some r) ∧ Aside0 (kq ≤ k2) ∧ Aside0 (Kd.R Kd.bool 4 w' w.heap.size (fun _ => True) (.slice (some ad310) x3_1.length co27) x3_1) ∧ Aside0 (Kd.R kElem 43 w' w.heap.size (fun k_ => some k_ ≠ ((.slice (some ad307) t304.length co25) : Value).ownBlock) u5 x5_2) ∧ Aside0 (Kd.R kElem 43 w' w.heap.size (fun k_ => some k_ ≠ (u5 : Value).ownBlock) (.slice (some ad307) t304.length co25) t304) ∧ Aside0 (Below w.heap.size w w'))
      case atStart => exact ⟨(rdOf false x3_1 t309),(0),rf,rf,H',⟨Nat.le_refl _⟩,⟨rk HO_3⟩,⟨rk HO_5⟩,⟨rk HO_6⟩,⟨bw HB⟩⟩
      case round =>
       clear H'
       try clear c20b0; try clear c21b0; try clear c23b0; try clear c24b0; try clear hx307_0; try clear hx307_1; try clear hx307_2; try clear hx307_0; try clear hx307_1; try clear hx307_2; try clear hx310_0; try clear p307; try clear p307; try clear p310; try clear q307; try clear q307; try clear q310
       obtain ⟨x8_3,x9_3,rfl,rfl,HA,HK3,HO_3,HO_5,HO_6,HB⟩:=hrel
       cases gk with
       | zero => exact absurd HA.out (by simp [r4_Visible.l2])
       | succ k3 =>
        have H:=HA.out
        clear HA
        simp only [r4_Visible.l2] at H
        by_cases c28 : x9_3 < (l0.length : Int); rotate_left
        ·rw [if_neg c28] at H
         have c28b0:=decide_eq_false c28
         clear c28
         by_cases c40 : x8_3 = true; rotate_left
         ·replace c40:=Bool.eq_false_iff.mpr c40
          subst c40
          rw [if_neg nft] at H
          have H':=Aside0.mk H
          clear H
          go_wp2
          go_roundg k3
          case measure => have:=HK1.out; have:=HK2.out; have:=HK3.out; omega
          case rel => exact ⟨(x5_2),(wrap64 (x7_2 + 1)),rf,H',⟨by have:=HK1.out; have:=HK2.out; have:=HK3.out; omega⟩,⟨rk HO_3⟩,⟨rk HO_5⟩,⟨rk HO_6⟩,⟨bw HB⟩⟩
         subst c40
         rw [if_pos rfl] at H
         by_cases c41 : 0 ≤ x7_2; rotate_left
         ·rw [if_neg c41] at H
          exact absurd H (by simp)
         rw [if_pos c41] at H
         have c41b0:=decide_eq_true c41
         clear c41
         by_cases c42 : x7_2 < (t304.length : Int); rotate_left
         ·rw [if_neg c42] at H
          exact absurd H (by simp)
         rw [if_pos c42] at H
         have c42b0:=decide_eq_true c42
         clear c42
         by_cases c43 : x5_2.length < 5864062014805; rotate_left
         ·rw [if_neg c43] at H
          exact absurd H (by simp)
         rw [if_pos c43] at H
         have LMc43:=Aside0.mk c43
         clear c43
         obtain ⟨y316,hy316⟩ : ∃ y_ : List (SElem),y_ = (x5_2 ++ [(⟨(rd_Elem t304 x7_2).f0,(rd_Elem t304 x7_2).f1,(rd_Elem t304 x7_2).f2⟩ : SElem)]):=⟨_,rfl⟩
         first | rw [Option.bind_some,← hy316] at H | rw [← hy316] at H
         have Ny316:=Aside0.mk hy316
         clear hy316
         have H':=Aside0.mk H
         clear H
         have p315 : 0 ≤ (x7_2 : Int):=od
         have q315 : x7_2 < (t304.length : Int):=od
         obtain ⟨ad315,e315,hx315_0,hx315_1,hx315_2⟩:=at_Elem (Kd.R_reads' HO_6.out).2.2 x7_2 p315 q315
         obtain rfl : ad307 = ad315:=(by injection e315)
         replace p315:=eq_true p315
         replace q315:=eq_true q315
         go_wp2_with (first | ((with_reducible refine gate_builtin (b:=.append) (xs:=#[.tmp 93, .tmp 98]) rfl ?_); at_builtin; refine Kd.R_append kElem (w0:=w) w.heap.size rfl (.tmp 93) (.tmp 98) 23 43 (.agg #[(.int .i64 0),(.int .i64 0),(.int .i64 0)]) 24 rfl Tryd.underlying23 info43 rfl (by decide) (by omega) u5 x5_2 (⟨(rd_Elem t304 x7_2).f0,(rd_Elem t304 x7_2).f1,(rd_Elem t304 x7_2).f2⟩ : SElem) [.int .i64 ((rd_Elem t304 x7_2).f0), .int .i64 ((rd_Elem t304 x7_2).f1), .int .i64 ((rd_Elem t304 x7_2).f2)] (fun k_ => some k_ ≠ (.slice (some ad307) t304.length co25 : Value).ownBlock) (fun _ => False) rfl rfl ?aP (fun _ hk => hk.elim) ?aF ?aO ?aB ?aS ?aL ?_; (case aP => exact kElem_mkM _ _ _ (⟨(rd_Elem t304 x7_2).f0,(rd_Elem t304 x7_2).f1,(rd_Elem t304 x7_2).f2⟩ : SElem)); (case aB => exact (bw HB)); (case aF => exact (fun k_ hk => Kd.fresh' (Kd.R_lt (rk HO_6)) k_ hk)); (case aO => exact (rk HO_5)); (case aS => exact (below_size (bw HB))); (case aL => have:=LMc43.out; omega); intro v317 w44 ho hb hg hat; rw [← Ny316.out] at ho; have n0_:=Aside0.mk (Kd.R_over' (rk HO_3) (Kd.R_typed (rk HO_5)) (by decide) hg); have n1_:=Aside0.mk (Kd.R_after (ok:=(fun _ => True)) (by (with_reducible repeat (first | apply Kd.R_alloc | apply Kd.R_drewN | apply Kd.R_drew)); exact Kd.R_mono HO_6.out (fun _ hk => ⟨trivial,hk⟩)) hg hat); have n2_:=Aside0.mk (hb); have n3_:=Aside0.mk (ho); clear HO_3; clear HO_6; clear HB; clear HO_5; have HO_3:=n0_; have HO_6:=n1_; have HB:=n2_; have HO318:=n3_; clear n0_ n1_ n2_ n3_; clear ho hb hg hat))
         go_roundg k3
         case measure => have:=HK1.out; have:=HK2.out; have:=HK3.out; omega
         case rel => exact ⟨(y316),(wrap64 (x7_2 + 1)),rf,H',⟨by have:=HK1.out; have:=HK2.out; have:=HK3.out; omega⟩,⟨rk HO_3⟩,⟨rk HO318⟩,⟨by (with_reducible repeat (first | apply Kd.R_alloc | apply Kd.R_drewN | apply Kd.R_drew)); exact Kd.R_mono HO_6.out (fun _ hk => hk.2)⟩,⟨bw HB⟩⟩
        rw [if_pos c28] at H
        have c28b0:=decide_eq_true c28
        clear c28
        by_cases c29 : x8_3 = true; rotate_left
        ·replace c29:=Bool.eq_false_iff.mpr c29
         subst c29
         rw [if_neg nft] at H
         have H':=Aside0.mk H
         clear H
         go_wp2
         go_roundg k3
         case measure => have:=HK1.out; have:=HK2.out; have:=HK3.out; omega
         case rel => exact ⟨(x5_2),(wrap64 (x7_2 + 1)),rf,H',⟨by have:=HK1.out; have:=HK2.out; have:=HK3.out; omega⟩,⟨rk HO_3⟩,⟨rk HO_5⟩,⟨rk HO_6⟩,⟨bw HB⟩⟩
        subst c29
        rw [if_pos rfl] at H
        by_cases c30 : 0 ≤ x9_3; rotate_left
        ·rw [if_neg c30] at H
         exact absurd H (by simp)
        rw [if_pos c30] at H
        have c30b0:=decide_eq_true c30
        clear c30
        by_cases c31 : x9_3 < (x3_1.length : Int); rotate_left
        ·rw [if_neg c31] at H
         exact absurd H (by simp)
        rw [if_pos c31] at H
        have c31b0:=decide_eq_true c31
        clear c31
        obtain ⟨bq32,hbq32⟩ : ∃ b_ : Bool,b_ = (rdOf false x3_1 x9_3):=⟨_,rfl⟩
        replace H : (if bq32 = true then (if 0 ≤ x7_2 then (if x7_2 < (t304.length : Int) then ((r0_At.f k3 ((rd_Op l0 x9_3).f5) ((rd_Elem t304 x7_2).f0) ((rd_Elem t304 x7_2).f1) ((rd_Elem t304 x7_2).f2)).bind fun t314 => (r4_Visible.l2 k3 l0 x3_1 x5_2 t304 x7_2 (decide (t314 < 0)) (wrap64 (x9_3 + 1)))) else (none)) else (none)) else (r4_Visible.l2 k3 l0 x3_1 x5_2 t304 x7_2 true (wrap64 (x9_3 + 1)))) = some r:=by rw [← hbq32] at H; exact H
        have Nbq32:=Aside0.mk hbq32
        clear hbq32
        by_cases c33 : bq32 = true; rotate_left
        ·replace c33:=Bool.eq_false_iff.mpr c33
         subst c33
         rw [if_neg nft] at H
         have H':=Aside0.mk H
         clear H
         try go_wp2
         have n0_:=Aside0.mk (Kd.R_drew HO_3.out)
         have n1_:=Aside0.mk (Kd.R_drew HO_5.out)
         have n2_:=Aside0.mk (Kd.R_drew HO_6.out)
         have n3_:=Aside0.mk (below_drew1 HB.out)
         clear HO_3
         clear HO_5
         clear HO_6
         clear HB
         have HO_3:=n0_
         have HO_5:=n1_
         have HO_6:=n2_
         have HB:=n3_
         clear n0_ n1_ n2_ n3_
         have p311 : 0 ≤ (x9_3 : Int):=od
         have q311 : x9_3 < (x3_1.length : Int):=od
         obtain ⟨ad311,e311,hx311_0⟩:=Kd.at_bool (Kd.R_reads' HO_3.out).2.2 x9_3 p311 q311
         (try rw [← Nbq32.out] at hx311_0)
         obtain rfl : ad310 = ad311:=(by injection e311)
         replace p311:=eq_true p311
         replace q311:=eq_true q311
         refine stP (fun w' => w'.cell? (ad310.add (x9_3).toNat) = some (.bool false)) 19 (hx311_0) (h:=fun hHeld => ?_); refine with_tabW r4_Visible.tab15 r4_Visible.bits15 (fun HT_ HW_ => ?_)
         generalize wr.drew = w39 at HO_3 HO_5 HO_6 HB hx311_0 hHeld ⊢
         refine pu HT_ 0 74 1 (h := ?_)
         refine pu HT_ 1 75 3 (h := ?_)
         refine pu HT_ 2 76 7 (h := ?_)
         refine tk HT_ HW_ hHeld 3 77 15 (h := ?_)
         refine pu HT_ 4 78 31 (h := ?_)
         refine pu HT_ 5 79 63 (h := ?_)
         refine off HT_ 6 80 127 (h := ?_)
         refine off HT_ 7 81 255 (h := ?_)
         refine off HT_ 8 82 511 (h := ?_)
         refine off HT_ 9 83 1023 (h := ?_)
         refine off HT_ 10 84 2047 (h := ?_)
         refine off HT_ 11 85 4095 (h := ?_)
         refine off HT_ 12 86 8191 (h := ?_)
         refine off HT_ 13 87 16383 (h := ?_)
         refine off HT_ 14 88 32767 (h := ?_)
         refine off HT_ 15 89 65535 (h := ?_)
         refine off HT_ 16 90 131071 (h := ?_)
         refine pu HT_ 17 91 262143 (h := ?_)
         refine pu HT_ 18 8 524287 (h := ?_)
         refine dn HT_ (h := ?_)
         try go_wp2
         go_roundg k3
         case measure => have:=HK1.out; have:=HK2.out; have:=HK3.out; omega
         case rel => exact ⟨(true),(wrap64 (x9_3 + 1)),rf,rf,H',⟨by have:=HK1.out; have:=HK2.out; have:=HK3.out; omega⟩,⟨rk HO_3⟩,⟨rk HO_5⟩,⟨rk HO_6⟩,⟨bw HB⟩⟩
        subst c33
        rw [if_pos rfl] at H
        by_cases c34 : 0 ≤ x7_2; rotate_left
        ·rw [if_neg c34] at H
         exact absurd H (by simp)
        rw [if_pos c34] at H
        have c34b0:=decide_eq_true c34
        clear c34
        by_cases c35 : x7_2 < (t304.length : Int); rotate_left
        ·rw [if_neg c35] at H
         exact absurd H (by simp)
        rw [if_pos c35] at H
        have c35b0:=decide_eq_true c35
        clear c35
        obtain ⟨t314,A36,H⟩:=bE H
        have H':=Aside0.mk H
        clear H
        try go_wp2
        have n0_:=Aside0.mk (Kd.R_drew HO_3.out)
        have n1_:=Aside0.mk (Kd.R_drew HO_5.out)
        have n2_:=Aside0.mk (Kd.R_drew HO_6.out)
        have n3_:=Aside0.mk (below_drew1 HB.out)
        clear HO_3
        clear HO_5
        clear HO_6
        clear HB
        have HO_3:=n0_
        have HO_5:=n1_
        have HO_6:=n2_
        have HB:=n3_
        clear n0_ n1_ n2_ n3_
        have p311 : 0 ≤ (x9_3 : Int):=od
        have q311 : x9_3 < (x3_1.length : Int):=od
        obtain ⟨ad311,e311,hx311_0⟩:=Kd.at_bool (Kd.R_reads' HO_3.out).2.2 x9_3 p311 q311
        (try rw [← Nbq32.out] at hx311_0)
        obtain rfl : ad310 = ad311:=(by injection e311)
        replace p311:=eq_true p311
        replace q311:=eq_true q311
        have p312 : 0 ≤ (x9_3 : Int):=od
        have q312 : x9_3 < (l0.length : Int):=od
        obtain ⟨ad312,A312_7,c312_7,e312,hx312_0,hx312_1,hx312_2,hx312_3,hx312_4,hx312_5,hx312_6,hx312_7,hx312_8,hx312_9,hx312_10,hl312_7,hi312_7⟩:=at_Op HR0.out x9_3 p312 q312
        have hw312_10:=hx312_10
        have hw312_9:=hx312_9
        have hw312_8:=hx312_8
        have hw312_7:=hx312_7
        have hw312_6:=hx312_6
        have hw312_5:=hx312_5
        have hw312_4:=hx312_4
        have hw312_3:=hx312_3
        have hw312_2:=hx312_2
        have hw312_1:=hx312_1
        have hw312_0:=hx312_0
        cases e312
        replace hx312_0:=cl HB hx312_0
        replace hx312_1:=cl HB hx312_1
        replace hx312_2:=cl HB hx312_2
        replace hx312_3:=cl HB hx312_3
        replace hx312_4:=cl HB hx312_4
        replace hx312_5:=cl HB hx312_5
        replace hx312_6:=cl HB hx312_6
        replace hx312_7:=cl HB hx312_7
        replace hx312_8:=cl HB hx312_8
        replace hx312_9:=cl HB hx312_9
        replace hx312_10:=cl HB hx312_10
        have HR312_7:=Aside0.mk hi312_7
        have HC312_7:=Aside0.mk hl312_7
        clear hi312_7 hl312_7
        replace p312:=eq_true p312
        replace q312:=eq_true q312
        have p313 : 0 ≤ (x7_2 : Int):=od
        have q313 : x7_2 < (t304.length : Int):=od
        obtain ⟨ad313,e313,hx313_0,hx313_1,hx313_2⟩:=at_Elem (Kd.R_reads' HO_6.out).2.2 x7_2 p313 q313
        obtain rfl : ad307 = ad313:=(by injection e313)
        replace p313:=eq_true p313
        replace q313:=eq_true q313
        refine stP (fun w' => w'.cell? (ad310.add (x9_3).toNat) = some (.bool true) ∧ P11 w' (ad312.add ((x9_3).toNat * 11)) (rd_Op l0 x9_3) A312_7 c312_7 (w'.cell? (ad307.add ((x7_2).toNat * 3)) = some (.int .i64 ((rd_Elem t304 x7_2).f0)) ∧ w'.cell? ⟨(ad307.add ((x7_2).toNat * 3)).block,(ad307.add ((x7_2).toNat * 3)).off + 1,none⟩ = some (.int .i64 ((rd_Elem t304 x7_2).f1)) ∧ w'.cell? ⟨(ad307.add ((x7_2).toNat * 3)).block,(ad307.add ((x7_2).toNat * 3)).off + 2,none⟩ = some (.int .i64 ((rd_Elem t304 x7_2).f2)))) 19 ⟨hx311_0,(cW HB hw312_0),(cW HB hw312_1),(cW HB hw312_2),(cW HB hw312_3),(cW HB hw312_4),(cW HB hw312_5),(cW HB hw312_6),(cW HB hw312_7),(cW HB hw312_8),(cW HB hw312_9),(cW HB hw312_10),hx313_0,hx313_1,hx313_2⟩ (h:=fun hHeld => ?_); refine with_tabW r4_Visible.tab15 r4_Visible.bits15 (fun HT_ HW_ => ?_)
        generalize wr.drew = w37 at HO_3 HO_5 HO_6 HB HR312_7 hx311_0 hx312_0 hx312_1 hx312_10 hx312_2 hx312_3 hx312_4 hx312_5 hx312_6 hx312_7 hx312_8 hx312_9 hx313_0 hx313_1 hx313_2 hHeld ⊢
        refine pu HT_ 0 74 1 (h := ?_)
        refine pu HT_ 1 75 3 (h := ?_)
        refine pu HT_ 2 76 7 (h := ?_)
        refine tk HT_ HW_ hHeld 3 77 15 (h := ?_)
        refine pu HT_ 4 78 31 (h := ?_)
        refine pu HT_ 5 79 63 (h := ?_)
        refine pu HT_ 6 80 127 (h := ?_)
        refine pu HT_ 7 81 255 (h := ?_)
        refine pu HT_ 8 82 511 (h := ?_)
        refine pu HT_ 9 83 1023 (h := ?_)
        refine pu HT_ 11 85 3071 (h := ?_)
        refine pu HT_ 12 86 7167 (h := ?_)
        refine pu HT_ 13 87 15359 (h := ?_)
        refine tk HT_ HW_ hHeld 10 84 16383 (h := ?_)
        refine tk HT_ HW_ hHeld 14 88 32767 (h := ?_)
        refine on HT_ 15 (some 89) 65535 (h:=fun K hK => ?_)
        refine gS Tryd.func24 #[.slice A312_7 ((rd_Op l0 x9_3).f5).length c312_7, .agg #[.int .i64 ((rd_Elem t304 x7_2).f0), .int .i64 ((rd_Elem t304 x7_2).f1), .int .i64 ((rd_Elem t304 x7_2).f2)]] (h := ?_)
        with_reducible refine (r0_At.calls k3 _ _ ((rd_Op l0 x9_3).f5) ((rd_Elem t304 x7_2).f0) ((rd_Elem t304 x7_2).f1) ((rd_Elem t304 x7_2).f2) t314 _ ?side1 ?side2 A36.out).mono ?_
        (case side1 => exact cb HR312_7 HB)
        (case side2 => exact HC312_7.out)
        rintro e w38 ⟨rfl,hb⟩
        have HS0_:=(hb.cell (World.block_lt_of_cell? _ _ (hHeld.1))).trans (hHeld.1)
        have HS12_:=(hb.cell (World.block_lt_of_cell? _ _ (hHeld.2.2.2.2.2.2.2.2.2.2.2.2.1))).trans (hHeld.2.2.2.2.2.2.2.2.2.2.2.2.1)
        have HS13_:=(hb.cell (World.block_lt_of_cell? _ _ (hHeld.2.2.2.2.2.2.2.2.2.2.2.2.2.1))).trans (hHeld.2.2.2.2.2.2.2.2.2.2.2.2.2.1)
        have HS14_:=(hb.cell (World.block_lt_of_cell? _ _ (hHeld.2.2.2.2.2.2.2.2.2.2.2.2.2.2))).trans (hHeld.2.2.2.2.2.2.2.2.2.2.2.2.2.2)
        refine ⟨_,rfl, ?_⟩
        have n0_:=rb HO_3 hb
        have n1_:=rb HO_5 hb
        have n2_:=rb HO_6 hb
        have n3_:=bs HB hb
        clear HO_3
        clear HO_5
        clear HO_6
        clear HB
        have HO_3:=n0_
        have HO_5:=n1_
        have HO_6:=n2_
        have HB:=n3_
        clear n0_ n1_ n2_ n3_
        (try clear hb)
        (try clear hb2)
        (try clear hk)
        (try clear hi)
        refine hK.out _ _ ⟨HS0_,(cW HB hw312_0),(cW HB hw312_1),(cW HB hw312_2),(cW HB hw312_3),(cW HB hw312_4),(cW HB hw312_5),(cW HB hw312_6),(cW HB hw312_7),(cW HB hw312_8),(cW HB hw312_9),(cW HB hw312_10),HS12_,HS13_,HS14_⟩ (fun hHeld => ?_)
        clear hK K
        refine nn 89 (h := ?_)
        refine pu HT_ 16 90 131071 (h := ?_)
        refine pu HT_ 17 91 262143 (h := ?_)
        refine pu HT_ 18 8 524287 (h := ?_)
        refine dn HT_ (h := ?_)
        try go_wp2
        go_roundg k3
        case measure => have:=HK1.out; have:=HK2.out; have:=HK3.out; omega
        case rel => exact ⟨(decide (t314 < 0)),(wrap64 (x9_3 + 1)),rf,rf,H',⟨by have:=HK1.out; have:=HK2.out; have:=HK3.out; omega⟩,⟨rk HO_3⟩,⟨rk HO_5⟩,⟨rk HO_6⟩,⟨bw HB⟩⟩
   rw [if_pos c6] at H
   have c6b0:=decide_eq_true c6
   clear c6
   by_cases c7 : 0 ≤ x4_1; rotate_left
   ·rw [if_neg c7] at H
    exact absurd H (by simp)
   rw [if_pos c7] at H
   have c7b0:=decide_eq_true c7
   clear c7
   by_cases c8 : ((rd_Op l0 x4_1).f2) = 1; rotate_left
   ·rw [if_neg c8] at H
    obtain ⟨c8b0,c8b1⟩:=bF c8
    by_cases c14 : x4_1 < (x3_1.length : Int); rotate_left
    ·rw [if_neg c14] at H
     exact absurd H (by simp)
    rw [if_pos c14] at H
    have c14b0:=decide_eq_true c14
    clear c14
    obtain ⟨y303,hy303⟩ : ∃ y_ : List Bool,y_ = (x3_1.set (x4_1 : Int).toNat false):=⟨_,rfl⟩
    first | rw [Option.bind_some,← hy303] at H | rw [← hy303] at H
    have Ny303:=Aside0.mk hy303
    clear hy303
    have H':=Aside0.mk H
    clear H
    try go_wp2
    have n0_:=Aside0.mk (Kd.R_drew HO_3.out)
    have n1_:=Aside0.mk (below_drew1 HB.out)
    clear HO_3
    clear HB
    have HO_3:=n0_
    have HB:=n1_
    clear n0_ n1_
    have p298 : 0 ≤ (x4_1 : Int):=od
    have q298 : x4_1 < (l0.length : Int):=od
    obtain ⟨ad298,A298_7,c298_7,e298,hx298_0,hx298_1,hx298_2,hx298_3,hx298_4,hx298_5,hx298_6,hx298_7,hx298_8,hx298_9,hx298_10,hl298_7,hi298_7⟩:=at_Op HR0.out x4_1 p298 q298
    have hw298_10:=hx298_10
    have hw298_9:=hx298_9
    have hw298_8:=hx298_8
    have hw298_7:=hx298_7
    have hw298_6:=hx298_6
    have hw298_5:=hx298_5
    have hw298_4:=hx298_4
    have hw298_3:=hx298_3
    have hw298_2:=hx298_2
    have hw298_1:=hx298_1
    have hw298_0:=hx298_0
    cases e298
    replace hx298_0:=cl HB hx298_0
    replace hx298_1:=cl HB hx298_1
    replace hx298_2:=cl HB hx298_2
    replace hx298_3:=cl HB hx298_3
    replace hx298_4:=cl HB hx298_4
    replace hx298_5:=cl HB hx298_5
    replace hx298_6:=cl HB hx298_6
    replace hx298_7:=cl HB hx298_7
    replace hx298_8:=cl HB hx298_8
    replace hx298_9:=cl HB hx298_9
    replace hx298_10:=cl HB hx298_10
    have HR298_7:=Aside0.mk hi298_7
    have HC298_7:=Aside0.mk hl298_7
    clear hi298_7 hl298_7
    replace p298:=eq_true p298
    replace q298:=eq_true q298
    have p15 : 0 ≤ (x4_1 : Int):=od
    have q15 : (x4_1 : Int) < ((x3_1.length : Int) : Int):=od
    obtain ⟨go15,co15,eo15,gb15,gl15,cl15,HG15⟩:=Kd.R_form HO_3.out (by omega)
    (first | cases eo15 | (injection eo15 with ea_ en_ ec_; (first | subst ea_ | (injection ea_ with ea_; subst ea_)); subst ec_; clear en_))
    have GB15:=Aside0.mk gb15
    have GG15:=Aside0.mk HG15
    clear gb15 gl15 HG15
    obtain ⟨hx15_0,hf15_0⟩:=Kd.R_celln false HO_3.out (x4_1 : Int) p15 q15
    replace p15:=eq_true p15
    replace q15:=eq_true q15
    have HP17:=Kd.R_putn HO_3.out (x4_1 : Int) false
    rw [← Ny303.out] at HP17
    have HQ17:=Aside0.mk HP17
    clear HP17
    refine start_ (n:=24) (S:=fun w' => Q11 w' (ad298.add ((x4_1).toNat * 11)) (rd_Op l0 x4_1) A298_7 c298_7) (ds:=[23]) #[false,false,false,false,false,false,false,false,false,false,false,false,false,false,false,false,false,false,false,false,false,false,false,false] (by kernel_rfl) rfl rfl ⟨(cW HB hw298_0),(cW HB hw298_1),(cW HB hw298_2),(cW HB hw298_3),(cW HB hw298_4),(cW HB hw298_5),(cW HB hw298_6),(cW HB hw298_7),(cW HB hw298_8),(cW HB hw298_9),(cW HB hw298_10)⟩ (fun hHeld => ?_); refine with_tabW r4_Visible.tab5 r4_Visible.bits5 (fun HT_ HW_ => ?_)
    generalize wr.drew = w16 at HO_3 HB GG15 HQ17 HR298_7 hf15_0 hx15_0 hx298_0 hx298_1 hx298_10 hx298_2 hx298_3 hx298_4 hx298_5 hx298_6 hx298_7 hx298_8 hx298_9 hHeld ⊢
    refine pure_ (i:=0) (N:=some 19) (v := ?_) (a' := ?_) #[true,false,false,false,false,false,false,false,false,false,false,false,false,false,false,false,false,false,false,false,false,false,false,false] rfl rfl (any_of HT_.out (by kernel_rfl)) (fun _ _ _ h => h) (Or.inl ⟨by rfl, ?_⟩) ?_ ?_
    rotate_left
    ·intro w'
     go_simp
     with_reducible rfl
    rotate_left
    ·simp only [Act.put,List.setIfInBounds_toArray,List.set_cons_zero,List.set_cons_succ,i64_w,i32_w]
     rfl
    refine pure_ (i:=1) (N:=some 20) (v := ?_) (a' := ?_) #[true,true,false,false,false,false,false,false,false,false,false,false,false,false,false,false,false,false,false,false,false,false,false,false] rfl rfl (any_of HT_.out (by kernel_rfl)) (fun _ _ _ h => h) (Or.inl ⟨by rfl, ?_⟩) ?_ ?_
    rotate_left
    ·intro w'
     go_simp
     with_reducible rfl
    rotate_left
    ·simp only [Act.put,List.setIfInBounds_toArray,List.set_cons_zero,List.set_cons_succ,i64_w,i32_w]
     rfl
    refine pure_ (i:=2) (N:=some 21) (v := ?_) (a' := ?_) #[true,true,true,false,false,false,false,false,false,false,false,false,false,false,false,false,false,false,false,false,false,false,false,false] rfl rfl (any_of HT_.out (by kernel_rfl)) (fun _ _ _ h => h) (Or.inl ⟨by rfl, ?_⟩) ?_ ?_
    rotate_left
    ·intro w'
     go_simp
     with_reducible rfl
    rotate_left
    ·simp only [Act.put,List.setIfInBounds_toArray,List.set_cons_zero,List.set_cons_succ,i64_w,i32_w]
     rfl
    refine pure_ (i:=3) (N:=some 22) (v := ?_) (a' := ?_) #[true,true,true,true,false,false,false,false,false,false,false,false,false,false,false,false,false,false,false,false,false,false,false,false] rfl rfl (any_of HT_.out (by kernel_rfl)) (fun _ _ _ h => h) (Or.inl ⟨by rfl, ?_⟩) ?_ ?_
    rotate_left
    ·intro w'
     go_simp
     with_reducible rfl
    rotate_left
    ·simp only [Act.put,List.setIfInBounds_toArray,List.set_cons_zero,List.set_cons_succ,i64_w,i32_w]
     rfl
    refine pure_ (i:=4) (N:=some 23) (v := ?_) (a' := ?_) #[true,true,true,true,true,false,false,false,false,false,false,false,false,false,false,false,false,false,false,false,false,false,false,false] rfl rfl (any_of HT_.out (by kernel_rfl)) (fun _ _ _ h => h) (Or.inl ⟨by rfl, ?_⟩) ?_ ?_
    rotate_left
    ·intro w'
     go_simp
     with_reducible rfl
    rotate_left
    ·simp only [Act.put,List.setIfInBounds_toArray,List.set_cons_zero,List.set_cons_succ,i64_w,i32_w]
     rfl
    refine pure_ (i:=5) (N:=some 24) (v := ?_) (a' := ?_) #[true,true,true,true,true,true,false,false,false,false,false,false,false,false,false,false,false,false,false,false,false,false,false,false] rfl rfl (any_of HT_.out (by kernel_rfl)) (fun _ _ _ h => h) (Or.inl ⟨by rfl, ?_⟩) ?_ ?_
    rotate_left
    ·intro w'
     go_simp
     with_reducible rfl
    rotate_left
    ·simp only [Act.put,List.setIfInBounds_toArray,List.set_cons_zero,List.set_cons_succ,i64_w,i32_w]
     rfl
    refine take_ (i:=6) (N:=some 25) (v := ?_) (a' := ?_) #[true,true,true,true,true,true,true,false,false,false,false,false,false,false,false,false,false,false,false,false,false,false,false,false] rfl rfl (take_ofW HT_.out HW_.out (by kernel_rfl)) (fun _ _ _ h => h) (Or.inl ⟨by rfl, ?_⟩) hHeld ?_ ?_
    rotate_left
    ·rintro w' ⟨s0,s1,s2,s3,s4,s5,s6,s7,s8,s9,s10⟩
     go_simp
     with_reducible rfl
    rotate_left
    ·simp only [Act.put,List.setIfInBounds_toArray,List.set_cons_zero,List.set_cons_succ,i64_w,i32_w]
     rfl
    refine pure_ (i:=7) (N:=some 26) (v := ?_) (a' := ?_) #[true,true,true,true,true,true,true,true,false,false,false,false,false,false,false,false,false,false,false,false,false,false,false,false] rfl rfl (any_of HT_.out (by kernel_rfl)) (fun _ _ _ h => h) (Or.inl ⟨by rfl, ?_⟩) ?_ ?_
    rotate_left
    ·intro w'
     go_simp
     with_reducible rfl
    rotate_left
    ·simp only [Act.put,List.setIfInBounds_toArray,List.set_cons_zero,List.set_cons_succ,i64_w,i32_w]
     rfl
    refine pure_ (i:=8) (N:=some 27) (v := ?_) (a' := ?_) #[true,true,true,true,true,true,true,true,true,false,false,false,false,false,false,false,false,false,false,false,false,false,false,false] rfl rfl (any_of HT_.out (by kernel_rfl)) (fun _ _ _ h => h) (Or.inl ⟨by rfl, ?_⟩) ?_ ?_
    rotate_left
    ·intro w'
     go_simp
     with_reducible rfl
    rotate_left
    ·simp only [Act.put,List.setIfInBounds_toArray,List.set_cons_zero,List.set_cons_succ,i64_w,i32_w]
     rfl
    refine pure_ (i:=9) (N:=some 28) (v:=undef) (a' := ?_) #[true,true,true,true,true,true,true,true,true,true,false,false,false,false,false,false,false,false,false,false,false,false,false,false] rfl rfl (any_of HT_.out (by kernel_rfl)) (fun _ _ _ h => h) (Or.inr ⟨by rfl,rfl⟩) ?_ ?_
    rotate_left
    ·simp only [Act.put,List.setIfInBounds_toArray,List.set_cons_zero,List.set_cons_succ,i64_w,i32_w]
     rfl
    refine pure_ (i:=10) (N:=some 29) (v:=undef) (a' := ?_) #[true,true,true,true,true,true,true,true,true,true,true,false,false,false,false,false,false,false,false,false,false,false,false,false] rfl rfl (any_of HT_.out (by kernel_rfl)) (fun _ _ _ h => h) (Or.inr ⟨by rfl,rfl⟩) ?_ ?_
    rotate_left
    ·simp only [Act.put,List.setIfInBounds_toArray,List.set_cons_zero,List.set_cons_succ,i64_w,i32_w]
     rfl
    refine pure_ (i:=11) (N:=some 30) (v:=undef) (a' := ?_) #[true,true,true,true,true,true,true,true,true,true,true,true,false,false,false,false,false,false,false,false,false,false,false,false] rfl rfl (any_of HT_.out (by kernel_rfl)) (fun _ _ _ h => h) (Or.inr ⟨by rfl,rfl⟩) ?_ ?_
    rotate_left
    ·simp only [Act.put,List.setIfInBounds_toArray,List.set_cons_zero,List.set_cons_succ,i64_w,i32_w]
     rfl
    refine pure_ (i:=12) (N:=some 31) (v:=undef) (a' := ?_) #[true,true,true,true,true,true,true,true,true,true,true,true,true,false,false,false,false,false,false,false,false,false,false,false] rfl rfl (any_of HT_.out (by kernel_rfl)) (fun _ _ _ h => h) (Or.inr ⟨by rfl,rfl⟩) ?_ ?_
    rotate_left
    ·simp only [Act.put,List.setIfInBounds_toArray,List.set_cons_zero,List.set_cons_succ,i64_w,i32_w]
     rfl
    refine pure_ (i:=13) (N:=some 32) (v:=undef) (a' := ?_) #[true,true,true,true,true,true,true,true,true,true,true,true,true,true,false,false,false,false,false,false,false,false,false,false] rfl rfl (any_of HT_.out (by kernel_rfl)) (fun _ _ _ h => h) (Or.inr ⟨by rfl,rfl⟩) ?_ ?_
    rotate_left
    ·simp only [Act.put,List.setIfInBounds_toArray,List.set_cons_zero,List.set_cons_succ,i64_w,i32_w]
     rfl
    refine pure_ (i:=14) (N:=some 33) (v:=undef) (a' := ?_) #[true,true,true,true,true,true,true,true,true,true,true,true,true,true,true,false,false,false,false,false,false,false,false,false] rfl rfl (any_of HT_.out (by kernel_rfl)) (fun _ _ _ h => h) (Or.inr ⟨by rfl,rfl⟩) ?_ ?_
    rotate_left
    ·simp only [Act.put,List.setIfInBounds_toArray,List.set_cons_zero,List.set_cons_succ,i64_w,i32_w]
     rfl
    refine pure_ (i:=15) (N:=some 34) (v:=undef) (a' := ?_) #[true,true,true,true,true,true,true,true,true,true,true,true,true,true,true,true,false,false,false,false,false,false,false,false] rfl rfl (any_of HT_.out (by kernel_rfl)) (fun _ _ _ h => h) (Or.inr ⟨by rfl,rfl⟩) ?_ ?_
    rotate_left
    ·simp only [Act.put,List.setIfInBounds_toArray,List.set_cons_zero,List.set_cons_succ,i64_w,i32_w]
     rfl
    refine pure_ (i:=16) (N:=some 35) (v:=undef) (a' := ?_) #[true,true,true,true,true,true,true,true,true,true,true,true,true,true,true,true,true,false,false,false,false,false,false,false] rfl rfl (any_of HT_.out (by kernel_rfl)) (fun _ _ _ h => h) (Or.inr ⟨by rfl,rfl⟩) ?_ ?_
    rotate_left
    ·simp only [Act.put,List.setIfInBounds_toArray,List.set_cons_zero,List.set_cons_succ,i64_w,i32_w]
     rfl
    refine pure_ (i:=17) (N:=some 36) (v:=undef) (a' := ?_) #[true,true,true,true,true,true,true,true,true,true,true,true,true,true,true,true,true,true,false,false,false,false,false,false] rfl rfl (any_of HT_.out (by kernel_rfl)) (fun _ _ _ h => h) (Or.inr ⟨by rfl,rfl⟩) ?_ ?_
    rotate_left
    ·simp only [Act.put,List.setIfInBounds_toArray,List.set_cons_zero,List.set_cons_succ,i64_w,i32_w]
     rfl
    refine pure_ (i:=18) (N:=some 37) (v:=undef) (a' := ?_) #[true,true,true,true,true,true,true,true,true,true,true,true,true,true,true,true,true,true,true,false,false,false,false,false] rfl rfl (any_of HT_.out (by kernel_rfl)) (fun _ _ _ h => h) (Or.inr ⟨by rfl,rfl⟩) ?_ ?_
    rotate_left
    ·simp only [Act.put,List.setIfInBounds_toArray,List.set_cons_zero,List.set_cons_succ,i64_w,i32_w]
     rfl
    refine pure_ (i:=19) (N:=some 38) (v:=undef) (a' := ?_) #[true,true,true,true,true,true,true,true,true,true,true,true,true,true,true,true,true,true,true,true,false,false,false,false] rfl rfl (any_of HT_.out (by kernel_rfl)) (fun _ _ _ h => h) (Or.inr ⟨by rfl,rfl⟩) ?_ ?_
    rotate_left
    ·simp only [Act.put,List.setIfInBounds_toArray,List.set_cons_zero,List.set_cons_succ,i64_w,i32_w]
     rfl
    refine pure_ (i:=20) (N:=some 39) (v:=undef) (a' := ?_) #[true,true,true,true,true,true,true,true,true,true,true,true,true,true,true,true,true,true,true,true,true,false,false,false] rfl rfl (any_of HT_.out (by kernel_rfl)) (fun _ _ _ h => h) (Or.inr ⟨by rfl,rfl⟩) ?_ ?_
    rotate_left
    ·simp only [Act.put,List.setIfInBounds_toArray,List.set_cons_zero,List.set_cons_succ,i64_w,i32_w]
     rfl
    refine pure_ (i:=21) (N:=some 40) (v := ?_) (a' := ?_) #[true,true,true,true,true,true,true,true,true,true,true,true,true,true,true,true,true,true,true,true,true,true,false,false] rfl rfl (any_of HT_.out (by kernel_rfl)) (fun _ _ _ h => h) (Or.inl ⟨by rfl, ?_⟩) ?_ ?_
    rotate_left
    ·intro w'
     go_simp
     with_reducible rfl
    rotate_left
    ·simp only [Act.put,List.setIfInBounds_toArray,List.set_cons_zero,List.set_cons_succ,i64_w,i32_w]
     rfl
    refine pure_ (i:=22) (N:=some 41) (v := ?_) (a' := ?_) #[true,true,true,true,true,true,true,true,true,true,true,true,true,true,true,true,true,true,true,true,true,true,true,false] rfl rfl (any_of HT_.out (by kernel_rfl)) (fun _ _ _ h => h) (Or.inl ⟨by rfl, ?_⟩) ?_ ?_
    rotate_left
    ·intro w'
     go_simp
     with_reducible rfl
    rotate_left
    ·simp only [Act.put,List.setIfInBounds_toArray,List.set_cons_zero,List.set_cons_succ,i64_w,i32_w]
     rfl
    refine last_ (i:=23) (N:=none) #[true,true,true,true,true,true,true,true,true,true,true,true,true,true,true,true,true,true,true,true,true,true,true,true] rfl rfl (one_of HT_.out (by kernel_rfl)) (by decide) (fun K hK => ?_)
    refine skip_ (w1 := ?_) (by rfl) rfl ?_ ?_
    rotate_left
    ·go_simp
     rfl
    refine hK.out _ _ ?_
    clear hK K
    refine done_ (done_of HT_.out (by kernel_rfl)) ?_
    try go_wp2
    go_roundg k1
    case measure => have:=HK1.out; omega
    case rel => exact ⟨(y303),(wrap64 (x4_1 + 1)),rf,H',⟨by have:=HK1.out; omega⟩,⟨rk HQ17⟩,⟨by repeat (first | (with_reducible first | exact HB.out | apply below_alloc | apply pw_below_drewN | apply below_drew1 | refine below_set ?_ GB15.out) | exact HB.out)⟩⟩
   rw [if_pos c8] at H
   obtain ⟨c8b0,c8b1⟩:=bT c8
   clear c8
   obtain ⟨t301,A9,H⟩:=bE H
   by_cases c10 : x4_1 < (x3_1.length : Int); rotate_left
   ·rw [if_neg c10] at H
    exact absurd H (by simp)
   rw [if_pos c10] at H
   have c10b0:=decide_eq_true c10
   clear c10
   obtain ⟨y302,hy302⟩ : ∃ y_ : List Bool,y_ = (x3_1.set (x4_1 : Int).toNat t301):=⟨_,rfl⟩
   first | rw [Option.bind_some,← hy302] at H | rw [← hy302] at H
   have Ny302:=Aside0.mk hy302
   clear hy302
   have H':=Aside0.mk H
   clear H
   try go_wp2
   have n0_:=Aside0.mk (Kd.R_drew HO_3.out)
   have n1_:=Aside0.mk (below_drew1 HB.out)
   clear HO_3
   clear HB
   have HO_3:=n0_
   have HB:=n1_
   clear n0_ n1_
   have p298 : 0 ≤ (x4_1 : Int):=od
   have q298 : x4_1 < (l0.length : Int):=od
   obtain ⟨ad298,A298_7,c298_7,e298,hx298_0,hx298_1,hx298_2,hx298_3,hx298_4,hx298_5,hx298_6,hx298_7,hx298_8,hx298_9,hx298_10,hl298_7,hi298_7⟩:=at_Op HR0.out x4_1 p298 q298
   have hw298_10:=hx298_10
   have hw298_9:=hx298_9
   have hw298_8:=hx298_8
   have hw298_7:=hx298_7
   have hw298_6:=hx298_6
   have hw298_5:=hx298_5
   have hw298_4:=hx298_4
   have hw298_3:=hx298_3
   have hw298_2:=hx298_2
   have hw298_1:=hx298_1
   have hw298_0:=hx298_0
   cases e298
   replace hx298_0:=cl HB hx298_0
   replace hx298_1:=cl HB hx298_1
   replace hx298_2:=cl HB hx298_2
   replace hx298_3:=cl HB hx298_3
   replace hx298_4:=cl HB hx298_4
   replace hx298_5:=cl HB hx298_5
   replace hx298_6:=cl HB hx298_6
   replace hx298_7:=cl HB hx298_7
   replace hx298_8:=cl HB hx298_8
   replace hx298_9:=cl HB hx298_9
   replace hx298_10:=cl HB hx298_10
   have HR298_7:=Aside0.mk hi298_7
   have HC298_7:=Aside0.mk hl298_7
   clear hi298_7 hl298_7
   replace p298:=eq_true p298
   replace q298:=eq_true q298
   refine start_ (n:=24) (S:=fun w' => Q11 w' (ad298.add ((x4_1).toNat * 11)) (rd_Op l0 x4_1) A298_7 c298_7) (ds:=[23]) #[false,false,false,false,false,false,false,false,false,false,false,false,false,false,false,false,false,false,false,false,false,false,false,false] (by kernel_rfl) rfl rfl ⟨(cW HB hw298_0),(cW HB hw298_1),(cW HB hw298_2),(cW HB hw298_3),(cW HB hw298_4),(cW HB hw298_5),(cW HB hw298_6),(cW HB hw298_7),(cW HB hw298_8),(cW HB hw298_9),(cW HB hw298_10)⟩ (fun hHeld => ?_); refine with_tabW r4_Visible.tab5 r4_Visible.bits5 (fun HT_ HW_ => ?_)
   generalize wr.drew = w12 at HO_3 HB HR298_7 HR298_7 HR298_7 hx298_0 hx298_1 hx298_10 hx298_2 hx298_3 hx298_4 hx298_5 hx298_6 hx298_7 hx298_8 hx298_9 hx298_0 hx298_1 hx298_10 hx298_2 hx298_3 hx298_4 hx298_5 hx298_6 hx298_7 hx298_8 hx298_9 hx298_0 hx298_1 hx298_10 hx298_2 hx298_3 hx298_4 hx298_5 hx298_6 hx298_7 hx298_8 hx298_9 hHeld ⊢
   refine pure_ (i:=0) (N:=some 19) (v := ?_) (a' := ?_) #[true,false,false,false,false,false,false,false,false,false,false,false,false,false,false,false,false,false,false,false,false,false,false,false] rfl rfl (any_of HT_.out (by kernel_rfl)) (fun _ _ _ h => h) (Or.inl ⟨by rfl, ?_⟩) ?_ ?_
   rotate_left
   ·intro w'
    go_simp
    with_reducible rfl
   rotate_left
   ·simp only [Act.put,List.setIfInBounds_toArray,List.set_cons_zero,List.set_cons_succ,i64_w,i32_w]
    rfl
   refine pure_ (i:=1) (N:=some 20) (v := ?_) (a' := ?_) #[true,true,false,false,false,false,false,false,false,false,false,false,false,false,false,false,false,false,false,false,false,false,false,false] rfl rfl (any_of HT_.out (by kernel_rfl)) (fun _ _ _ h => h) (Or.inl ⟨by rfl, ?_⟩) ?_ ?_
   rotate_left
   ·intro w'
    go_simp
    with_reducible rfl
   rotate_left
   ·simp only [Act.put,List.setIfInBounds_toArray,List.set_cons_zero,List.set_cons_succ,i64_w,i32_w]
    rfl
   refine pure_ (i:=2) (N:=some 21) (v := ?_) (a' := ?_) #[true,true,true,false,false,false,false,false,false,false,false,false,false,false,false,false,false,false,false,false,false,false,false,false] rfl rfl (any_of HT_.out (by kernel_rfl)) (fun _ _ _ h => h) (Or.inl ⟨by rfl, ?_⟩) ?_ ?_
   rotate_left
   ·intro w'
    go_simp
    with_reducible rfl
   rotate_left
   ·simp only [Act.put,List.setIfInBounds_toArray,List.set_cons_zero,List.set_cons_succ,i64_w,i32_w]
    rfl
   refine pure_ (i:=3) (N:=some 22) (v := ?_) (a' := ?_) #[true,true,true,true,false,false,false,false,false,false,false,false,false,false,false,false,false,false,false,false,false,false,false,false] rfl rfl (any_of HT_.out (by kernel_rfl)) (fun _ _ _ h => h) (Or.inl ⟨by rfl, ?_⟩) ?_ ?_
   rotate_left
   ·intro w'
    go_simp
    with_reducible rfl
   rotate_left
   ·simp only [Act.put,List.setIfInBounds_toArray,List.set_cons_zero,List.set_cons_succ,i64_w,i32_w]
    rfl
   refine pure_ (i:=4) (N:=some 23) (v := ?_) (a' := ?_) #[true,true,true,true,true,false,false,false,false,false,false,false,false,false,false,false,false,false,false,false,false,false,false,false] rfl rfl (any_of HT_.out (by kernel_rfl)) (fun _ _ _ h => h) (Or.inl ⟨by rfl, ?_⟩) ?_ ?_
   rotate_left
   ·intro w'
    go_simp
    with_reducible rfl
   rotate_left
   ·simp only [Act.put,List.setIfInBounds_toArray,List.set_cons_zero,List.set_cons_succ,i64_w,i32_w]
    rfl
   refine pure_ (i:=5) (N:=some 24) (v := ?_) (a' := ?_) #[true,true,true,true,true,true,false,false,false,false,false,false,false,false,false,false,false,false,false,false,false,false,false,false] rfl rfl (any_of HT_.out (by kernel_rfl)) (fun _ _ _ h => h) (Or.inl ⟨by rfl, ?_⟩) ?_ ?_
   rotate_left
   ·intro w'
    go_simp
    with_reducible rfl
   rotate_left
   ·simp only [Act.put,List.setIfInBounds_toArray,List.set_cons_zero,List.set_cons_succ,i64_w,i32_w]
    rfl
   refine take_ (i:=6) (N:=some 25) (v := ?_) (a' := ?_) #[true,true,true,true,true,true,true,false,false,false,false,false,false,false,false,false,false,false,false,false,false,false,false,false] rfl rfl (take_ofW HT_.out HW_.out (by kernel_rfl)) (fun _ _ _ h => h) (Or.inl ⟨by rfl, ?_⟩) hHeld ?_ ?_
   rotate_left
   ·rintro w' ⟨s0,s1,s2,s3,s4,s5,s6,s7,s8,s9,s10⟩
    go_simp
    with_reducible rfl
   rotate_left
   ·simp only [Act.put,List.setIfInBounds_toArray,List.set_cons_zero,List.set_cons_succ,i64_w,i32_w]
    rfl
   refine pure_ (i:=7) (N:=some 26) (v := ?_) (a' := ?_) #[true,true,true,true,true,true,true,true,false,false,false,false,false,false,false,false,false,false,false,false,false,false,false,false] rfl rfl (any_of HT_.out (by kernel_rfl)) (fun _ _ _ h => h) (Or.inl ⟨by rfl, ?_⟩) ?_ ?_
   rotate_left
   ·intro w'
    go_simp
    with_reducible rfl
   rotate_left
   ·simp only [Act.put,List.setIfInBounds_toArray,List.set_cons_zero,List.set_cons_succ,i64_w,i32_w]
    rfl
   refine pure_ (i:=8) (N:=some 27) (v := ?_) (a' := ?_) #[true,true,true,true,true,true,true,true,true,false,false,false,false,false,false,false,false,false,false,false,false,false,false,false] rfl rfl (any_of HT_.out (by kernel_rfl)) (fun _ _ _ h => h) (Or.inl ⟨by rfl, ?_⟩) ?_ ?_
   rotate_left
   ·intro w'
    go_simp
    with_reducible rfl
   rotate_left
   ·simp only [Act.put,List.setIfInBounds_toArray,List.set_cons_zero,List.set_cons_succ,i64_w,i32_w]
    rfl
   refine pure_ (i:=9) (N:=some 28) (v := ?_) (a' := ?_) #[true,true,true,true,true,true,true,true,true,true,false,false,false,false,false,false,false,false,false,false,false,false,false,false] rfl rfl (any_of HT_.out (by kernel_rfl)) (fun _ _ _ h => h) (Or.inl ⟨by rfl, ?_⟩) ?_ ?_
   rotate_left
   ·intro w'
    go_simp
    with_reducible rfl
   rotate_left
   ·simp only [Act.put,List.setIfInBounds_toArray,List.set_cons_zero,List.set_cons_succ,i64_w,i32_w]
    rfl
   refine pure_ (i:=10) (N:=some 29) (v := ?_) (a' := ?_) #[true,true,true,true,true,true,true,true,true,true,true,false,false,false,false,false,false,false,false,false,false,false,false,false] rfl rfl (any_of HT_.out (by kernel_rfl)) (fun _ _ _ h => h) (Or.inl ⟨by rfl, ?_⟩) ?_ ?_
   rotate_left
   ·intro w'
    go_simp
    with_reducible rfl
   rotate_left
   ·simp only [Act.put,List.setIfInBounds_toArray,List.set_cons_zero,List.set_cons_succ,i64_w,i32_w]
    rfl
   refine pure_ (i:=11) (N:=some 30) (v := ?_) (a' := ?_) #[true,true,true,true,true,true,true,true,true,true,true,true,false,false,false,false,false,false,false,false,false,false,false,false] rfl rfl (any_of HT_.out (by kernel_rfl)) (fun _ _ _ h => h) (Or.inl ⟨by rfl, ?_⟩) ?_ ?_
   rotate_left
   ·intro w'
    go_simp
    with_reducible rfl
   rotate_left
   ·simp only [Act.put,List.setIfInBounds_toArray,List.set_cons_zero,List.set_cons_succ,i64_w,i32_w]
    rfl
   refine pure_ (i:=12) (N:=some 31) (v := ?_) (a' := ?_) #[true,true,true,true,true,true,true,true,true,true,true,true,true,false,false,false,false,false,false,false,false,false,false,false] rfl rfl (any_of HT_.out (by kernel_rfl)) (fun _ _ _ h => h) (Or.inl ⟨by rfl, ?_⟩) ?_ ?_
   rotate_left
   ·intro w'
    go_simp
    with_reducible rfl
   rotate_left
   ·simp only [Act.put,List.setIfInBounds_toArray,List.set_cons_zero,List.set_cons_succ,i64_w,i32_w]
    rfl
   refine pure_ (i:=13) (N:=some 32) (v := ?_) (a' := ?_) #[true,true,true,true,true,true,true,true,true,true,true,true,true,true,false,false,false,false,false,false,false,false,false,false] rfl rfl (any_of HT_.out (by kernel_rfl)) (fun _ _ _ h => h) (Or.inl ⟨by rfl, ?_⟩) ?_ ?_
   rotate_left
   ·intro w'
    go_simp
    with_reducible rfl
   rotate_left
   ·simp only [Act.put,List.setIfInBounds_toArray,List.set_cons_zero,List.set_cons_succ,i64_w,i32_w]
    rfl
   refine pure_ (i:=15) (N:=some 34) (v := ?_) (a' := ?_) #[true,true,true,true,true,true,true,true,true,true,true,true,true,true,false,true,false,false,false,false,false,false,false,false] rfl rfl (any_of HT_.out (by kernel_rfl)) (fun _ _ _ h => h) (Or.inl ⟨by rfl, ?_⟩) ?_ ?_
   rotate_left
   ·intro w'
    go_simp
    with_reducible rfl
   rotate_left
   ·simp only [Act.put,List.setIfInBounds_toArray,List.set_cons_zero,List.set_cons_succ,i64_w,i32_w]
    rfl
   refine pure_ (i:=16) (N:=some 35) (v := ?_) (a' := ?_) #[true,true,true,true,true,true,true,true,true,true,true,true,true,true,false,true,true,false,false,false,false,false,false,false] rfl rfl (any_of HT_.out (by kernel_rfl)) (fun _ _ _ h => h) (Or.inl ⟨by rfl, ?_⟩) ?_ ?_
   rotate_left
   ·intro w'
    go_simp
    with_reducible rfl
   rotate_left
   ·simp only [Act.put,List.setIfInBounds_toArray,List.set_cons_zero,List.set_cons_succ,i64_w,i32_w]
    rfl
   refine pure_ (i:=17) (N:=some 36) (v := ?_) (a' := ?_) #[true,true,true,true,true,true,true,true,true,true,true,true,true,true,false,true,true,true,false,false,false,false,false,false] rfl rfl (any_of HT_.out (by kernel_rfl)) (fun _ _ _ h => h) (Or.inl ⟨by rfl, ?_⟩) ?_ ?_
   rotate_left
   ·intro w'
    go_simp
    with_reducible rfl
   rotate_left
   ·simp only [Act.put,List.setIfInBounds_toArray,List.set_cons_zero,List.set_cons_succ,i64_w,i32_w]
    rfl
   refine pure_ (i:=18) (N:=some 37) (v := ?_) (a' := ?_) #[true,true,true,true,true,true,true,true,true,true,true,true,true,true,false,true,true,true,true,false,false,false,false,false] rfl rfl (any_of HT_.out (by kernel_rfl)) (fun _ _ _ h => h) (Or.inl ⟨by rfl, ?_⟩) ?_ ?_
   rotate_left
   ·intro w'
    go_simp
    with_reducible rfl
   rotate_left
   ·simp only [Act.put,List.setIfInBounds_toArray,List.set_cons_zero,List.set_cons_succ,i64_w,i32_w]
    rfl
   refine take_ (i:=14) (N:=some 33) (v := ?_) (a' := ?_) #[true,true,true,true,true,true,true,true,true,true,true,true,true,true,true,true,true,true,true,false,false,false,false,false] rfl rfl (take_ofW HT_.out HW_.out (by kernel_rfl)) (fun _ _ _ h => h) (Or.inl ⟨by rfl, ?_⟩) hHeld ?_ ?_
   rotate_left
   ·rintro w' ⟨s0,s1,s2,s3,s4,s5,s6,s7,s8,s9,s10⟩
    go_simp
    with_reducible rfl
   rotate_left
   ·simp only [Act.put,List.setIfInBounds_toArray,List.set_cons_zero,List.set_cons_succ,i64_w,i32_w]
    rfl
   refine take_ (i:=19) (N:=some 38) (v := ?_) (a' := ?_) #[true,true,true,true,true,true,true,true,true,true,true,true,true,true,true,true,true,true,true,true,false,false,false,false] rfl rfl (take_ofW HT_.out HW_.out (by kernel_rfl)) (fun _ _ _ h => h) (Or.inl ⟨by rfl, ?_⟩) hHeld ?_ ?_
   rotate_left
   ·rintro w' ⟨s0,s1,s2,s3,s4,s5,s6,s7,s8,s9,s10⟩
    go_simp
    with_reducible rfl
   rotate_left
   ·simp only [Act.put,List.setIfInBounds_toArray,List.set_cons_zero,List.set_cons_succ,i64_w,i32_w]
    rfl
   refine one_ (i:=20) (N:=some 39) #[true,true,true,true,true,true,true,true,true,true,true,true,true,true,true,true,true,true,true,true,true,false,false,false] rfl rfl (one_of HT_.out (by kernel_rfl)) (by decide) (fun K hK => ?_)
   refine gS Tryd.func75 #[.slice (some ad298) l0.length c0, .int .i64 ((rd_Op l0 x4_1).f0), .int .i64 ((rd_Op l0 x4_1).f1)] (h := ?_)
   with_reducible refine (r4_Effective.calls k1 _ _ l0 ((rd_Op l0 x4_1).f0) ((rd_Op l0 x4_1).f1) t301 _ ?side1 ?side2 A9.out).mono ?_
   (case side1 => exact cb HR0 HB)
   (case side2 => exact HC0.out)
   rintro e w' ⟨rfl,⟨nd,rfl⟩⟩
   refine ⟨_,rfl, ?_⟩
   have p11 : 0 ≤ (x4_1 : Int):=od
   have q11 : (x4_1 : Int) < ((x3_1.length : Int) : Int):=od
   obtain ⟨go11,co11,eo11,gb11,gl11,cl11,HG11⟩:=Kd.R_form HO_3.out (by omega)
   (first | cases eo11 | (injection eo11 with ea_ en_ ec_; (first | subst ea_ | (injection ea_ with ea_; subst ea_)); subst ec_; clear en_))
   have GB11:=Aside0.mk gb11
   have GG11:=Aside0.mk HG11
   clear gb11 gl11 HG11
   obtain ⟨hx11_0,hf11_0⟩:=Kd.R_celln false HO_3.out (x4_1 : Int) p11 q11
   replace p11:=eq_true p11
   replace q11:=eq_true q11
   have HP13:=Kd.R_putn HO_3.out (x4_1 : Int) t301
   rw [← Ny302.out] at HP13
   have HQ13:=Aside0.mk HP13
   clear HP13
   refine hK.out _ _ ⟨(cW HB hw298_0),(cW HB hw298_1),(cW HB hw298_2),(cW HB hw298_3),(cW HB hw298_4),(cW HB hw298_5),(cW HB hw298_6),(cW HB hw298_7),(cW HB hw298_8),(cW HB hw298_9),(cW HB hw298_10)⟩ (fun hHeld => ?_)
   clear hK K
   refine norm_ (a' := ?_) ?_ ?_
   rotate_left
   ·show Act.put _ (some 39) _ = _
    simp only [Act.put,List.setIfInBounds_toArray,List.set_cons_zero,List.set_cons_succ,i64_w,i32_w]
    rfl
   refine pure_ (i:=21) (N:=some 40) (v := ?_) (a' := ?_) #[true,true,true,true,true,true,true,true,true,true,true,true,true,true,true,true,true,true,true,true,true,true,false,false] rfl rfl (any_of HT_.out (by kernel_rfl)) (fun _ _ _ h => h) (Or.inl ⟨by rfl, ?_⟩) ?_ ?_
   rotate_left
   ·intro w'
    go_simp
    with_reducible rfl
   rotate_left
   ·simp only [Act.put,List.setIfInBounds_toArray,List.set_cons_zero,List.set_cons_succ,i64_w,i32_w]
    rfl
   refine pure_ (i:=22) (N:=some 41) (v := ?_) (a' := ?_) #[true,true,true,true,true,true,true,true,true,true,true,true,true,true,true,true,true,true,true,true,true,true,true,false] rfl rfl (any_of HT_.out (by kernel_rfl)) (fun _ _ _ h => h) (Or.inl ⟨by rfl, ?_⟩) ?_ ?_
   rotate_left
   ·intro w'
    go_simp
    with_reducible rfl
   rotate_left
   ·simp only [Act.put,List.setIfInBounds_toArray,List.set_cons_zero,List.set_cons_succ,i64_w,i32_w]
    rfl
   refine last_ (i:=23) (N:=none) #[true,true,true,true,true,true,true,true,true,true,true,true,true,true,true,true,true,true,true,true,true,true,true,true] rfl rfl (one_of HT_.out (by kernel_rfl)) (by decide) (fun K hK => ?_)
   refine skip_ (w1 := ?_) (by rfl) rfl ?_ ?_
   rotate_left
   ·go_simp
    rfl
   refine hK.out _ _ ?_
   clear hK K
   refine done_ (done_of HT_.out (by kernel_rfl)) ?_
   try go_wp2
   go_roundg k1
   case measure => have:=HK1.out; omega
   case rel => exact ⟨(y302),(wrap64 (x4_1 + 1)),rf,H',⟨by have:=HK1.out; omega⟩,⟨rk HQ13⟩,⟨by repeat (first | (with_reducible first | exact HB.out | apply below_alloc | apply pw_below_drewN | apply below_drew1 | refine below_set ?_ GB11.out) | exact HB.out)⟩⟩
end Go.Proofs.YtonoaflfobajcaaDoor.L
end

section
namespace Go.Proofs.YtonoaflfobajcaaDoor.L
open Go.RowKit Go.Proofs.YtonoaflfobajcaaDoorW.PrintWords Go.Proofs.YtonoaflfobajcaaDoorW.PrintLast Go.Proofs.YtonoaflfobajcaaDoorW.PrintMore
attribute [local go_sem] max2_int min2_int max_two min_two max_three min_three max_four min_four
set_option linter.unusedVariables false
set_option linter.unusedSimpArgs false
def r4_Behind.f (k : Nat) (l0 : List (SOp)) (a1_0 : Int) (a1_1 : Int) (a1_2 : Int) (a1_3 : Int) (a1_4 : Int) (a1_5 : Int) (a1_6 : ByteArray) (l1_7 : List (SElem)) (a1_8 : Int) (a1_9 : Int) (a1_10 : Int) : Option ((List (SOp))):=(r0_CopyOps.f k l0).bind fun t320 => ((r0_CopyOp.f k a1_0 a1_1 a1_2 a1_3 a1_4 a1_5 a1_6 l1_7 a1_8 a1_9 a1_10).bind fun bt323 => (if t320.length < 1256584717458 then (some (t320 ++ [(⟨bt323.1,bt323.2.1,bt323.2.2.1,(⟨bt323.2.2.2.1,bt323.2.2.2.2.1,bt323.2.2.2.2.2.1⟩ : SElem),bt323.2.2.2.2.2.2.1,bt323.2.2.2.2.2.2.2.1,bt323.2.2.2.2.2.2.2.2.1,bt323.2.2.2.2.2.2.2.2.2.1,bt323.2.2.2.2.2.2.2.2.2.2⟩ : SOp)])) else (none)))
set_option maxHeartbeats 8000000 in
set_option maxRecDepth 100000 in
theorem r4_Behind.calls (k : Nat) (A0 : Option Addr) (c0 : Nat) (l0 : List (SOp)) (a1_0 : Int) (a1_1 : Int) (a1_2 : Int) (a1_3 : Int) (a1_4 : Int) (a1_5 : Int) (a1_6 : ByteArray) (A1_7 : Option Addr) (c1_7 : Nat) (l1_7 : List (SElem)) (a1_8 : Int) (a1_9 : Int) (a1_10 : Int) (r : List (SOp)) (w : World) (hr0 : Kd.C kOp w A0 l0.length l0) (hc0 : l0.length ≤ c0) (hr1_7 : Kd.C kElem w A1_7 l1_7.length l1_7) (hc1_7 : l1_7.length ≤ c1_7) (h : r4_Behind.f k l0 a1_0 a1_1 a1_2 a1_3 a1_4 a1_5 a1_6 l1_7 a1_8 a1_9 a1_10 = some r) :
  Calls Tryd.prog 36 #[.slice A0 l0.length c0, .agg #[.int .i64 a1_0, .int .i64 a1_1, .int .i64 a1_2, .int .i64 a1_3, .int .i64 a1_4, .int .i64 a1_5, .string a1_6, .slice A1_7 l1_7.length c1_7, .int .i64 a1_8, .int .i64 a1_9, .int .i64 a1_10]] w fun e w' => ∃ v0_ : Value,e = .returned (v0_) ∧ Kd.S kOp 55 w' w.heap.size (fun _ => True) v0_ r ∧ Below w.heap.size w w':=by
 have hu55:=Tryd.underlying55
 have HR0:=Aside0.mk hr0
 have HC0:=Aside0.mk hc0
 clear hr0 hc0
 have HR1_7:=Aside0.mk hr1_7
 have HC1_7:=Aside0.mk hc1_7
 clear hr1_7 hc1_7
 have HB:=Aside0.mk (Below.refl w.heap.size w)
 unfold r4_Behind.f at h; have H:=h
 clear h
 obtain ⟨t320,A3,H⟩:=bE H
 obtain ⟨⟨t323,t324,t325,t326,t327,t328,t329,t330,t333,t334,t335⟩,A4,H⟩:=bE H
 try dsimp only at H
 by_cases c5 : t320.length < 1256584717458; rotate_left
 ·rw [if_neg c5] at H
  exact absurd H (by simp)
 rw [if_pos c5] at H
 have LMc5:=Aside0.mk c5
 clear c5
 obtain ⟨y336,hy336⟩ : ∃ y_ : List (SOp),y_ = (t320 ++ [(⟨t323,t324,t325,(⟨t326,t327,t328⟩ : SElem),t329,t330,t333,t334,t335⟩ : SOp)]):=⟨_,rfl⟩
 first | rw [Option.bind_some,← hy336] at H | rw [← hy336] at H
 have Ny336:=Aside0.mk hy336
 clear hy336
 obtain rfl:=Option.some.inj H
 go_enter Tryd.func36,Tryd.ntmps36
 try go_wp2_with (first | ((with_reducible refine gate_dst (N:=3) rfl ?_); refine bx 3 #[.int .i64 a1_0, .int .i64 a1_1, .int .i64 a1_2, .int .i64 a1_3, .int .i64 a1_4, .int .i64 a1_5, .string a1_6, .slice A1_7 l1_7.length c1_7, .int .i64 a1_8, .int .i64 a1_9, .int .i64 a1_10] 55 (h := ?_); intro gb319 hg w6 hbox hb; have BK319:=Aside0.mk (hbox); have GW319:=bz HB hg; have GE319:=bz HB hg; replace HB:=bs HB hb; clear hb hbox hg))
 have n0_:=Aside0.mk (blk_drew BK319.out)
 have n1_:=Aside0.mk (below_drew1 HB.out)
 clear BK319
 clear HB
 have BK319:=n0_
 have HB:=n1_
 clear n0_ n1_
 refine stP (fun w' => E11 w' gb319 (.int .i64 a1_0) (.int .i64 a1_1) (.int .i64 a1_2) (.int .i64 a1_3) (.int .i64 a1_4) (.int .i64 a1_5) (.string a1_6) (.slice A1_7 l1_7.length c1_7) (.int .i64 a1_8) (.int .i64 a1_9) (.int .i64 a1_10)) 7 (e11 BK319) (h:=fun hHeld => ?_)
 generalize w6.drew = w7 at BK319 HB hHeld ⊢
 refine pu0 0 5 1 (h := ?_)
 refine tk0 hHeld 2 7 5 (h := ?_)
 refine on0 1 (some 6) 7 (h:=fun K hK => ?_)
 refine gS Tryd.func14 #[.slice A0 l0.length c0] (h := ?_)
 with_reducible refine (r0_CopyOps.calls k _ _ l0 t320 _ ?side1 ?side2 A3.out).mono ?_
 (case side1 => exact cb HR0 HB)
 (case side2 => exact HC0.out)
 rintro e w8 ⟨v321,rfl,ho0,hb⟩
 refine ⟨_,rfl, ?_⟩
 have n0_:=Aside0.mk (Kd.S_lower (Kd.S_newB ho0 (kk BK319)) (below_size (bw HB)))
 have n1_:=bl BK319 hb
 have n2_:=bs HB hb
 clear BK319
 clear HB
 have HO322:=n0_
 have BK319:=n1_
 have HB:=n2_
 clear n0_ n1_ n2_
 (try clear hb)
 (try clear hb2)
 (try clear hk)
 (try clear hi)
 (try clear ho0)
 refine hK.out _ _ (e11 BK319) (fun hHeld => ?_)
 clear hK K
 refine nn 6 (h := ?_)
 refine on0 3 (some 8) 15 (h:=fun K hK => ?_)
 refine gS Tryd.func39 #[.agg #[.int .i64 a1_0, .int .i64 a1_1, .int .i64 a1_2, .int .i64 a1_3, .int .i64 a1_4, .int .i64 a1_5, .string a1_6, .slice A1_7 l1_7.length c1_7, .int .i64 a1_8, .int .i64 a1_9, .int .i64 a1_10]] (h := ?_)
 with_reducible refine (r0_CopyOp.calls k a1_0 a1_1 a1_2 a1_3 a1_4 a1_5 a1_6 _ _ l1_7 a1_8 a1_9 a1_10 t323 t324 t325 t326 t327 t328 t329 t330 t333 t334 t335 _ ?side1 ?side2 A4.out).mono ?_
 (case side1 => exact cb HR1_7 HB)
 (case side2 => exact HC1_7.out)
 rintro e w9 ⟨v331,rfl,ho0,hb⟩
 refine ⟨_,rfl, ?_⟩
 have n0_:=Aside0.mk (Kd.S_elder' (sk HO322) (Kd.R_base ho0) hb)
 have n1_:=Aside0.mk (Kd.R_lower ho0 (below_size (bw HB)))
 have n2_:=bl BK319 hb
 have n3_:=bs HB hb
 clear HO322
 clear BK319
 clear HB
 have HO322:=n0_
 have HO332:=n1_
 have BK319:=n2_
 have HB:=n3_
 clear n0_ n1_ n2_ n3_
 (try clear hb)
 (try clear hb2)
 (try clear hk)
 (try clear hi)
 (try clear ho0)
 obtain ⟨Ao11,co11,eo11⟩:=Kd.R_slice HO332.out
 (first | subst eo11 | (injection eo11 with f1_ f2_ f3_; have f4_:=f1_.symm; have f5_:=f3_.symm; clear f1_ f2_ f3_; subst f4_; subst f5_))
 refine hK.out _ _ (e11 BK319) (fun hHeld => ?_)
 clear hK K
 refine nn 8 (h := ?_)
 refine on0 4 (some 9) 31 (h:=fun K hK => ?_)
 refine value_ (w1 := ?_) (v := ?_) (by rfl) rfl ?_ ?_
 rotate_left 2
 ·go_simp
  constructor
  ·rfl
  rfl
 refine hK.out _ _ ⟨(blk_cell (blk_alloc BK319.out _) 0).trans rfl,(blk_cell (blk_alloc BK319.out _) 1).trans rfl,(blk_cell (blk_alloc BK319.out _) 2).trans rfl,(blk_cell (blk_alloc BK319.out _) 3).trans rfl,(blk_cell (blk_alloc BK319.out _) 4).trans rfl,(blk_cell (blk_alloc BK319.out _) 5).trans rfl,(blk_cell (blk_alloc BK319.out _) 6).trans rfl,(blk_cell (blk_alloc BK319.out _) 7).trans rfl,(blk_cell (blk_alloc BK319.out _) 8).trans rfl,(blk_cell (blk_alloc BK319.out _) 9).trans rfl,(blk_cell (blk_alloc BK319.out _) 10).trans rfl⟩ (fun hHeld => ?_)
 clear hK K
 refine nn 9 (h := ?_)
 refine on0 5 (some 10) 63 (h:=fun K hK => ?_)
 refine Kd.S_append_step kOp (w0:=w) w.heap.size (by rfl) (.tmp 6) (.tmp 9) 24 55 (.agg #[(.int .i64 0),(.int .i64 0),(.int .i64 0),(.int .i64 0),(.int .i64 0),(.int .i64 0),(.string ⟨#[]⟩),(.slice none 0 0),(.int .i64 0),(.int .i64 0),(.int .i64 0)]) 112 rfl Tryd.underlying24 info55 rfl (by decide) (by omega) v321 t320 (⟨t323,t324,t325,(⟨t326,t327,t328⟩ : SElem),t329,t330,t333,t334,t335⟩ : SOp) [.int .i64 t323, .int .i64 t324, .int .i64 t325, .int .i64 t326, .int .i64 t327, .int .i64 t328, .string t329, .slice Ao11 t330.length co11, .int .i64 t333, .int .i64 t334, .int .i64 t335] (fun k_ => k_ ≠ gb319) (fun k_ => some k_ = (.slice Ao11 t330.length co11 : Value).ownBlock) rfl rfl ?aP (fun k_ hk_ => ((Kd.R_mono (ok':=fun k_ => ((fun k_ => k_ ≠ gb319)) k_ ∧ some k_ ≠ (v321 : Value).ownBlock) (Kd.R_types (Kd.R_apart' (HO332.out) (Kd.S_typed HO322.out) (by decide)) BK319.out (by decide)) (fun k_ hk => ⟨hk.2,hk.1.2⟩))).1 k_ hk_.symm) ?aF ?aO ?aB ?aS ?aL ?_
 (case aP => exact kOp_mkM _ _ _ (⟨t323,t324,t325,(⟨t326,t327,t328⟩ : SElem),t329,t330,t333,t334,t335⟩ : SOp) (Kd.R_mono (Kd.R_tight rfl (Kd.R_mono (ok':=fun k_ => ((fun k_ => k_ ≠ gb319)) k_ ∧ some k_ ≠ (v321 : Value).ownBlock) (Kd.R_types (Kd.R_apart' (HO332.out) (Kd.S_typed HO322.out) (by decide)) BK319.out (by decide)) (fun k_ hk => ⟨hk.2,hk.1.2⟩))) (fun _ h_ => h_)))
 (case aB => exact (bw HB))
 (case aF => exact (fun k_ hk => Kd.freshB (kk BK319) k_ hk))
 (case aO => exact (by (with_reducible repeat (first | apply Kd.S_alloc | apply Kd.S_drewN | apply Kd.S_drew)); exact Kd.S_mono HO322.out (fun k_ hk => ⟨hk.1.2,fun e_ => hk.2 e_⟩)))
 (case aS => exact (below_size (bw HB)))
 (case aL => have:=LMc5.out; omega)
 intro v337 w10 ho hb hg hat
 rw [← Ny336.out] at ho
 have n0_:=Aside0.mk (blk_grown (kk BK319) hg (Kd.S_away HO322.out (fun _ hk => hk.1.2)))
 have n1_:=Aside0.mk (hb)
 have n2_:=Aside0.mk (ho)
 clear BK319
 clear HB
 clear HO322
 clear HO332
 have BK319:=n0_
 have HB:=n1_
 have HO338:=n2_
 clear n0_ n1_ n2_
 clear ho hb hg hat
 refine hK.out _ _ (e11 BK319) (fun hHeld => ?_)
 clear hK K
 refine nn 10 (h := ?_)
 refine pu0 6 4 127 (h := ?_)
 refine dn0 (h := ?_)
 try go_wp2
 go_ret
 exact ⟨_,re,by (with_reducible repeat (first | apply Kd.S_alloc | apply Kd.S_drewN | apply Kd.S_drew)); exact Kd.S_mono HO338.out (fun _ hk => trivial),bw HB⟩
end Go.Proofs.YtonoaflfobajcaaDoor.L
end

section
namespace Go.Proofs.YtonoaflfobajcaaDoor.L
open Go.RowKit Go.Proofs.YtonoaflfobajcaaDoorW.PrintWords Go.Proofs.YtonoaflfobajcaaDoorW.PrintLast Go.Proofs.YtonoaflfobajcaaDoorW.PrintMore
set_option linter.unusedVariables false
set_option linter.unusedSimpArgs false
abbrev RE (w : World) (base : Nat) (v : Value) (xs : List SElem) : Prop:=kElem.R 43 w base (fun _ => True) v xs
theorem RE_set {w : World} {base g n c : Nat} {xs : List SElem} (h : RE w base (.slice (some ⟨g,0,none⟩) n c) xs) (i : Nat) (hi : i < n) (x : SElem) :
  RE (((w.setCell ⟨g,i * 3,none⟩ (.int .i64 x.f0)).setCell ⟨g,i * 3 + 1,none⟩ (.int .i64 x.f1)).setCell ⟨g,i * 3 + 2,none⟩ (.int .i64 x.f2)) base (.slice (some ⟨g,0,none⟩) n c) (xs.set i x) ∧
   w.grownBy (((w.setCell ⟨g,i * 3,none⟩ (.int .i64 x.f0)).setCell ⟨g,i * 3 + 1,none⟩ (.int .i64 x.f1)).setCell ⟨g,i * 3 + 2,none⟩ (.int .i64 x.f2)) (some g):=by
 obtain ⟨cs,hl,hM,hc,hf⟩:=Kd.R_elem h zElem (i : Int) (by omega) (by omega)
 have hl3 : cs.length = 3:=hl
 have:=Kd.R_seg h (i : Int) (by omega) (by omega) (c:=cs) (seg:=[.int .i64 x.f0, .int .i64 x.f1, .int .i64 x.f2]) (j:=0) (x':=x) (okp:=fun k => True ∧ k ≠ g) hl hc (by show 0 + 3 ≤ 3; omega) (by
  have : cs.take 0 ++ [Value.int .i64 x.f0, .int .i64 x.f1, .int .i64 x.f2] ++ cs.drop (0 + [Value.int .i64 x.f0, .int .i64 x.f1, .int .i64 x.f2].length) = [.int .i64 x.f0, .int .i64 x.f1, .int .i64 x.f2]:=by
   rw [List.take_zero,List.nil_append,List.drop_eq_nil_of_le (by simp; omega),List.append_nil]
  rw [this]; exact kElem_mkM _ _ _ x) (fun k hk => hk)
 exact this
theorem grown_then {w w1 w2 : World} {row : Option Nat} (h : w.grownBy w1 row) (k : Below w1.heap.size w1 w2) : w.grownBy w2 row :=
 ⟨k.os.trans h.os,k.tape.trans h.tape,k.output.trans h.output,Nat.le_trans h.size k.size,fun i hi hne => (k.block i (Nat.lt_of_lt_of_le hi h.size)).trans (h.block i hi hne)⟩
theorem grown_grown {w w1 w2 : World} {row : Option Nat} (h : w.grownBy w1 row) (k : w1.grownBy w2 row) : w.grownBy w2 row :=
 ⟨k.os.trans h.os,k.tape.trans h.tape,k.output.trans h.output,Nat.le_trans h.size k.size,fun i hi hne => (k.block i (Nat.lt_of_lt_of_le hi h.size) hne).trans (h.block i hi hne)⟩
theorem filter_first (l : List SElem) (p : SElem → Bool) {i : Nat} (hi : i < l.length) (hpi : p (rd_Elem l (i : Int)) = true) (hlt : ∀ j,j < i → p (rd_Elem l (j : Int)) = false) : l.take i = (l.take (i + 1)).filter (fun x => !p x):=by
 rw [List.take_succ_eq_append_getElem hi,List.filter_append]
 rw [rd_Elem_nat _ _ hi] at hpi
 have h1 : (l.take i).filter (fun x => !p x) = l.take i:=by
  rw [List.filter_eq_self]
  intro x hx
  obtain ⟨j,hj,rfl⟩:=List.mem_take_iff_getElem.1 hx
  have:=hlt j (by omega)
  rw [rd_Elem_nat _ _ (by omega)] at this
  simp [this]
 rw [h1]; simp [hpi]
def zs (n : Nat) : List Value:=(Builtin.zeroCells #[.int .i64 0, .int .i64 0, .int .i64 0] n).toList
theorem zs_len (n : Nat) : (zs n).length = n * 3:=by simp [zs,Builtin.zeroCells]
theorem zs_one (n : Nat) : ∀ v ∈ zs n,v.oneCell' = true:=by
 intro v hv
 unfold zs Builtin.zeroCells at hv
 simp only [Array.toList_map,List.mem_map] at hv
 obtain ⟨i,_,rfl⟩:=hv
 have h : i % 3 = 0 ∨ i % 3 = 1 ∨ i % 3 = 2:=by omega
 show (#[Value.int .i64 0, .int .i64 0, .int .i64 0][i % 3]!).oneCell' = true
 rcases h with h | h | h <;> rw [h] <;> rfl
theorem run_clear_elem (w : World) (ty : TypeId) (b o n c : Nat) (hn : 0 < n) (hc : ∀ j,j < n * 3 → (w.cell? ⟨b,o + j,none⟩).isSome = true) (hf : ∀ j,j < n * 3 → w.frozen? ⟨b,o + j,none⟩ = false) :
  (Builtin.clear_ #[23] ty #[.slice (some ⟨b,o,none⟩) n c]).run Tryd.prog w = .ok (.tuple #[]) (w.setCells b o (zs n)):=by
 have hst:=run_storeCells_cells (P:=Tryd.prog) b o (zs n) 0 w (by rw [zs_len]; simpa using hc) (by rw [zs_len]; simpa using hf) (zs_one n)
 simp only [Nat.add_zero] at hst
 have hv:=Tryd.zeroValue43
 obtain ⟨m,rfl⟩ : ∃ m,n = m + 1:=⟨n - 1,by omega⟩
 simp only [Builtin.clear_]
 unfold zs at hst ⊢
 simp [run_underlying Tryd.underlying23,hv,Value.cells,hst]
theorem RE_clear {w : World} {base g n c : Nat} {xs : List SElem} (h : RE w base (.slice (some ⟨g,0,none⟩) n c) xs) (a : Nat) (ha : a ≤ n) (seg : List Value) (hs : a * 3 + seg.length ≤ n * 3) :
  RE (w.setCells g (a * 3) seg) base (.slice (some ⟨g,0,none⟩) a c) (xs.take a) ∧ w.grownBy (w.setCells g (a * 3) seg) (some g) ∧ (∀ j,j < n * 3 → (w.cell? ⟨g,j,none⟩).isSome = true) ∧ ∀ j,w.frozen? ⟨g,j,none⟩ = false:=by
 have hn:=(Kd.R_reads' h).1
 obtain ⟨_,inner0,own0,hr0⟩:=h
 have hT:=Kd.R_take (m:=a) (show RE w base (.slice (some ⟨g,0,none⟩) n c) xs from ⟨fun _ _ => trivial,inner0,own0,hr0⟩) (by omega)
 obtain ⟨hok,inner,ho,hr⟩:=hT
 obtain ⟨ho1,ho2⟩:=ho
 obtain ⟨_,ho02⟩:=own0
 rcases ho02 with ⟨hv,_⟩ | ⟨g0,cap0,cur0,hv0,hb0,hh0,hnc0,hcm0,hcs0,ht0⟩
 ·cases hv
 rcases ho2 with ⟨hv,_⟩ | ⟨g',cap',cur,hv,hb,hh,hnc',hcm,hcs,ht⟩
 ·cases hv
 injection hv with hA _ hc
 injection hA with hA
 injection hA with hg
 subst hg; subst hc
 injection hv0 with hA _ hc
 injection hA with hA
 injection hA with hg
 subst hg; subst hc
 have e : cur0 = cur:=by
  rw [hh] at hh0; injection hh0 with hh0; injection hh0 with hh0; exact hh0.symm
 subst e
 have hfit : a * 3 + seg.length ≤ cur0.size:=by
  have h3 : kElem.sz = 3:=rfl
  rw [hcs0,h3]; omega
 obtain ⟨cur',h3,h4,h5⟩:=setCells_row seg (a * 3) w cur0 hh hfit
 obtain ⟨s1,s2,s3,s4⟩:=setCells_same g seg (a * 3) w
 refine ⟨⟨hok,inner,⟨ho1, .inr ⟨g,c,cur',by rw [List.length_take,Nat.min_eq_left (by omega)],hb,h3,hnc',hcm,by rw [h4,hcs], ?_⟩⟩,hr⟩,⟨s1,s2,s3,by rw [s4]; exact Nat.le_refl _,fun k _ hk => setCells_far seg _ k (fun he => hk (by rw [he]))⟩,fun j hj => ?_,fun j => blk_frozen hh j⟩
 ·rw [← ht,h5]
  have hl : (cur0.toList.take (a * 3)).length = a * 3:=by rw [List.length_take,Array.length_toList]; omega
  have h33 : (xs.take a).length * 3 = a * 3:=by rw [List.length_take]; omega
  show List.take ((xs.take a).length * 3) _ = List.take ((xs.take a).length * 3) _
  rw [h33,List.append_assoc,List.take_append_of_le_length (by omega),List.take_take,Nat.min_self]
 ·rw [cell_of_row w g j cur0 _ (0,0) hh,Array.getElem?_eq_getElem (by have h3 : kElem.sz = 3:=rfl; rw [hcs0,h3]; omega)]
  rfl
set_option maxHeartbeats 4000000 in
set_option maxRecDepth 1000000 in
theorem DeleteFuncElem (gf : Nat) (lb : Array Value) (base c : Nat) (A : Option Addr) (l : List SElem) (p : SElem → Bool) (w : World) (eg : ∀ args w,(callFunc gf args).run Tryd.prog w = .ok (.enter gf args) w)
  (hm : l.length ≤ 1000000000) (h0 : RE w base (.slice A l.length c) l)
  (hs : ∀ W x,x ∈ l → w.grownBy W (Value.slice A l.length c).ownBlock → Calls Tryd.prog gf (#[elV x] ++ lb) W fun e w' => e = .returned (.bool (p x)) ∧ Below W.heap.size W w') :
  Calls Tryd.prog 86 #[.slice A l.length c, .func (.func gf) #[] lb] w fun e w' => ∃ v,e = .returned v ∧ RE w' base v (l.filter fun x => !p x) ∧ w.grownBy w' (Value.slice A l.length c).ownBlock:=by
 have hu1:=Tryd.underlying23
 have hu2:=Tryd.underlying43
 have cI:=IndexFuncElem gf lb A c l (fun i => p (rd_Elem l (i : Int))) (fun _ W => Below w.heap.size w W) (fun _ W => Below w.heap.size w W) w eg (by omega) (Below.refl _ _) (fun i W hb => (Kd.R_reads' (Kd.R_below h0 hb)).2.2) (fun i W hi hb => by
  refine (hs W (rd_Elem l (i : Int)) (by rw [rd_Elem_nat _ _ hi]; exact List.getElem_mem hi) (grown_of_below hb _)).mono ?_
  rintro e w' ⟨rfl,hb'⟩
  have : Below w.heap.size w w':=below_step hb hb'
  exact ⟨rfl,fun _ => this,fun _ => this⟩)
 have HI:=Aside0.mk (firstAt_cases (fun i : Nat => p (rd_Elem l (i : Int))) l.length)
 generalize firstAt (fun i : Nat => p (rd_Elem l (i : Int))) l.length l.length 0 = i0 at cI HI
 have CI:=Aside0.mk cI
 have HS:=Aside0.mk hs
 have H0:=Aside0.mk h0
 clear cI hs h0
 go_enter Tryd.func86,Tryd.ntmps86
 go_wp2_with fail
 refine CI.out.mono ?_
 rintro e w1 ⟨rfl,hpost⟩
 have HP:=Aside0.mk hpost
 clear hpost CI
 rcases HI.out with ⟨i,hi,hpi,hlt,rfl⟩ | ⟨hno,rfl⟩
 ·have hne : ((i : Int) == -1) = false:=by simp
  obtain ⟨g,cap,hv,hbg,hgl,_⟩:=Kd.R_form H0.out (by omega)
  injection hv with ha _ hcap
  subst ha; subst hcap
  have hb1 : Below w.heap.size w w1:=by rcases HP.out with ⟨_,_,_,_,h⟩ | ⟨_,h⟩ <;> exact h
  have HG1:=Aside0.mk (grown_of_below hb1 (some g))
  have HR1:=Aside0.mk (Kd.R_below H0.out hb1)
  have HFT:=Aside0.mk (filter_first l p hi hpi hlt)
  clear HP HI hb1 H0
  go_wp2
  go_loopg [5,6,7] l.length (fun gg s5 s6 _ wr => ∃ (a b : Nat) (xs : List SElem),a < b ∧ b ≤ l.length ∧ l.length - b ≤ gg ∧ s5 = .int .i64 a ∧ s6 = .int .i64 b ∧ Aside0 (xs.length = l.length) ∧ Aside0 (xs.take a = (l.take b).filter (fun x => !p x)) ∧ Aside0 (xs.drop b = l.drop b) ∧ Aside0 (RE wr base (.slice (some ⟨g,0,none⟩) l.length c) xs) ∧ Aside0 (w.grownBy wr (some g)))
  case atStart => exact ⟨i,i + 1,l,by omega,by omega,by omega,rfl,by go_num,⟨rfl⟩,HFT,⟨rfl⟩,HR1,HG1⟩
  case round =>
   clear HFT HR1 HG1
   obtain ⟨a,b,xs,hab,hbn,hgk,rfl,rfl,HL,HF,HD,HR,HG⟩:=hrel
   by_cases hlt2 : b < l.length
   ·obtain ⟨g',rfl⟩ : ∃ g',gk = g' + 1:=⟨gk - 1,by omega⟩
    have hltz : (b : Int) < (l.length : Int):=by omega
    have h0z : (0 : Int) ≤ (b : Int):=by omega
    obtain ⟨hn,_,hC⟩:=Kd.R_reads' HR.out
    obtain ⟨ad,hA,x0,x1,x2⟩:=at_Elem hC (b : Int) h0z (by omega)
    injection hA with hA
    subst hA
    clear hC hn
    simp only [Int.toNat_natCast,add_plain] at x0 x1 x2
    have hx : rd_Elem xs (b : Int) = rd_Elem l (b : Int):=by
     have hb2 : b < xs.length:=by rw [HL.out]; exact hlt2
     rw [rd_Elem_nat _ _ hb2,rd_Elem_nat _ _ hlt2]
     have:=HD.out
     rw [List.drop_eq_getElem_cons hb2,List.drop_eq_getElem_cons hlt2] at this
     injection this
    rw [hx] at x0 x1 x2
    have HM:=Aside0.mk (show rd_Elem l (b : Int) ∈ l by rw [rd_Elem_nat _ _ hlt2]; exact List.getElem_mem hlt2)
    generalize hxe : rd_Elem l (b : Int) = x at x0 x1 x2 HM
    have HXE:=Aside0.mk hxe
    clear hxe hx
    have hal : Below wr.heap.size wr (wr.alloc (.cells #[.int .i64 x.f0, .int .i64 x.f1, .int .i64 x.f2] 43)):=below_alloc (Below.refl _ _) _
    have HC:=Aside0.mk (HS.out _ x HM.out (grown_then HG.out hal))
    have HG2:=Aside0.mk (grown_then HG.out hal)
    have HR2:=Aside0.mk (Kd.R_below HR.out hal)
    have HLT : xs.length = l.length:=HL.out
    have ha1 : a < xs.length:=by omega
    clear hal HG HR
    go_wp2_with fail
    refine HC.out.mono ?_
    rintro e w2 ⟨rfl,hb2⟩
    have d0:=pw_cell_below hb2 (show (wr.alloc (.cells #[.int .i64 x.f0, .int .i64 x.f1, .int .i64 x.f2] 43)).cell? ⟨wr.heap.size,0,none⟩ = some (.int .i64 x.f0) by simp)
    have d1:=pw_cell_below hb2 (show (wr.alloc (.cells #[.int .i64 x.f0, .int .i64 x.f1, .int .i64 x.f2] 43)).cell? ⟨wr.heap.size,1,none⟩ = some (.int .i64 x.f1) by simp)
    have d2:=pw_cell_below hb2 (show (wr.alloc (.cells #[.int .i64 x.f0, .int .i64 x.f1, .int .i64 x.f2] 43)).cell? ⟨wr.heap.size,2,none⟩ = some (.int .i64 x.f2) by simp)
    have HG3:=Aside0.mk (grown_then HG2.out hb2)
    have HR3:=Aside0.mk (Kd.R_below HR2.out hb2)
    clear hb2 HG2 HR2 x0 x1 x2 HC
    have hxl : l[b] = x:=by rw [← rd_Elem_nat _ _ hlt2]; exact HXE.out
    have hD2 : xs.drop (b + 1) = l.drop (b + 1):=by
     have:=HD.out
     rw [List.drop_eq_getElem_cons (show b < xs.length by omega),List.drop_eq_getElem_cons hlt2] at this
     injection this
    have HD2:=Aside0.mk hD2
    have hF2:=HF.out
    cases hp : p x with
    | true =>
     have hF3 : xs.take a = (l.take (b + 1)).filter (fun x => !p x):=by
      rw [List.take_succ_eq_append_getElem hlt2,List.filter_append,hxl,← hF2]; simp [hp]
     have HF3:=Aside0.mk hF3
     clear hF3 hF2 hD2 hp HF HD hxl
     go_wp2
     go_roundg g'
     case measure => omega
     case rel => exact ⟨a,b + 1,xs,by omega,by omega,by omega,rfl,by go_num,HL,HF3,HD2,HR3,HG3⟩
    | false =>
     have hF3 : (xs.set a x).take (a + 1) = (l.take (b + 1)).filter (fun x => !p x):=by
      rw [List.take_succ_eq_append_getElem hlt2,List.filter_append,hxl,← hF2,List.take_succ_eq_append_getElem (by simp; omega),List.take_set_of_le (Nat.le_refl a)]; simp [hp]
     have HF3:=Aside0.mk hF3
     have HL3:=Aside0.mk (show (xs.set a x).length = l.length by rw [List.length_set]; exact HLT)
     have HD3:=Aside0.mk (show (xs.set a x).drop (b + 1) = l.drop (b + 1) by rw [List.drop_set_of_lt (by omega)]; exact hD2)
     obtain ⟨cs,hcl,_,hcc,hff⟩:=Kd.R_elem HR3.out zElem (a : Int) (by omega) (by omega)
     have hcl3 : cs.length = 3:=hcl
     have hR4:=RE_set HR3.out a (by omega) x
     have HR4:=Aside0.mk hR4.1
     have HG4:=Aside0.mk (grown_grown HG3.out hR4.2)
     obtain ⟨q0,q1,q2,rfl⟩ : ∃ q0 q1 q2,cs = [q0,q1,q2]:=by
      match cs,hcl3 with
      | [q0,q1,q2],_ => exact ⟨q0,q1,q2,rfl⟩
     have e0 : w2.cell? ⟨g,a * 3,none⟩ = some q0:=hcc 0 _ rfl
     have e1 : w2.cell? ⟨g,a * 3 + 1,none⟩ = some q1:=hcc 1 _ rfl
     have e2 : w2.cell? ⟨g,a * 3 + 2,none⟩ = some q2:=hcc 2 _ rfl
     have f0 : w2.frozen? ⟨g,a * 3,none⟩ = false:=hff 0
     have f1 : w2.frozen? ⟨g,a * 3 + 1,none⟩ = false:=hff 1
     have f2 : w2.frozen? ⟨g,a * 3 + 2,none⟩ = false:=hff 2
     clear hF3 hF2 hD2 hp HF HD hxl hR4 hcc hff hcl hcl3 HG3 HR3
     go_wp2
     go_roundg g'
     case measure => omega
     case rel => exact ⟨a + 1,b + 1,xs.set a x,by omega,by omega,by omega,by go_num,by go_num,HL3,HF3,HD3,HR4,HG4⟩
   ·obtain rfl : b = l.length:=by omega
    have hltz : ¬ (l.length : Int) < (l.length : Int):=by omega
    obtain ⟨r1,r2,r3,r4⟩:=RE_clear HR.out a (by omega) (zs (l.length - a)) (by rw [zs_len]; omega)
    have HR5:=Aside0.mk r1
    have HG5:=Aside0.mk (grown_grown HG.out r2)
    have hcl : ∀ ty,(Builtin.clear_ #[23] ty #[.slice (some ⟨g,a * 3,none⟩) (l.length - a) (c - a)]).run Tryd.prog wr = .ok (.tuple #[]) (wr.setCells g (a * 3) (zs (l.length - a))) :=
     fun ty => run_clear_elem wr ty g (a * 3) _ _ (by omega) (fun j hj => r3 _ (by omega)) (fun j hj => r4 _)
    have hF5:=HF.out
    rw [List.take_length] at hF5
    have HF5:=Aside0.mk hF5
    have hnc:=(Kd.R_reads' HR.out).2.1
    have hac : c ≠ a:=by omega
    have hac1 : (a : Int) ≤ (c : Int):=by omega
    have hac2 : ¬ (c : Int) < (a : Int):=by omega
    clear r1 r2 r3 r4 HR HG HD HF hF5
    go_wp2
    go_ret
    exact ⟨_,rfl,by rw [← HF5.out]; exact HR5.out,HG5.out⟩
 ·go_wp2
  go_ret
  have hb1 : Below w.heap.size w w1:=by rcases HP.out with ⟨_,_,_,_,h⟩ | ⟨_,h⟩ <;> exact h
  refine ⟨_,rfl, ?_,grown_of_below hb1 _⟩
  have : l.filter (fun x => !p x) = l:=by
   rw [List.filter_eq_self]
   intro x hx
   obtain ⟨j,hj,rfl⟩:=List.getElem_of_mem hx
   have:=hno j hj
   rw [rd_Elem_nat _ _ hj] at this
   simp [this]
  rw [this]
  exact Kd.R_below H0.out hb1
end Go.Proofs.YtonoaflfobajcaaDoor.L
end

section
namespace Go.Proofs.YtonoaflfobajcaaDoor.L
open Go.RowKit Go.Proofs.YtonoaflfobajcaaDoorW.PrintWords Go.Proofs.YtonoaflfobajcaaDoorW.PrintLast Go.Proofs.YtonoaflfobajcaaDoorW.PrintMore
set_option linter.unusedVariables false
set_option linter.unusedSimpArgs false
abbrev MapE (w : World) (b n : Nat) (S : Int × Int × Int → Bool) : Prop:=MapB encE 43 4 w b n S
set_option maxHeartbeats 4000000 in
set_option maxRecDepth 1000000 in
theorem seen1_calls (c1 c2 b1 b2 n1 n2 : Nat) (x : SElem) (G T : Int × Int × Int → Bool) (W : World) (h1 : W.cell? ⟨c1,0,none⟩ = some (.map (some b1))) (h2 : W.cell? ⟨c2,0,none⟩ = some (.map (some b2)))
  (hG : MapE W b1 n1 G) (hT : MapE W b2 n2 T) (hx : inI x.f0 ∧ inI x.f1 ∧ inI x.f2) :
  Calls Tryd.prog 111 #[elV x, .pointer (some ⟨c1,0,none⟩), .pointer (some ⟨c2,0,none⟩)] W fun e w' => e = .returned (.bool (G (x.f0,x.f1,x.f2) || !T (x.f0,x.f1,x.f2))) ∧ Below W.heap.size W w':=by
 have l1:=World.block_lt_of_cell? W _ h1
 have l2:=World.block_lt_of_cell? W _ h2
 simp only at l1 l2
 obtain ⟨kl,hkl⟩:=keyE (x:=(x.f0,x.f1,x.f2)) hx.1 hx.2.1 hx.2.2
 have hal : Below W.heap.size W (W.alloc (.cells #[.int .i64 x.f0, .int .i64 x.f1, .int .i64 x.f2] 43)):=below_alloc (Below.refl _ _) _
 have k1:=(hG.below hal hG.lt).look lawE Tryd.underlying117 Tryd.underlying4 zeroB (x.f0,x.f1,x.f2) hkl
 have k2:=(hT.below hal hT.lt).look lawE Tryd.underlying117 Tryd.underlying4 zeroB (x.f0,x.f1,x.f2) hkl
 have d1:=pw_cell_below hal h1
 have d2:=pw_cell_below hal h2
 simp only [encE] at k1 k2
 have HAL:=Aside0.mk hal
 unfold elV
 generalize hg : G (x.f0,x.f1,x.f2) = gq at k1 ⊢
 generalize ht : T (x.f0,x.f1,x.f2) = tq at k2 ⊢
 clear hG hT hx hkl hal h1 h2 hg ht
 cases gq
 ·go_enter Tryd.func111,Tryd.ntmps111
  go_wp2
  go_ret
  exact ⟨rfl,HAL.out⟩
 ·go_enter Tryd.func111,Tryd.ntmps111
  go_wp2
  go_ret
  exact ⟨rfl,HAL.out⟩
end Go.Proofs.YtonoaflfobajcaaDoor.L
end

section
namespace Go.Proofs.YtonoaflfobajcaaDoor.L
open Go.RowKit Go.Proofs.YtonoaflfobajcaaDoorW.PrintWords Go.Proofs.YtonoaflfobajcaaDoorW.PrintLast Go.Proofs.YtonoaflfobajcaaDoorW.PrintMore
attribute [local go_sem] max2_int min2_int max_two min_two max_three min_three max_four min_four
set_option linter.unusedVariables false
set_option linter.unusedSimpArgs false
def op_All.l0 : Nat → List (SElem) → Int → Int → Int → Int → Int → Int → Int → Int → ByteArray → List (SElem) → Int → Int → Int → Option ((List (SElem)))
 | 0,_,_,_,_,_,_,_,_,_,_,_,_,_,_ => none
 | k + 1,x2,x5,x6,x340000,x340001,x340002,x340003,x340004,x340005,x340006,x340007,x340008,x340009,x340010 => if x6 < x5 then ((op_At.f x340000 x340001 x340002 x340003 x340004 x340005 x340006 x340007 x340008 x340009 x340010 x6).bind fun bt341 => (if x2.length < 5864062014805 then (op_All.l0 k (x2 ++ [(⟨bt341.1,bt341.2.1,bt341.2.2⟩ : SElem)]) x5 (wrap64 (x6 + 1)) x340000 x340001 x340002 x340003 x340004 x340005 x340006 x340007 x340008 x340009 x340010) else (none))) else (some x2)
def op_All.f (k : Nat) (a0_0 : Int) (a0_1 : Int) (a0_2 : Int) (a0_3 : Int) (a0_4 : Int) (a0_5 : Int) (a0_6 : ByteArray) (l0_7 : List (SElem)) (a0_8 : Int) (a0_9 : Int) (a0_10 : Int) : Option ((List (SElem))):=(op_Size.f a0_0 a0_1 a0_2 a0_3 a0_4 a0_5 a0_6 l0_7 a0_8 a0_9 a0_10).bind fun t340 => (op_All.l0 k ([] : List (SElem)) t340 0 a0_0 a0_1 a0_2 a0_3 a0_4 a0_5 a0_6 l0_7 a0_8 a0_9 a0_10)
set_option maxHeartbeats 8000000 in
set_option maxRecDepth 100000 in
theorem op_All.calls (k : Nat) (a0_0 : Int) (a0_1 : Int) (a0_2 : Int) (a0_3 : Int) (a0_4 : Int) (a0_5 : Int) (a0_6 : ByteArray) (A0_7 : Option Addr) (c0_7 : Nat) (l0_7 : List (SElem)) (a0_8 : Int) (a0_9 : Int) (a0_10 : Int) (r : List (SElem)) (w : World) (hr0_7 : Kd.C kElem w A0_7 l0_7.length l0_7) (hc0_7 : l0_7.length ≤ c0_7) (h : op_All.f k a0_0 a0_1 a0_2 a0_3 a0_4 a0_5 a0_6 l0_7 a0_8 a0_9 a0_10 = some r) :
  Calls Tryd.prog 93 #[.agg #[.int .i64 a0_0, .int .i64 a0_1, .int .i64 a0_2, .int .i64 a0_3, .int .i64 a0_4, .int .i64 a0_5, .string a0_6, .slice A0_7 l0_7.length c0_7, .int .i64 a0_8, .int .i64 a0_9, .int .i64 a0_10]] w fun e w' => ∃ v0_ : Value,e = .returned (v0_) ∧ Kd.R kElem 43 w' w.heap.size (fun _ => True) v0_ r ∧ Below w.heap.size w w':=by
 have hu55:=Tryd.underlying55
 have HR0_7:=Aside0.mk hr0_7
 have HC0_7:=Aside0.mk hc0_7
 clear hr0_7 hc0_7
 have HB:=Aside0.mk (Below.refl w.heap.size w)
 unfold op_All.f at h; have H:=h
 clear h
 obtain ⟨t340,A2,H⟩:=bE H
 have H':=Aside0.mk H
 clear H
 go_enter Tryd.func93,Tryd.ntmps93
 go_wp2_with (first | ((with_reducible refine gate_dst (N:=1) rfl ?_); refine bx 1 #[.int .i64 a0_0, .int .i64 a0_1, .int .i64 a0_2, .int .i64 a0_3, .int .i64 a0_4, .int .i64 a0_5, .string a0_6, .slice A0_7 l0_7.length c0_7, .int .i64 a0_8, .int .i64 a0_9, .int .i64 a0_10] 55 (h := ?_); intro gb339 hg w3 hbox hb; have BK339:=Aside0.mk (hbox); have GW339:=bz HB hg; have GE339:=bz HB hg; replace HB:=bs HB hb; clear hb hbox hg; obtain ⟨_,_,_,_,_,_,_,_,_,_,_,_,_,_,_,_,_,_,_,_,_,_⟩:=kc11 BK339) | ((with_reducible refine gate_callee (f:=95) rfl ?_); refine gl (some 5) Tryd.func95 #[.agg #[.int .i64 a0_0, .int .i64 a0_1, .int .i64 a0_2, .int .i64 a0_3, .int .i64 a0_4, .int .i64 a0_5, .string a0_6, .slice A0_7 l0_7.length c0_7, .int .i64 a0_8, .int .i64 a0_9, .int .i64 a0_10]] (h := ?_); (with_reducible refine (op_Size.calls a0_0 a0_1 a0_2 a0_3 a0_4 a0_5 a0_6 _ _ l0_7 a0_8 a0_9 a0_10 t340 _ ?side1 ?side2 A2.out).mono ?_); (case side1 => exact cb HR0_7 HB); (case side2 => exact HC0_7.out); rintro e w5 ⟨rfl,hb⟩; refine ⟨_,rfl, ?_⟩; replace BK339:=bl BK339 hb; replace HB:=bs HB hb; clear hb))
 go_loopg [2,6] k (fun kq v2 v6 w' => ∃ (x2_1 : List (SElem)) (x6_1 : Int),v6 = .int .i64 x6_1 ∧ Aside0 (op_All.l0 kq x2_1 t340 x6_1 a0_0 a0_1 a0_2 a0_3 a0_4 a0_5 a0_6 l0_7 a0_8 a0_9 a0_10 = some r) ∧ Aside0 (kq ≤ k) ∧ Aside0 (Kd.R kElem 43 w' w.heap.size (fun _ => True) v2 x2_1) ∧ Aside0 (w'.heap[gb339]? = some (.cells #[.int .i64 a0_0, .int .i64 a0_1, .int .i64 a0_2, .int .i64 a0_3, .int .i64 a0_4, .int .i64 a0_5, .string a0_6,(.slice A0_7 l0_7.length c0_7), .int .i64 a0_8, .int .i64 a0_9, .int .i64 a0_10] 55 (0,0))) ∧ Aside0 (Below w.heap.size w w'))
 case atStart => exact ⟨(([] : List (SElem))),(0),rf,H',⟨Nat.le_refl _⟩,⟨by first | exact Kd.R_nil _ _ _ _ _ | exact Kd.N_nil _ _ _ _ _ | exact Kd.V_nil _ _ _ _ _ | exact Kd.Q_nil _ _ _ _ _ | exact Kd.S_nil _ _ _ _ _⟩,⟨kk BK339⟩,⟨bw HB⟩⟩
 case round =>
  clear H'
  obtain ⟨x2_1,x6_1,rfl,HA,HK1,HO_2,BK339,HB⟩:=hrel
  cases gk with
  | zero => exact absurd HA.out (by simp [op_All.l0])
  | succ k1 =>
   have H:=HA.out
   clear HA
   simp only [op_All.l0] at H
   by_cases c6 : x6_1 < t340; rotate_left
   ·rw [if_neg c6] at H
    have c6b0:=decide_eq_false c6
    clear c6
    obtain rfl:=Option.some.inj H
    go_wp2
    go_ret
    exact ⟨_,re,by (with_reducible repeat (first | apply Kd.R_alloc | apply Kd.R_drewN | apply Kd.R_drew)); exact HO_2.out,bw HB⟩
   rw [if_pos c6] at H
   have c6b0:=decide_eq_true c6
   clear c6
   obtain ⟨⟨t341,t342,t343⟩,A7,H⟩:=bE H
   try dsimp only at H
   by_cases c8 : x2_1.length < 5864062014805; rotate_left
   ·rw [if_neg c8] at H
    exact absurd H (by simp)
   rw [if_pos c8] at H
   have LMc8:=Aside0.mk c8
   clear c8
   obtain ⟨y344,hy344⟩ : ∃ y_ : List (SElem),y_ = (x2_1 ++ [(⟨t341,t342,t343⟩ : SElem)]):=⟨_,rfl⟩
   first | rw [Option.bind_some,← hy344] at H | rw [← hy344] at H
   have Ny344:=Aside0.mk hy344
   clear hy344
   have H':=Aside0.mk H
   clear H
   obtain ⟨_,_,_,_,_,_,_,_,_,_,_,_,_,_,_,_,_,_,_,_,_,_⟩:=kc11 BK339
   go_wp2_with (first | ((with_reducible refine gate_callee (f:=96) rfl ?_); refine gl (some 12) Tryd.func96 #[.agg #[.int .i64 a0_0, .int .i64 a0_1, .int .i64 a0_2, .int .i64 a0_3, .int .i64 a0_4, .int .i64 a0_5, .string a0_6, .slice A0_7 l0_7.length c0_7, .int .i64 a0_8, .int .i64 a0_9, .int .i64 a0_10], .int .i64 x6_1] (h := ?_); (with_reducible refine (op_At.calls a0_0 a0_1 a0_2 a0_3 a0_4 a0_5 a0_6 _ _ l0_7 a0_8 a0_9 a0_10 x6_1 t341 t342 t343 _ ?side1 ?side2 A7.out).mono ?_); (case side1 => exact cb HR0_7 HB); (case side2 => exact HC0_7.out); rintro e w10 ⟨rfl,hb⟩; refine ⟨_,rfl, ?_⟩; replace HO_2:=rb HO_2 hb; replace BK339:=bl BK339 hb; replace HB:=bs HB hb; clear hb) | ((with_reducible refine gate_builtin (b:=.append) (xs:=#[.tmp 9, .tmp 13]) rfl ?_); at_builtin; refine Kd.R_append kElem (w0:=w) w.heap.size rfl (.tmp 9) (.tmp 13) 23 43 (.agg #[(.int .i64 0),(.int .i64 0),(.int .i64 0)]) 24 rfl Tryd.underlying23 info43 rfl (by decide) (by omega) u2 x2_1 (⟨t341,t342,t343⟩ : SElem) [.int .i64 t341, .int .i64 t342, .int .i64 t343] (fun _ => True) (fun _ => False) rfl rfl ?aP (fun _ hk => hk.elim) ?aF ?aO ?aB ?aS ?aL ?_; (case aP => exact kElem_mkM _ _ _ (⟨t341,t342,t343⟩ : SElem)); (case aB => exact (bw HB)); (case aF => exact (fun _ _ => trivial)); (case aO => exact (rk HO_2)); (case aS => exact (below_size (bw HB))); (case aL => have:=LMc8.out; omega); intro v345 w11 ho hb hg hat; rw [← Ny344.out] at ho; have n0_:=Aside0.mk (blk_grown (kk BK339) hg (Kd.R_ne HO_2.out BK339.out (by decide))); have n1_:=Aside0.mk (hb); have n2_:=Aside0.mk (ho); clear BK339; clear HB; clear HO_2; have BK339:=n0_; have HB:=n1_; have HO346:=n2_; clear n0_ n1_ n2_; clear ho hb hg hat))
   go_roundg k1
   case measure => have:=HK1.out; omega
   case rel => exact ⟨(y344),(wrap64 (x6_1 + 1)),rf,H',⟨by have:=HK1.out; omega⟩,⟨rk HO346⟩,⟨kk BK339⟩,⟨bw HB⟩⟩
def doc_Counts.l0 : Nat → List (SOp) → List Int → List (SOp) → Int → Int → Option (List Int)
 | 0,_,_,_,_,_ => none
 | k + 1,x0,x3,x10,x11,x12 => if x12 < x11 then (if 0 ≤ x12 then (if x12 < (x10.length : Int) then (if ((rd_Op x10 x12).f2) = 2 then ((tree_Find.f x0 ((rd_Op x10 x12).f6) ((rd_Op x10 x12).f7)).bind fun t352 => (if 0 ≤ t352 then (if t352 < (x3.length : Int) then (if ((rd_Op x10 x12).f8) = (rd x3 t352) then (doc_Counts.l0 k x0 (x3.set (t352 : Int).toNat (wrap64 ((rd x3 t352) + 1))) x10 x11 (wrap64 (x12 + 1))) else (doc_Counts.l0 k x0 x3 x10 x11 (wrap64 (x12 + 1)))) else (none)) else (none))) else (doc_Counts.l0 k x0 x3 x10 x11 (wrap64 (x12 + 1)))) else (none)) else (none)) else (some x3)
def doc_Counts.f (k : Nat) (l0 : List (SOp)) : Option (List Int):=if 0 ≤ (l0.length : Int) then (if ((l0.length : Int) : Int).toNat ≤ 35184372088832 then (doc_Counts.l0 k l0 (List.replicate ((l0.length : Int) : Int).toNat 0) l0 (l0.length : Int) 0) else (none)) else (none)
set_option maxHeartbeats 8000000 in
set_option maxRecDepth 100000 in
theorem doc_Counts.calls (k : Nat) (A0 : Option Addr) (c0 : Nat) (l0 : List (SOp)) (r : List Int) (w : World) (hr0 : Kd.C kOp w A0 l0.length l0) (hc0 : l0.length ≤ c0) (h : doc_Counts.f k l0 = some r) :
  Calls Tryd.prog 134 #[.slice A0 l0.length c0] w fun e w' => ∃ v0_ : Value,e = .returned (v0_) ∧ Kd.R (Kd.int .i64) 3 w' w.heap.size (fun _ => True) v0_ r ∧ Below w.heap.size w w':=by
 have hu55:=Tryd.underlying55
 have HR0:=Aside0.mk hr0
 have HC0:=Aside0.mk hc0
 clear hr0 hc0
 have HB:=Aside0.mk (Below.refl w.heap.size w)
 unfold doc_Counts.f at h; have H:=h
 clear h
 by_cases c2 : 0 ≤ (l0.length : Int); rotate_left
 ·rw [if_neg c2] at H
  exact absurd H (by simp)
 rw [if_pos c2] at H
 have c2b0:=eq_true c2
 have c2b1:=decide_eq_true c2
 clear c2
 by_cases c3 : ((l0.length : Int) : Int).toNat ≤ 35184372088832; rotate_left
 ·rw [if_neg c3] at H
  exact absurd H (by simp)
 rw [if_pos c3] at H
 have c3b0:=eq_true c3
 have c3b1:=decide_eq_true c3
 clear c3
 obtain ⟨y347,hy347⟩ : ∃ y_ : List Int,y_ = (List.replicate ((l0.length : Int) : Int).toNat 0):=⟨_,rfl⟩
 first | rw [Option.bind_some,← hy347] at H | rw [← hy347] at H
 have Ny347:=Aside0.mk hy347
 clear hy347
 have H':=Aside0.mk H
 clear H
 go_enter Tryd.func134,Tryd.ntmps134
 go_wp2_with (first | ((with_reducible refine gate_dst (N:=9) rfl ?_); refine Kd.R_make (Kd.int .i64) _ 3 rfl (N:=9) rfl 25 _ _ rfl (l0.length : Int) rfl rfl Tryd.underlying25 (.int .i64 0) 8 info3 rfl (by decide) (by omega) 0 (ok:=fun _ => True) (okp:=fun _ => True) rfl (fun _ hk => hk) trivial (od) (Nat.le_trans (Nat.mul_le_mul_right _ (od : (l0.length : Int).toNat ≤ 35184372088832)) (by omega)) (Below.refl _ _) (Nat.le_refl _) ?_; intro v348 w4 ho5 hb hg_ hnew_; clear hg_ hnew_; (first | rw [← Ny347.out] at ho5 | (simp only [Int.reduceToNat] at ho5; rw [← Ny347.out] at ho5)); have HO349:=Aside0.mk (Kd.R_lower ho5 (below_size (bw HB))); replace HB:=bs HB hb; clear hb ho5))
 repeat (go_quiet (first | ((with_reducible refine gate_dst (N:=9) rfl ?_); refine Kd.R_make (Kd.int .i64) _ 3 rfl (N:=9) rfl 25 _ _ rfl (l0.length : Int) rfl rfl Tryd.underlying25 (.int .i64 0) 8 info3 rfl (by decide) (by omega) 0 (ok:=fun _ => True) (okp:=fun _ => True) rfl (fun _ hk => hk) trivial (od) (Nat.le_trans (Nat.mul_le_mul_right _ (od : (l0.length : Int).toNat ≤ 35184372088832)) (by omega)) (Below.refl _ _) (Nat.le_refl _) ?_; intro v348 w4 ho5 hb hg_ hnew_; clear hg_ hnew_; (first | rw [← Ny347.out] at ho5 | (simp only [Int.reduceToNat] at ho5; rw [← Ny347.out] at ho5)); have HO349:=Aside0.mk (Kd.R_lower ho5 (below_size (bw HB))); replace HB:=bs HB hb; clear hb ho5)); try go_wp2_with (first | ((with_reducible refine gate_dst (N:=9) rfl ?_); refine Kd.R_make (Kd.int .i64) _ 3 rfl (N:=9) rfl 25 _ _ rfl (l0.length : Int) rfl rfl Tryd.underlying25 (.int .i64 0) 8 info3 rfl (by decide) (by omega) 0 (ok:=fun _ => True) (okp:=fun _ => True) rfl (fun _ hk => hk) trivial (od) (Nat.le_trans (Nat.mul_le_mul_right _ (od : (l0.length : Int).toNat ≤ 35184372088832)) (by omega)) (Below.refl _ _) (Nat.le_refl _) ?_; intro v348 w4 ho5 hb hg_ hnew_; clear hg_ hnew_; (first | rw [← Ny347.out] at ho5 | (simp only [Int.reduceToNat] at ho5; rw [← Ny347.out] at ho5)); have HO349:=Aside0.mk (Kd.R_lower ho5 (below_size (bw HB))); replace HB:=bs HB hb; clear hb ho5)))
 go_loopg [12] k (fun kq v12 w' => ∃ (x3_1 : List Int) (x12_1 : Int),v12 = .int .i64 x12_1 ∧ Aside0 (doc_Counts.l0 kq l0 x3_1 l0 (l0.length : Int) x12_1 = some r) ∧ Aside0 (kq ≤ k) ∧ Aside0 (Kd.R (Kd.int .i64) 3 w' w.heap.size (fun _ => True) v348 x3_1) ∧ Aside0 (Below w.heap.size w w'))
 case atStart => exact ⟨(y347),(0),rf,H',⟨Nat.le_refl _⟩,⟨rk HO349⟩,⟨bw HB⟩⟩
 case round =>
  clear H'
  try clear c2b0; try clear c2b1; try clear c3b0; try clear c3b1
  obtain ⟨x3_1,x12_1,rfl,HA,HK1,HO_3,HB⟩:=hrel
  cases gk with
  | zero => exact absurd HA.out (by simp [doc_Counts.l0])
  | succ k1 =>
   have H:=HA.out
   clear HA
   simp only [doc_Counts.l0] at H
   by_cases c6 : x12_1 < (l0.length : Int); rotate_left
   ·rw [if_neg c6] at H
    have c6b0:=decide_eq_false c6
    clear c6
    obtain rfl:=Option.some.inj H
    go_wp2
    repeat (go_quiet (fail); try go_wp2)
    go_ret
    exact ⟨_,re,by (with_reducible repeat (first | apply Kd.R_alloc | apply Kd.R_drewN | apply Kd.R_drew)); exact HO_3.out,bw HB⟩
   rw [if_pos c6] at H
   have c6b0:=decide_eq_true c6
   clear c6
   by_cases c7 : 0 ≤ x12_1; rotate_left
   ·rw [if_neg c7] at H
    exact absurd H (by simp)
   rw [if_pos c7] at H
   have c7b0:=decide_eq_true c7
   clear c7
   by_cases c8 : x12_1 < (l0.length : Int); rotate_left
   ·rw [if_neg c8] at H
    exact absurd H (by simp)
   rw [if_pos c8] at H
   have c8b0:=decide_eq_true c8
   clear c8
   by_cases c9 : ((rd_Op l0 x12_1).f2) = 2; rotate_left
   ·rw [if_neg c9] at H
    obtain ⟨c9b0,c9b1⟩:=bF c9
    have H':=Aside0.mk H
    clear H
    have p350 : 0 ≤ (x12_1 : Int):=od
    have q350 : x12_1 < (l0.length : Int):=od
    obtain ⟨ad350,A350_7,c350_7,e350,hx350_0,hx350_1,hx350_2,hx350_3,hx350_4,hx350_5,hx350_6,hx350_7,hx350_8,hx350_9,hx350_10,hl350_7,hi350_7⟩:=at_Op HR0.out x12_1 p350 q350
    cases e350
    replace hx350_0:=cl HB hx350_0
    replace hx350_1:=cl HB hx350_1
    replace hx350_2:=cl HB hx350_2
    replace hx350_3:=cl HB hx350_3
    replace hx350_4:=cl HB hx350_4
    replace hx350_5:=cl HB hx350_5
    replace hx350_6:=cl HB hx350_6
    replace hx350_7:=cl HB hx350_7
    replace hx350_8:=cl HB hx350_8
    replace hx350_9:=cl HB hx350_9
    replace hx350_10:=cl HB hx350_10
    have HR350_7:=Aside0.mk hi350_7
    have HC350_7:=Aside0.mk hl350_7
    clear hi350_7 hl350_7
    replace p350:=eq_true p350
    replace q350:=eq_true q350
    go_wp2_with (first | ((with_reducible refine gate_dst (N:=5) rfl ?_); refine bx 5 #[.int .i64 0, .int .i64 0, .int .i64 0, .int .i64 0, .int .i64 0, .int .i64 0, .string (⟨#[]⟩ : ByteArray), .slice none 0 0, .int .i64 0, .int .i64 0, .int .i64 0] 55 (h := ?_); intro gb351 hg w27 hbox hb; have BK351:=Aside0.mk (hbox); have GW351:=bz HB hg; have GE351:=bz HB hg; replace HO_3:=rb HO_3 hb; replace HB:=bs HB hb; clear hb hbox hg; obtain ⟨_,_,_,_,_,_,_,_,_,_,_,_,_,_,_,_,_,_,_,_,_,_⟩:=kc11 BK351))
    repeat (go_quiet (first | ((with_reducible refine gate_dst (N:=5) rfl ?_); refine bx 5 #[.int .i64 0, .int .i64 0, .int .i64 0, .int .i64 0, .int .i64 0, .int .i64 0, .string (⟨#[]⟩ : ByteArray), .slice none 0 0, .int .i64 0, .int .i64 0, .int .i64 0] 55 (h := ?_); intro gb351 hg w27 hbox hb; have BK351:=Aside0.mk (hbox); have GW351:=bz HB hg; have GE351:=bz HB hg; replace HO_3:=rb HO_3 hb; replace HB:=bs HB hb; clear hb hbox hg; obtain ⟨_,_,_,_,_,_,_,_,_,_,_,_,_,_,_,_,_,_,_,_,_,_⟩:=kc11 BK351)); try go_wp2_with (first | ((with_reducible refine gate_dst (N:=5) rfl ?_); refine bx 5 #[.int .i64 0, .int .i64 0, .int .i64 0, .int .i64 0, .int .i64 0, .int .i64 0, .string (⟨#[]⟩ : ByteArray), .slice none 0 0, .int .i64 0, .int .i64 0, .int .i64 0] 55 (h := ?_); intro gb351 hg w27 hbox hb; have BK351:=Aside0.mk (hbox); have GW351:=bz HB hg; have GE351:=bz HB hg; replace HO_3:=rb HO_3 hb; replace HB:=bs HB hb; clear hb hbox hg; obtain ⟨_,_,_,_,_,_,_,_,_,_,_,_,_,_,_,_,_,_,_,_,_,_⟩:=kc11 BK351)))
    go_roundg k1
    case measure => have:=HK1.out; omega
    case rel => exact ⟨(x3_1),(wrap64 (x12_1 + 1)),rf,H',⟨by have:=HK1.out; omega⟩,⟨by (with_reducible repeat (first | apply Kd.R_alloc | apply Kd.R_drewN | apply Kd.R_drew)); exact Kd.R_mono (rf11 (Kd.R_types HO_3.out BK351.out (by decide))) (fun _ hk => trivial)⟩,⟨bw HB⟩⟩
   rw [if_pos c9] at H
   obtain ⟨c9b0,c9b1⟩:=bT c9
   clear c9
   obtain ⟨t352,A10,H⟩:=bE H
   by_cases c11 : 0 ≤ t352; rotate_left
   ·rw [if_neg c11] at H
    exact absurd H (by simp)
   rw [if_pos c11] at H
   have c11b0:=decide_eq_true c11
   clear c11
   by_cases c12 : t352 < (x3_1.length : Int); rotate_left
   ·rw [if_neg c12] at H
    exact absurd H (by simp)
   rw [if_pos c12] at H
   have c12b0:=decide_eq_true c12
   clear c12
   by_cases c13 : ((rd_Op l0 x12_1).f8) = (rd x3_1 t352); rotate_left
   ·rw [if_neg c13] at H
    obtain ⟨c13b0,c13b1⟩:=bF c13
    have H':=Aside0.mk H
    clear H
    have p350 : 0 ≤ (x12_1 : Int):=od
    have q350 : x12_1 < (l0.length : Int):=od
    obtain ⟨ad350,A350_7,c350_7,e350,hx350_0,hx350_1,hx350_2,hx350_3,hx350_4,hx350_5,hx350_6,hx350_7,hx350_8,hx350_9,hx350_10,hl350_7,hi350_7⟩:=at_Op HR0.out x12_1 p350 q350
    cases e350
    replace hx350_0:=cl HB hx350_0
    replace hx350_1:=cl HB hx350_1
    replace hx350_2:=cl HB hx350_2
    replace hx350_3:=cl HB hx350_3
    replace hx350_4:=cl HB hx350_4
    replace hx350_5:=cl HB hx350_5
    replace hx350_6:=cl HB hx350_6
    replace hx350_7:=cl HB hx350_7
    replace hx350_8:=cl HB hx350_8
    replace hx350_9:=cl HB hx350_9
    replace hx350_10:=cl HB hx350_10
    have HR350_7:=Aside0.mk hi350_7
    have HC350_7:=Aside0.mk hl350_7
    clear hi350_7 hl350_7
    replace p350:=eq_true p350
    replace q350:=eq_true q350
    go_wp2_with (first | ((with_reducible refine gate_dst (N:=5) rfl ?_); refine bx 5 #[.int .i64 0, .int .i64 0, .int .i64 0, .int .i64 0, .int .i64 0, .int .i64 0, .string (⟨#[]⟩ : ByteArray), .slice none 0 0, .int .i64 0, .int .i64 0, .int .i64 0] 55 (h := ?_); intro gb351 hg w22 hbox hb; have BK351:=Aside0.mk (hbox); have GW351:=bz HB hg; have GE351:=bz HB hg; replace HO_3:=rb HO_3 hb; replace HB:=bs HB hb; clear hb hbox hg; obtain ⟨_,_,_,_,_,_,_,_,_,_,_,_,_,_,_,_,_,_,_,_,_,_⟩:=kc11 BK351) | (go_at_call 103; (with_reducible refine (tree_Find.calls _ _ l0 ((rd_Op l0 x12_1).f6) ((rd_Op l0 x12_1).f7) t352 _ ?side1 ?side2 A10.out).mono ?_); (case side1 => exact Kd.C_below HR0.out (bw HB)); (case side2 => exact HC0.out); rintro e w24 ⟨rfl,hb⟩; replace HO_3:=Aside0.mk (Kd.R_below (by (with_reducible repeat (first | apply Kd.R_alloc | apply Kd.R_drewN | apply Kd.R_drew)); exact (Kd.R_mono (rf11 (Kd.R_types HO_3.out BK351.out (by decide))) (fun _ h_ => h_.1))) hb); replace BK351:=Aside0.mk (blk_below (bp11 (kk BK351)) hb); replace HB:=bs HB hb; clear hb; obtain ⟨_,_,_,_,_,_,_,_,_,_,_,_,_,_,_,_,_,_,_,_,_,_⟩:=kc11 BK351; obtain ⟨Ao26,co26,eo26⟩:=Kd.R_slice HO_3.out; subst eo26; have p353 : 0 ≤ (t352 : Int):=od; have q353 : t352 < (x3_1.length : Int):=od; obtain ⟨ad353,e353,hx353_0⟩:=Kd.at_int (Kd.R_reads' HO_3.out).2.2 t352 p353 q353; cases e353; replace p353:=eq_true p353; replace q353:=eq_true q353))
    repeat (go_quiet (first | ((with_reducible refine gate_dst (N:=5) rfl ?_); refine bx 5 #[.int .i64 0, .int .i64 0, .int .i64 0, .int .i64 0, .int .i64 0, .int .i64 0, .string (⟨#[]⟩ : ByteArray), .slice none 0 0, .int .i64 0, .int .i64 0, .int .i64 0] 55 (h := ?_); intro gb351 hg w22 hbox hb; have BK351:=Aside0.mk (hbox); have GW351:=bz HB hg; have GE351:=bz HB hg; replace HO_3:=rb HO_3 hb; replace HB:=bs HB hb; clear hb hbox hg; obtain ⟨_,_,_,_,_,_,_,_,_,_,_,_,_,_,_,_,_,_,_,_,_,_⟩:=kc11 BK351) | (go_at_call 103; (with_reducible refine (tree_Find.calls _ _ l0 ((rd_Op l0 x12_1).f6) ((rd_Op l0 x12_1).f7) t352 _ ?side1 ?side2 A10.out).mono ?_); (case side1 => exact Kd.C_below HR0.out (bw HB)); (case side2 => exact HC0.out); rintro e w24 ⟨rfl,hb⟩; replace HO_3:=Aside0.mk (Kd.R_below (by (with_reducible repeat (first | apply Kd.R_alloc | apply Kd.R_drewN | apply Kd.R_drew)); exact (Kd.R_mono (rf11 (Kd.R_types HO_3.out BK351.out (by decide))) (fun _ h_ => h_.1))) hb); replace BK351:=Aside0.mk (blk_below (bp11 (kk BK351)) hb); replace HB:=bs HB hb; clear hb; obtain ⟨_,_,_,_,_,_,_,_,_,_,_,_,_,_,_,_,_,_,_,_,_,_⟩:=kc11 BK351; obtain ⟨Ao26,co26,eo26⟩:=Kd.R_slice HO_3.out; subst eo26; have p353 : 0 ≤ (t352 : Int):=od; have q353 : t352 < (x3_1.length : Int):=od; obtain ⟨ad353,e353,hx353_0⟩:=Kd.at_int (Kd.R_reads' HO_3.out).2.2 t352 p353 q353; cases e353; replace p353:=eq_true p353; replace q353:=eq_true q353)); try go_wp2_with (first | ((with_reducible refine gate_dst (N:=5) rfl ?_); refine bx 5 #[.int .i64 0, .int .i64 0, .int .i64 0, .int .i64 0, .int .i64 0, .int .i64 0, .string (⟨#[]⟩ : ByteArray), .slice none 0 0, .int .i64 0, .int .i64 0, .int .i64 0] 55 (h := ?_); intro gb351 hg w22 hbox hb; have BK351:=Aside0.mk (hbox); have GW351:=bz HB hg; have GE351:=bz HB hg; replace HO_3:=rb HO_3 hb; replace HB:=bs HB hb; clear hb hbox hg; obtain ⟨_,_,_,_,_,_,_,_,_,_,_,_,_,_,_,_,_,_,_,_,_,_⟩:=kc11 BK351) | (go_at_call 103; (with_reducible refine (tree_Find.calls _ _ l0 ((rd_Op l0 x12_1).f6) ((rd_Op l0 x12_1).f7) t352 _ ?side1 ?side2 A10.out).mono ?_); (case side1 => exact Kd.C_below HR0.out (bw HB)); (case side2 => exact HC0.out); rintro e w24 ⟨rfl,hb⟩; replace HO_3:=Aside0.mk (Kd.R_below (by (with_reducible repeat (first | apply Kd.R_alloc | apply Kd.R_drewN | apply Kd.R_drew)); exact (Kd.R_mono (rf11 (Kd.R_types HO_3.out BK351.out (by decide))) (fun _ h_ => h_.1))) hb); replace BK351:=Aside0.mk (blk_below (bp11 (kk BK351)) hb); replace HB:=bs HB hb; clear hb; obtain ⟨_,_,_,_,_,_,_,_,_,_,_,_,_,_,_,_,_,_,_,_,_,_⟩:=kc11 BK351; obtain ⟨Ao26,co26,eo26⟩:=Kd.R_slice HO_3.out; subst eo26; have p353 : 0 ≤ (t352 : Int):=od; have q353 : t352 < (x3_1.length : Int):=od; obtain ⟨ad353,e353,hx353_0⟩:=Kd.at_int (Kd.R_reads' HO_3.out).2.2 t352 p353 q353; cases e353; replace p353:=eq_true p353; replace q353:=eq_true q353)))
    go_roundg k1
    case measure => have:=HK1.out; omega
    case rel => exact ⟨(x3_1),(wrap64 (x12_1 + 1)),rf,H',⟨by have:=HK1.out; omega⟩,⟨rk HO_3⟩,⟨bw HB⟩⟩
   rw [if_pos c13] at H
   obtain ⟨c13b0,c13b1⟩:=bT c13
   clear c13
   obtain ⟨y355,hy355⟩ : ∃ y_ : List Int,y_ = (x3_1.set (t352 : Int).toNat (wrap64 ((rd x3_1 t352) + 1))):=⟨_,rfl⟩
   first | rw [Option.bind_some,← hy355] at H | rw [← hy355] at H
   have Ny355:=Aside0.mk hy355
   clear hy355
   have H':=Aside0.mk H
   clear H
   have p350 : 0 ≤ (x12_1 : Int):=od
   have q350 : x12_1 < (l0.length : Int):=od
   obtain ⟨ad350,A350_7,c350_7,e350,hx350_0,hx350_1,hx350_2,hx350_3,hx350_4,hx350_5,hx350_6,hx350_7,hx350_8,hx350_9,hx350_10,hl350_7,hi350_7⟩:=at_Op HR0.out x12_1 p350 q350
   cases e350
   replace hx350_0:=cl HB hx350_0
   replace hx350_1:=cl HB hx350_1
   replace hx350_2:=cl HB hx350_2
   replace hx350_3:=cl HB hx350_3
   replace hx350_4:=cl HB hx350_4
   replace hx350_5:=cl HB hx350_5
   replace hx350_6:=cl HB hx350_6
   replace hx350_7:=cl HB hx350_7
   replace hx350_8:=cl HB hx350_8
   replace hx350_9:=cl HB hx350_9
   replace hx350_10:=cl HB hx350_10
   have HR350_7:=Aside0.mk hi350_7
   have HC350_7:=Aside0.mk hl350_7
   clear hi350_7 hl350_7
   replace p350:=eq_true p350
   replace q350:=eq_true q350
   go_wp2_with (first | ((with_reducible refine gate_dst (N:=5) rfl ?_); refine bx 5 #[.int .i64 0, .int .i64 0, .int .i64 0, .int .i64 0, .int .i64 0, .int .i64 0, .string (⟨#[]⟩ : ByteArray), .slice none 0 0, .int .i64 0, .int .i64 0, .int .i64 0] 55 (h := ?_); intro gb351 hg w15 hbox hb; have BK351:=Aside0.mk (hbox); have GW351:=bz HB hg; have GE351:=bz HB hg; replace HO_3:=rb HO_3 hb; replace HB:=bs HB hb; clear hb hbox hg; obtain ⟨_,_,_,_,_,_,_,_,_,_,_,_,_,_,_,_,_,_,_,_,_,_⟩:=kc11 BK351) | (go_at_call 103; (with_reducible refine (tree_Find.calls _ _ l0 ((rd_Op l0 x12_1).f6) ((rd_Op l0 x12_1).f7) t352 _ ?side1 ?side2 A10.out).mono ?_); (case side1 => exact Kd.C_below HR0.out (bw HB)); (case side2 => exact HC0.out); rintro e w17 ⟨rfl,hb⟩; replace HO_3:=Aside0.mk (Kd.R_below (by (with_reducible repeat (first | apply Kd.R_alloc | apply Kd.R_drewN | apply Kd.R_drew)); exact (Kd.R_mono (rf11 (Kd.R_types HO_3.out BK351.out (by decide))) (fun _ h_ => h_.1))) hb); replace BK351:=Aside0.mk (blk_below (bp11 (kk BK351)) hb); replace HB:=bs HB hb; clear hb; obtain ⟨_,_,_,_,_,_,_,_,_,_,_,_,_,_,_,_,_,_,_,_,_,_⟩:=kc11 BK351; obtain ⟨Ao19,co19,eo19⟩:=Kd.R_slice HO_3.out; subst eo19; have p353 : 0 ≤ (t352 : Int):=od; have q353 : t352 < (x3_1.length : Int):=od; obtain ⟨ad353,e353,hx353_0⟩:=Kd.at_int (Kd.R_reads' HO_3.out).2.2 t352 p353 q353; cases e353; replace p353:=eq_true p353; replace q353:=eq_true q353; have p354 : 0 ≤ (t352 : Int):=od; have q354 : t352 < (x3_1.length : Int):=od; obtain ⟨ad354,e354,hx354_0⟩:=Kd.at_int (Kd.R_reads' HO_3.out).2.2 t352 p354 q354; obtain rfl : ad353 = ad354:=(by injection e354); replace p354:=eq_true p354; replace q354:=eq_true q354; have p14 : 0 ≤ (t352 : Int):=od; have q14 : (t352 : Int) < ((x3_1.length : Int) : Int):=od; obtain ⟨go14,co14,eo14,gb14,gl14,cl14,HG14⟩:=Kd.R_form HO_3.out (by omega); (first | cases eo14 | (injection eo14 with ea_ en_ ec_; (first | subst ea_ | (injection ea_ with ea_; subst ea_)); subst ec_; clear en_)); have GB14:=Aside0.mk gb14; have GG14:=Aside0.mk HG14; clear gb14 gl14 HG14; (first | simp only [add_plain] at hx353_0 | skip); (first | simp only [add_plain] at hx354_0 | skip); obtain ⟨hx14_0,hf14_0⟩:=Kd.R_celln 0 HO_3.out (t352 : Int) p14 q14; replace p14:=eq_true p14; replace q14:=eq_true q14; obtain ⟨hy20_,hz20_⟩:=Kd.R_celln 0 HO_3.out (t352 : Int) (od) (od); have HP20:=Kd.R_putg HO_3.out (t352 : Int) (wrap64 ((rd x3_1 t352) + 1))) | ((with_reducible refine gate_store (t:=3) (p:=37) rfl ?_); (try (rw [drewN_self w17]; generalize hq_ : World.drewN w17 _ = w17; have n0_:=Aside0.mk (Kd.R_at hq_ HO_3.out); have n1_:=Aside0.mk (blk_at hq_ BK351.out); have n2_:=Aside0.mk (below_at hq_ HB.out); clear hq_ HO_3 BK351 HB; have HO_3:=n0_; have BK351:=n1_; have HB:=n2_; clear n0_ n1_ n2_; (try (obtain ⟨hy20_,hz20_⟩:=Kd.R_celln 0 HO_3.out (t352 : Int) (od) (od))); (try (have HP20:=Kd.R_putg HO_3.out (t352 : Int) (wrap64 ((rd x3_1 t352) + 1)))))); refine store_event (t:=3) (p:=37) (v := ?vo_w21) (w1:=(w17.setCell ⟨go14,(t352 : Int).toNat,none⟩ (.int .i64 (wrap64 ((rd x3_1 t352) + 1))))) ?hg ?ho ?hn ?hr ?_; (case ho => rfl); (case hg => rfl); (case hn => rfl); (case hr => first | (go_simp; done) | (go_simp; rfl)); intro w21 hw; have hg : w17.grownBy w21 (some go14):=(by rw [hw]; exact HP20.2); have hp_ : Kd.R (Kd.int .i64) 3 w21 w.heap.size (fun _ => True) (.slice (some ⟨go14,0,none⟩) x3_1.length co19) y355:=(by rw [hw,Ny355.out]; exact HP20.1); clear HP20; replace BK351:=Aside0.mk (blk_grown (kk BK351) hg (Kd.R_ne HO_3.out BK351.out (by decide))); replace HO_3:=Aside0.mk (hp_); replace HB:=Aside0.mk ((by rw [hw]; exact below_set (HB.out) GB14.out : Below w.heap.size w w21)); clear hg hw hp_))
   repeat (go_quiet (first | ((with_reducible refine gate_dst (N:=5) rfl ?_); refine bx 5 #[.int .i64 0, .int .i64 0, .int .i64 0, .int .i64 0, .int .i64 0, .int .i64 0, .string (⟨#[]⟩ : ByteArray), .slice none 0 0, .int .i64 0, .int .i64 0, .int .i64 0] 55 (h := ?_); intro gb351 hg w15 hbox hb; have BK351:=Aside0.mk (hbox); have GW351:=bz HB hg; have GE351:=bz HB hg; replace HO_3:=rb HO_3 hb; replace HB:=bs HB hb; clear hb hbox hg; obtain ⟨_,_,_,_,_,_,_,_,_,_,_,_,_,_,_,_,_,_,_,_,_,_⟩:=kc11 BK351) | (go_at_call 103; (with_reducible refine (tree_Find.calls _ _ l0 ((rd_Op l0 x12_1).f6) ((rd_Op l0 x12_1).f7) t352 _ ?side1 ?side2 A10.out).mono ?_); (case side1 => exact Kd.C_below HR0.out (bw HB)); (case side2 => exact HC0.out); rintro e w17 ⟨rfl,hb⟩; replace HO_3:=Aside0.mk (Kd.R_below (by (with_reducible repeat (first | apply Kd.R_alloc | apply Kd.R_drewN | apply Kd.R_drew)); exact (Kd.R_mono (rf11 (Kd.R_types HO_3.out BK351.out (by decide))) (fun _ h_ => h_.1))) hb); replace BK351:=Aside0.mk (blk_below (bp11 (kk BK351)) hb); replace HB:=bs HB hb; clear hb; obtain ⟨_,_,_,_,_,_,_,_,_,_,_,_,_,_,_,_,_,_,_,_,_,_⟩:=kc11 BK351; obtain ⟨Ao19,co19,eo19⟩:=Kd.R_slice HO_3.out; subst eo19; have p353 : 0 ≤ (t352 : Int):=od; have q353 : t352 < (x3_1.length : Int):=od; obtain ⟨ad353,e353,hx353_0⟩:=Kd.at_int (Kd.R_reads' HO_3.out).2.2 t352 p353 q353; cases e353; replace p353:=eq_true p353; replace q353:=eq_true q353; have p354 : 0 ≤ (t352 : Int):=od; have q354 : t352 < (x3_1.length : Int):=od; obtain ⟨ad354,e354,hx354_0⟩:=Kd.at_int (Kd.R_reads' HO_3.out).2.2 t352 p354 q354; obtain rfl : ad353 = ad354:=(by injection e354); replace p354:=eq_true p354; replace q354:=eq_true q354; have p14 : 0 ≤ (t352 : Int):=od; have q14 : (t352 : Int) < ((x3_1.length : Int) : Int):=od; obtain ⟨go14,co14,eo14,gb14,gl14,cl14,HG14⟩:=Kd.R_form HO_3.out (by omega); (first | cases eo14 | (injection eo14 with ea_ en_ ec_; (first | subst ea_ | (injection ea_ with ea_; subst ea_)); subst ec_; clear en_)); have GB14:=Aside0.mk gb14; have GG14:=Aside0.mk HG14; clear gb14 gl14 HG14; (first | simp only [add_plain] at hx353_0 | skip); (first | simp only [add_plain] at hx354_0 | skip); obtain ⟨hx14_0,hf14_0⟩:=Kd.R_celln 0 HO_3.out (t352 : Int) p14 q14; replace p14:=eq_true p14; replace q14:=eq_true q14; obtain ⟨hy20_,hz20_⟩:=Kd.R_celln 0 HO_3.out (t352 : Int) (od) (od); have HP20:=Kd.R_putg HO_3.out (t352 : Int) (wrap64 ((rd x3_1 t352) + 1))) | ((with_reducible refine gate_store (t:=3) (p:=37) rfl ?_); (try (rw [drewN_self w17]; generalize hq_ : World.drewN w17 _ = w17; have n0_:=Aside0.mk (Kd.R_at hq_ HO_3.out); have n1_:=Aside0.mk (blk_at hq_ BK351.out); have n2_:=Aside0.mk (below_at hq_ HB.out); clear hq_ HO_3 BK351 HB; have HO_3:=n0_; have BK351:=n1_; have HB:=n2_; clear n0_ n1_ n2_; (try (obtain ⟨hy20_,hz20_⟩:=Kd.R_celln 0 HO_3.out (t352 : Int) (od) (od))); (try (have HP20:=Kd.R_putg HO_3.out (t352 : Int) (wrap64 ((rd x3_1 t352) + 1)))))); refine store_event (t:=3) (p:=37) (v := ?vo_w21) (w1:=(w17.setCell ⟨go14,(t352 : Int).toNat,none⟩ (.int .i64 (wrap64 ((rd x3_1 t352) + 1))))) ?hg ?ho ?hn ?hr ?_; (case ho => rfl); (case hg => rfl); (case hn => rfl); (case hr => first | (go_simp; done) | (go_simp; rfl)); intro w21 hw; have hg : w17.grownBy w21 (some go14):=(by rw [hw]; exact HP20.2); have hp_ : Kd.R (Kd.int .i64) 3 w21 w.heap.size (fun _ => True) (.slice (some ⟨go14,0,none⟩) x3_1.length co19) y355:=(by rw [hw,Ny355.out]; exact HP20.1); clear HP20; replace BK351:=Aside0.mk (blk_grown (kk BK351) hg (Kd.R_ne HO_3.out BK351.out (by decide))); replace HO_3:=Aside0.mk (hp_); replace HB:=Aside0.mk ((by rw [hw]; exact below_set (HB.out) GB14.out : Below w.heap.size w w21)); clear hg hw hp_)); try go_wp2_with (first | ((with_reducible refine gate_dst (N:=5) rfl ?_); refine bx 5 #[.int .i64 0, .int .i64 0, .int .i64 0, .int .i64 0, .int .i64 0, .int .i64 0, .string (⟨#[]⟩ : ByteArray), .slice none 0 0, .int .i64 0, .int .i64 0, .int .i64 0] 55 (h := ?_); intro gb351 hg w15 hbox hb; have BK351:=Aside0.mk (hbox); have GW351:=bz HB hg; have GE351:=bz HB hg; replace HO_3:=rb HO_3 hb; replace HB:=bs HB hb; clear hb hbox hg; obtain ⟨_,_,_,_,_,_,_,_,_,_,_,_,_,_,_,_,_,_,_,_,_,_⟩:=kc11 BK351) | (go_at_call 103; (with_reducible refine (tree_Find.calls _ _ l0 ((rd_Op l0 x12_1).f6) ((rd_Op l0 x12_1).f7) t352 _ ?side1 ?side2 A10.out).mono ?_); (case side1 => exact Kd.C_below HR0.out (bw HB)); (case side2 => exact HC0.out); rintro e w17 ⟨rfl,hb⟩; replace HO_3:=Aside0.mk (Kd.R_below (by (with_reducible repeat (first | apply Kd.R_alloc | apply Kd.R_drewN | apply Kd.R_drew)); exact (Kd.R_mono (rf11 (Kd.R_types HO_3.out BK351.out (by decide))) (fun _ h_ => h_.1))) hb); replace BK351:=Aside0.mk (blk_below (bp11 (kk BK351)) hb); replace HB:=bs HB hb; clear hb; obtain ⟨_,_,_,_,_,_,_,_,_,_,_,_,_,_,_,_,_,_,_,_,_,_⟩:=kc11 BK351; obtain ⟨Ao19,co19,eo19⟩:=Kd.R_slice HO_3.out; subst eo19; have p353 : 0 ≤ (t352 : Int):=od; have q353 : t352 < (x3_1.length : Int):=od; obtain ⟨ad353,e353,hx353_0⟩:=Kd.at_int (Kd.R_reads' HO_3.out).2.2 t352 p353 q353; cases e353; replace p353:=eq_true p353; replace q353:=eq_true q353; have p354 : 0 ≤ (t352 : Int):=od; have q354 : t352 < (x3_1.length : Int):=od; obtain ⟨ad354,e354,hx354_0⟩:=Kd.at_int (Kd.R_reads' HO_3.out).2.2 t352 p354 q354; obtain rfl : ad353 = ad354:=(by injection e354); replace p354:=eq_true p354; replace q354:=eq_true q354; have p14 : 0 ≤ (t352 : Int):=od; have q14 : (t352 : Int) < ((x3_1.length : Int) : Int):=od; obtain ⟨go14,co14,eo14,gb14,gl14,cl14,HG14⟩:=Kd.R_form HO_3.out (by omega); (first | cases eo14 | (injection eo14 with ea_ en_ ec_; (first | subst ea_ | (injection ea_ with ea_; subst ea_)); subst ec_; clear en_)); have GB14:=Aside0.mk gb14; have GG14:=Aside0.mk HG14; clear gb14 gl14 HG14; (first | simp only [add_plain] at hx353_0 | skip); (first | simp only [add_plain] at hx354_0 | skip); obtain ⟨hx14_0,hf14_0⟩:=Kd.R_celln 0 HO_3.out (t352 : Int) p14 q14; replace p14:=eq_true p14; replace q14:=eq_true q14; obtain ⟨hy20_,hz20_⟩:=Kd.R_celln 0 HO_3.out (t352 : Int) (od) (od); have HP20:=Kd.R_putg HO_3.out (t352 : Int) (wrap64 ((rd x3_1 t352) + 1))) | ((with_reducible refine gate_store (t:=3) (p:=37) rfl ?_); (try (rw [drewN_self w17]; generalize hq_ : World.drewN w17 _ = w17; have n0_:=Aside0.mk (Kd.R_at hq_ HO_3.out); have n1_:=Aside0.mk (blk_at hq_ BK351.out); have n2_:=Aside0.mk (below_at hq_ HB.out); clear hq_ HO_3 BK351 HB; have HO_3:=n0_; have BK351:=n1_; have HB:=n2_; clear n0_ n1_ n2_; (try (obtain ⟨hy20_,hz20_⟩:=Kd.R_celln 0 HO_3.out (t352 : Int) (od) (od))); (try (have HP20:=Kd.R_putg HO_3.out (t352 : Int) (wrap64 ((rd x3_1 t352) + 1)))))); refine store_event (t:=3) (p:=37) (v := ?vo_w21) (w1:=(w17.setCell ⟨go14,(t352 : Int).toNat,none⟩ (.int .i64 (wrap64 ((rd x3_1 t352) + 1))))) ?hg ?ho ?hn ?hr ?_; (case ho => rfl); (case hg => rfl); (case hn => rfl); (case hr => first | (go_simp; done) | (go_simp; rfl)); intro w21 hw; have hg : w17.grownBy w21 (some go14):=(by rw [hw]; exact HP20.2); have hp_ : Kd.R (Kd.int .i64) 3 w21 w.heap.size (fun _ => True) (.slice (some ⟨go14,0,none⟩) x3_1.length co19) y355:=(by rw [hw,Ny355.out]; exact HP20.1); clear HP20; replace BK351:=Aside0.mk (blk_grown (kk BK351) hg (Kd.R_ne HO_3.out BK351.out (by decide))); replace HO_3:=Aside0.mk (hp_); replace HB:=Aside0.mk ((by rw [hw]; exact below_set (HB.out) GB14.out : Below w.heap.size w w21)); clear hg hw hp_)))
   go_roundg k1
   case measure => have:=HK1.out; omega
   case rel => exact ⟨(y355),(wrap64 (x12_1 + 1)),rf,H',⟨by have:=HK1.out; omega⟩,⟨rk HO_3⟩,⟨bw HB⟩⟩
def doc_Works.l0 : Nat → List (SOp) → List Bool → List Int → Int → Int → Option (List Bool)
 | 0,_,_,_,_,_ => none
 | k + 1,x0,x3,x10,x11,x12 => if x12 < x11 then (if 0 ≤ x12 then (if x12 < (x10.length : Int) then (if x12 < (x0.length : Int) then (if ((rd_Op x0 x12).f2) = 1 then (if x12 < (x3.length : Int) then (doc_Works.l0 k x0 (x3.set (x12 : Int).toNat ((Int.tmod (rd x10 x12) 2) == 0)) x10 x11 (wrap64 (x12 + 1))) else (none)) else (if x12 < (x3.length : Int) then (doc_Works.l0 k x0 (x3.set (x12 : Int).toNat false) x10 x11 (wrap64 (x12 + 1))) else (none))) else (none)) else (none)) else (none)) else (some x3)
def doc_Works.f (k : Nat) (l0 : List (SOp)) : Option (List Bool):=if 0 ≤ (l0.length : Int) then (if ((l0.length : Int) : Int).toNat ≤ 281474976710656 then ((doc_Counts.f k l0).bind fun t359 => (doc_Works.l0 k l0 (List.replicate ((l0.length : Int) : Int).toNat false) t359 (t359.length : Int) 0)) else (none)) else (none)
set_option maxHeartbeats 8000000 in
set_option maxRecDepth 100000 in
theorem doc_Works.calls (k : Nat) (A0 : Option Addr) (c0 : Nat) (l0 : List (SOp)) (r : List Bool) (w : World) (hr0 : Kd.C kOp w A0 l0.length l0) (hc0 : l0.length ≤ c0) (h : doc_Works.f k l0 = some r) :
  Calls Tryd.prog 110 #[.slice A0 l0.length c0] w fun e w' => ∃ v0_ : Value,e = .returned (v0_) ∧ Kd.R Kd.bool 4 w' w.heap.size (fun _ => True) v0_ r ∧ Below w.heap.size w w':=by
 have HR0:=Aside0.mk hr0
 have HC0:=Aside0.mk hc0
 clear hr0 hc0
 have HB:=Aside0.mk (Below.refl w.heap.size w)
 unfold doc_Works.f at h; have H:=h
 clear h
 by_cases c2 : 0 ≤ (l0.length : Int); rotate_left
 ·rw [if_neg c2] at H
  exact absurd H (by simp)
 rw [if_pos c2] at H
 have c2b0:=eq_true c2
 have c2b1:=decide_eq_true c2
 clear c2
 by_cases c3 : ((l0.length : Int) : Int).toNat ≤ 281474976710656; rotate_left
 ·rw [if_neg c3] at H
  exact absurd H (by simp)
 rw [if_pos c3] at H
 have c3b0:=eq_true c3
 have c3b1:=decide_eq_true c3
 clear c3
 obtain ⟨y356,hy356⟩ : ∃ y_ : List Bool,y_ = (List.replicate ((l0.length : Int) : Int).toNat false):=⟨_,rfl⟩
 first | rw [Option.bind_some,← hy356] at H | rw [← hy356] at H
 have Ny356:=Aside0.mk hy356
 clear hy356
 obtain ⟨t359,A4,H⟩:=bE H
 have H':=Aside0.mk H
 clear H
 go_enter Tryd.func110,Tryd.ntmps110
 go_wp2_with (first | ((with_reducible refine gate_dst (N:=8) rfl ?_); refine Kd.R_make Kd.bool _ 4 rfl (N:=8) rfl 85 _ _ rfl (l0.length : Int) rfl rfl Tryd.underlying85 (.bool false) 1 info4 rfl (by decide) (by omega) false (ok:=fun _ => True) (okp:=fun _ => True) rfl (fun _ hk => hk) trivial (od) (Nat.le_trans (Nat.mul_le_mul_right _ (od : (l0.length : Int).toNat ≤ 281474976710656)) (by omega)) (Below.refl _ _) (Nat.le_refl _) ?_; intro v357 w5 ho6 hb hg_ hnew_; clear hg_ hnew_; (first | rw [← Ny356.out] at ho6 | (simp only [Int.reduceToNat] at ho6; rw [← Ny356.out] at ho6)); have HO358:=Aside0.mk (Kd.R_lower ho6 (below_size (bw HB))); replace HB:=bs HB hb; clear hb ho6) | ((with_reducible refine gate_callee (f:=134) rfl ?_); refine gl (some 10) Tryd.func134 #[.slice A0 l0.length c0] (h := ?_); (with_reducible refine (doc_Counts.calls k _ _ l0 t359 _ ?side1 ?side2 A4.out).mono ?_); (case side1 => exact cb HR0 HB); (case side2 => exact HC0.out); rintro e w7 ⟨v360,rfl,ho0,hb⟩; refine ⟨_,rfl, ?_⟩; have HO361:=Aside0.mk (Kd.R_lower ho0 (below_size (bw HB))); replace HO358:=rb HO358 hb; replace HB:=bs HB hb; clear hb; clear ho0; obtain ⟨Ao8,co8,eo8⟩:=Kd.R_slice HO361.out; subst eo8))
 go_loopg [12] k (fun kq v12 w' => ∃ (x3_1 : List Bool) (x12_1 : Int),v12 = .int .i64 x12_1 ∧ Aside0 (doc_Works.l0 kq l0 x3_1 t359 (t359.length : Int) x12_1 = some r) ∧ Aside0 (kq ≤ k) ∧ Aside0 (Kd.R Kd.bool 4 w' w.heap.size (fun _ => True) v357 x3_1) ∧ Aside0 (Kd.R (Kd.int .i64) 3 w' w.heap.size (fun _ => True) (.slice Ao8 t359.length co8) t359) ∧ Aside0 (Below w.heap.size w w'))
 case atStart => exact ⟨(y356),(0),rf,H',⟨Nat.le_refl _⟩,⟨rk HO358⟩,⟨rk HO361⟩,⟨bw HB⟩⟩
 case round =>
  clear H'
  try clear c2b0; try clear c2b1; try clear c3b0; try clear c3b1
  obtain ⟨x3_1,x12_1,rfl,HA,HK1,HO_3,HO_10,HB⟩:=hrel
  cases gk with
  | zero => exact absurd HA.out (by simp [doc_Works.l0])
  | succ k1 =>
   have H:=HA.out
   clear HA
   simp only [doc_Works.l0] at H
   by_cases c9 : x12_1 < (t359.length : Int); rotate_left
   ·rw [if_neg c9] at H
    have c9b0:=decide_eq_false c9
    clear c9
    obtain rfl:=Option.some.inj H
    go_wp2
    go_ret
    exact ⟨_,re,by (with_reducible repeat (first | apply Kd.R_alloc | apply Kd.R_drewN | apply Kd.R_drew)); exact HO_3.out,bw HB⟩
   rw [if_pos c9] at H
   have c9b0:=decide_eq_true c9
   clear c9
   by_cases c10 : 0 ≤ x12_1; rotate_left
   ·rw [if_neg c10] at H
    exact absurd H (by simp)
   rw [if_pos c10] at H
   have c10b0:=decide_eq_true c10
   clear c10
   by_cases c11 : x12_1 < (t359.length : Int); rotate_left
   ·rw [if_neg c11] at H
    exact absurd H (by simp)
   rw [if_pos c11] at H
   have c11b0:=decide_eq_true c11
   clear c11
   by_cases c12 : x12_1 < (l0.length : Int); rotate_left
   ·rw [if_neg c12] at H
    exact absurd H (by simp)
   rw [if_pos c12] at H
   have c12b0:=decide_eq_true c12
   clear c12
   by_cases c13 : ((rd_Op l0 x12_1).f2) = 1
   ·rw [if_pos c13] at H
    obtain ⟨c13b0,c13b1⟩:=bT c13
    clear c13
    by_cases c14 : x12_1 < (x3_1.length : Int); rotate_left
    ·rw [if_neg c14] at H
     exact absurd H (by simp)
    rw [if_pos c14] at H
    have c14b0:=decide_eq_true c14
    clear c14
    obtain ⟨y364,hy364⟩ : ∃ y_ : List Bool,y_ = (x3_1.set (x12_1 : Int).toNat ((Int.tmod (rd t359 x12_1) 2) == 0)):=⟨_,rfl⟩
    first | rw [Option.bind_some,← hy364] at H | rw [← hy364] at H
    have Ny364:=Aside0.mk hy364
    clear hy364
    have H':=Aside0.mk H
    clear H
    have p362 : 0 ≤ (x12_1 : Int):=od
    have q362 : x12_1 < (t359.length : Int):=od
    obtain ⟨ad362,e362,hx362_0⟩:=Kd.at_int (Kd.R_reads' HO_10.out).2.2 x12_1 p362 q362
    cases e362
    replace p362:=eq_true p362
    replace q362:=eq_true q362
    have p363 : 0 ≤ (x12_1 : Int):=od
    have q363 : x12_1 < (l0.length : Int):=od
    obtain ⟨ad363,A363_7,c363_7,e363,hx363_0,hx363_1,hx363_2,hx363_3,hx363_4,hx363_5,hx363_6,hx363_7,hx363_8,hx363_9,hx363_10,hl363_7,hi363_7⟩:=at_Op HR0.out x12_1 p363 q363
    cases e363
    replace hx363_0:=cl HB hx363_0
    replace hx363_1:=cl HB hx363_1
    replace hx363_2:=cl HB hx363_2
    replace hx363_3:=cl HB hx363_3
    replace hx363_4:=cl HB hx363_4
    replace hx363_5:=cl HB hx363_5
    replace hx363_6:=cl HB hx363_6
    replace hx363_7:=cl HB hx363_7
    replace hx363_8:=cl HB hx363_8
    replace hx363_9:=cl HB hx363_9
    replace hx363_10:=cl HB hx363_10
    have HR363_7:=Aside0.mk hi363_7
    have HC363_7:=Aside0.mk hl363_7
    clear hi363_7 hl363_7
    replace p363:=eq_true p363
    replace q363:=eq_true q363
    have p15 : 0 ≤ (x12_1 : Int):=od
    have q15 : (x12_1 : Int) < ((x3_1.length : Int) : Int):=od
    obtain ⟨go15,co15,eo15,gb15,gl15,cl15,HG15⟩:=Kd.R_form HO_3.out (by omega)
    (first | cases eo15 | (injection eo15 with ea_ en_ ec_; (first | subst ea_ | (injection ea_ with ea_; subst ea_)); subst ec_; clear en_))
    have GB15:=Aside0.mk gb15
    have GG15:=Aside0.mk HG15
    clear gb15 gl15 HG15
    obtain ⟨hx15_0,hf15_0⟩:=Kd.R_celln false HO_3.out (x12_1 : Int) p15 q15
    replace p15:=eq_true p15
    replace q15:=eq_true q15
    have HP16:=Kd.R_putg HO_3.out (x12_1 : Int) ((Int.tmod (rd t359 x12_1) 2) == 0)
    go_wp2_with (first | ((with_reducible refine gate_store (t:=4) (p:=30) rfl ?_); refine store_event (t:=4) (p:=30) (v := ?vo_w17) (w1:=(wr.setCell ⟨go15,(x12_1 : Int).toNat,none⟩ (.bool ((Int.tmod (rd t359 x12_1) 2) == 0)))) ?hg ?ho ?hn ?hr ?_; (case ho => rfl); (case hg => rfl); (case hn => rfl); (case hr => first | (go_simp; done) | (go_simp; rfl)); intro w17 hw; have hg : wr.grownBy w17 (some go15):=(by rw [hw]; exact HP16.2); have hp_ : Kd.R Kd.bool 4 w17 w.heap.size (fun _ => True) (.slice (some ⟨go15,0,none⟩) x3_1.length co15) y364:=(by rw [hw,Ny364.out]; exact HP16.1); clear HP16; replace HO_10:=Aside0.mk (Kd.R_over' (v:=(.slice (some ⟨go15,0,none⟩) x3_1.length co15)) (rk HO_10) (Kd.R_typed HO_3.out) (by decide) hg); replace HO_3:=Aside0.mk (hp_); replace HB:=Aside0.mk ((by rw [hw]; exact below_set (HB.out) GB15.out : Below w.heap.size w w17)); clear hg hw hp_))
    go_roundg k1
    case measure => have:=HK1.out; omega
    case rel => exact ⟨(y364),(wrap64 (x12_1 + 1)),rf,H',⟨by have:=HK1.out; omega⟩,⟨rk HO_3⟩,⟨rk HO_10⟩,⟨bw HB⟩⟩
   rw [if_neg c13] at H
   obtain ⟨c13b0,c13b1⟩:=bF c13
   by_cases c18 : x12_1 < (x3_1.length : Int); rotate_left
   ·rw [if_neg c18] at H
    exact absurd H (by simp)
   rw [if_pos c18] at H
   have c18b0:=decide_eq_true c18
   clear c18
   obtain ⟨y365,hy365⟩ : ∃ y_ : List Bool,y_ = (x3_1.set (x12_1 : Int).toNat false):=⟨_,rfl⟩
   first | rw [Option.bind_some,← hy365] at H | rw [← hy365] at H
   have Ny365:=Aside0.mk hy365
   clear hy365
   have H':=Aside0.mk H
   clear H
   have p362 : 0 ≤ (x12_1 : Int):=od
   have q362 : x12_1 < (t359.length : Int):=od
   obtain ⟨ad362,e362,hx362_0⟩:=Kd.at_int (Kd.R_reads' HO_10.out).2.2 x12_1 p362 q362
   cases e362
   replace p362:=eq_true p362
   replace q362:=eq_true q362
   have p363 : 0 ≤ (x12_1 : Int):=od
   have q363 : x12_1 < (l0.length : Int):=od
   obtain ⟨ad363,A363_7,c363_7,e363,hx363_0,hx363_1,hx363_2,hx363_3,hx363_4,hx363_5,hx363_6,hx363_7,hx363_8,hx363_9,hx363_10,hl363_7,hi363_7⟩:=at_Op HR0.out x12_1 p363 q363
   cases e363
   replace hx363_0:=cl HB hx363_0
   replace hx363_1:=cl HB hx363_1
   replace hx363_2:=cl HB hx363_2
   replace hx363_3:=cl HB hx363_3
   replace hx363_4:=cl HB hx363_4
   replace hx363_5:=cl HB hx363_5
   replace hx363_6:=cl HB hx363_6
   replace hx363_7:=cl HB hx363_7
   replace hx363_8:=cl HB hx363_8
   replace hx363_9:=cl HB hx363_9
   replace hx363_10:=cl HB hx363_10
   have HR363_7:=Aside0.mk hi363_7
   have HC363_7:=Aside0.mk hl363_7
   clear hi363_7 hl363_7
   replace p363:=eq_true p363
   replace q363:=eq_true q363
   have p19 : 0 ≤ (x12_1 : Int):=od
   have q19 : (x12_1 : Int) < ((x3_1.length : Int) : Int):=od
   obtain ⟨go19,co19,eo19,gb19,gl19,cl19,HG19⟩:=Kd.R_form HO_3.out (by omega)
   (first | cases eo19 | (injection eo19 with ea_ en_ ec_; (first | subst ea_ | (injection ea_ with ea_; subst ea_)); subst ec_; clear en_))
   have GB19:=Aside0.mk gb19
   have GG19:=Aside0.mk HG19
   clear gb19 gl19 HG19
   obtain ⟨hx19_0,hf19_0⟩:=Kd.R_celln false HO_3.out (x12_1 : Int) p19 q19
   replace p19:=eq_true p19
   replace q19:=eq_true q19
   have HP20:=Kd.R_putg HO_3.out (x12_1 : Int) false
   go_wp2_with (first | ((with_reducible refine gate_store (t:=4) (p:=30) rfl ?_); refine store_event (t:=4) (p:=30) (v := ?vo_w21) (w1:=(wr.setCell ⟨go19,(x12_1 : Int).toNat,none⟩ (.bool false))) ?hg ?ho ?hn ?hr ?_; (case ho => rfl); (case hg => rfl); (case hn => rfl); (case hr => first | (go_simp; done) | (go_simp; rfl)); intro w21 hw; have hg : wr.grownBy w21 (some go19):=(by rw [hw]; exact HP20.2); have hp_ : Kd.R Kd.bool 4 w21 w.heap.size (fun _ => True) (.slice (some ⟨go19,0,none⟩) x3_1.length co19) y365:=(by rw [hw,Ny365.out]; exact HP20.1); clear HP20; replace HO_10:=Aside0.mk (Kd.R_over' (v:=(.slice (some ⟨go19,0,none⟩) x3_1.length co19)) (rk HO_10) (Kd.R_typed HO_3.out) (by decide) hg); replace HO_3:=Aside0.mk (hp_); replace HB:=Aside0.mk ((by rw [hw]; exact below_set (HB.out) GB19.out : Below w.heap.size w w21)); clear hg hw hp_))
   go_roundg k1
   case measure => have:=HK1.out; omega
   case rel => exact ⟨(y365),(wrap64 (x12_1 + 1)),rf,H',⟨by have:=HK1.out; omega⟩,⟨rk HO_3⟩,⟨rk HO_10⟩,⟨bw HB⟩⟩
end Go.Proofs.YtonoaflfobajcaaDoor.L
end

section
namespace Go.Proofs.YtonoaflfobajcaaDoor.L
open Go.RowKit Go.Proofs.YtonoaflfobajcaaDoorW.PrintWords Go.Proofs.YtonoaflfobajcaaDoorW.PrintLast Go.Proofs.YtonoaflfobajcaaDoorW.PrintMore
set_option linter.unusedVariables false
set_option linter.unusedSimpArgs false
def InB (n : List Int) (b : Int) : Prop:=∀ x ∈ n,0 ≤ x ∧ x ≤ b
theorem cstep_bound (l : List SOp) {n : List Int} {b : Int} (h : InB n b) (hb : 0 ≤ b) (o : SOp) : InB (cstep l n o) (b + 1):=by
 have hd : 0 ≤ n.getD (findOp l o.f6 o.f7).toNat 0 ∧ n.getD (findOp l o.f6 o.f7).toNat 0 ≤ b:=by
  rw [List.getD_eq_getElem?_getD]
  cases hq : n[(findOp l o.f6 o.f7).toNat]? with
  | none => exact ⟨Int.le_refl _,hb⟩
  | some y => exact h y (List.mem_of_getElem? hq)
 unfold cstep
 split
 ·split
  ·intro x hx
   rcases List.mem_or_eq_of_mem_set hx with hx | rfl
   ·have:=h x hx; omega
   ·omega
  ·intro x hx; have:=h x hx; omega
 ·intro x hx; have:=h x hx; omega
theorem tree_Find_f {l : List SOp} (hl : l.length ≤ 1000000) (a b : Int) : tree_Find.f l a b = some (findOp l a b):=by unfold tree_Find.f; rw [if_pos (by omega)]
theorem Counts_loop {l : List SOp} (h : RowOk l) : ∀ d i,i + d = l.length → ∀ n : List Int,n.length = l.length → InB n (i : Int) → (l.take i).foldl (cstep l) (List.replicate l.length 0) = n → Ev (fun k => doc_Counts.l0 k l n l (l.length : Int) (i : Int)) (countsL l)
 | 0,i,hi,n,hn,hb,hf => by
  rw [List.take_of_length_le (by omega)] at hf
  have : countsL l = n:=hf
  rw [this]
  refine Ev.step (f:=fun _ => some n) (fun k => ?_) (Ev.now _)
  simp only [doc_Counts.l0]
  rw [if_neg (by omega)]
 | d + 1,i,hi,n,hn,hb,hf => by
  have hlt : i < l.length:=by omega
  have h40:=h.sums.1
  have ih:=Counts_loop h d (i + 1) (by omega) (cstep l n l[i]) (by rw [cstep_length]; exact hn) (by have:=cstep_bound l hb (by omega) l[i]; simpa using this) (by
   rw [List.take_succ_eq_append_getElem hlt,List.foldl_append,hf]; rfl)
  refine Ev.step (fun k => ?_) ih
  simp only [doc_Counts.l0]
  rw [if_pos (by omega),if_pos (by omega),if_pos (by omega),rd_Op_nat _ _ hlt,wrapS hlt (by omega)]
  by_cases h2 : l[i].f2 = 2
  ·obtain ⟨j,hj,_,_,_,e⟩:=tog_found h (List.getElem_mem hlt) h2
   have hd : 0 ≤ n.getD j 0 ∧ n.getD j 0 ≤ (i : Int):=by
    rw [List.getD_eq_getElem?_getD]
    cases hq : n[j]? with
    | none => exact ⟨Int.le_refl _,by simp⟩
    | some y => exact hb y (List.mem_of_getElem? hq)
   rw [if_pos h2,tree_Find_f (by omega),Option.bind_some]
   unfold cstep
   rw [if_pos h2,e]
   rw [if_pos (by omega),if_pos (by omega)]
   have hrd : rd n (j : Int) = n.getD j 0:=by unfold rd; rw [Int.toNat_natCast]
   rw [hrd,Int.toNat_natCast,wrap64_small (by omega) (by omega)]
   by_cases h8 : l[i].f8 = n.getD j 0
   ·rw [if_pos h8,if_pos h8]
   ·rw [if_neg h8,if_neg h8]
  ·rw [if_neg h2]
   unfold cstep
   rw [if_neg h2]
theorem Counts_ev {l : List SOp} (h : RowOk l) : Ev (fun k => doc_Counts.f k l) (countsL l):=by
 have h40:=h.sums.1
 refine Ev.congr (fun k => ?_) (Counts_loop h l.length 0 (Nat.zero_add _) (List.replicate l.length 0) (by simp) (fun x hx => by rw [List.eq_of_mem_replicate hx]; exact ⟨Int.le_refl _,Int.le_refl _⟩) rfl)
 unfold doc_Counts.f
 rw [if_pos (by omega),if_pos (by omega),Int.toNat_natCast]
 rfl
theorem counts_bound {l : List SOp} : InB (countsL l) (l.length : Int):=by
 have : ∀ i,i ≤ l.length → InB ((l.take i).foldl (cstep l) (List.replicate l.length 0)) (i : Int):=by
  intro i
  induction i with
  | zero => intro _ x hx; rw [List.eq_of_mem_replicate hx]; exact ⟨Int.le_refl _,Int.le_refl _⟩
  | succ i ih =>
   intro hi
   rw [List.take_succ_eq_append_getElem (by omega),List.foldl_append]
   have:=cstep_bound l (ih (by omega)) (by omega) (l[i]'(by omega))
   simpa using this
 have:=this l.length (Nat.le_refl _)
 rwa [List.take_length] at this
def worksL (l : List SOp) : List Bool:=l.map (workE l)
theorem Works_loop {l : List SOp} (h : RowOk l) : ∀ d i,i + d = l.length → Ev (fun k => doc_Works.l0 k l ((l.take i).map (workE l) ++ List.replicate (l.length - i) false) (countsL l) (l.length : Int) (i : Int)) (worksL l)
 | 0,i,hi => by
  rw [List.take_of_length_le (by omega),show l.length - i = 0 by omega]
  simp only [List.replicate_zero,List.append_nil]
  refine Ev.step (f:=fun _ => some (worksL l)) (fun k => ?_) (Ev.now _)
  simp only [doc_Works.l0]
  rw [if_neg (by omega)]
  rfl
 | d + 1,i,hi => by
  have hlt : i < l.length:=by omega
  have h40:=h.sums.1
  have ih:=Works_loop h d (i + 1) (by omega)
  have hc:=counts_at h hlt
  have hcb : 0 ≤ (countsL l).getD i 0:=by
   rw [List.getD_eq_getElem?_getD]
   cases hq : (countsL l)[i]? with
   | none => exact Int.le_refl _
   | some y => exact (counts_bound y (List.mem_of_getElem? hq)).1
  have hset : ∀ b,b = workE l l[i] → ((l.take i).map (workE l) ++ List.replicate (l.length - i) false).set i b = (l.take (i + 1)).map (workE l) ++ List.replicate (l.length - (i + 1)) false:=by
   intro b hb
   have hl : ((l.take i).map (workE l)).length = i:=by rw [List.length_map,List.length_take]; omega
   rw [List.set_append,if_neg (by omega),hl,Nat.sub_self,show l.length - i = (l.length - (i + 1)) + 1 by omega,List.replicate_succ,List.set_cons_zero,List.take_succ_eq_append_getElem hlt,List.map_append,hb]
   simp
  have hlen : (((l.take i).map (workE l) ++ List.replicate (l.length - i) false).length : Int) = l.length:=by
   rw [List.length_append,List.length_map,List.length_take,List.length_replicate]; omega
  refine Ev.step (fun k => ?_) ih
  simp only [doc_Works.l0]
  rw [hlen,if_pos (by omega),if_pos (by omega),if_pos (by rw [counts_length]; omega),if_pos (by omega),rd_Op_nat _ _ hlt,wrapS hlt (by omega),Int.toNat_natCast]
  have hrd : rd (countsL l) (i : Int) = cntR l l[i].f0 l[i].f1:=by unfold rd; rw [Int.toNat_natCast,hc]
  by_cases h1 : l[i].f2 = 1
  ·rw [if_pos h1,if_pos (by omega),hset _ ?_]
   rw [hrd]
   unfold workE
   rw [← hc,Int.tmod_eq_emod_of_nonneg hcb,h1]
   simp
  ·rw [if_neg h1,if_pos (by omega),hset _ ?_]
   unfold workE
   simp [h1]
theorem Works_ev {l : List SOp} (h : RowOk l) : Ev (fun k => doc_Works.f k l) (worksL l):=by
 have h40:=h.sums.1
 refine Ev.congr (f:=fun k => (doc_Counts.f k l).bind fun t314 => doc_Works.l0 k l (List.replicate l.length false) t314 (t314.length : Int) 0) (fun k => ?_) (Ev.bind (f:=fun k t314 => doc_Works.l0 k l (List.replicate l.length false) t314 (t314.length : Int) 0) (Counts_ev h) ?_)
 ·unfold doc_Works.f
  rw [if_pos (by omega),if_pos (by omega),Int.toNat_natCast]
 ·rw [counts_length]
  have:=Works_loop h l.length 0 (Nat.zero_add _)
  simpa using this
theorem All_loop (o : SOp) (hs : sizeOf' o ≤ 1000000) : ∀ d i,i + d = sizeOf' o → Ev (fun k => op_All.l0 k ((List.range i).map fun j : Nat => (⟨o.f0,o.f1,(j : Int)⟩ : SElem)) (sizeOf' o : Int) (i : Int) o.f0 o.f1 o.f2 o.f3.f0 o.f3.f1 o.f3.f2 o.f4 o.f5 o.f6 o.f7 o.f8) (chainE o)
 | 0,i,hi => by
  obtain rfl : i = sizeOf' o:=by omega
  refine Ev.step (f:=fun _ => some (chainE o)) (fun k => ?_) (Ev.now _)
  simp only [op_All.l0]
  rw [if_neg (by omega)]
  rfl
 | d + 1,i,hi => by
  have ih:=All_loop o hs d (i + 1) (by omega)
  rw [List.range_succ,List.map_append] at ih
  refine Ev.step (fun k => ?_) ih
  simp only [op_All.l0]
  unfold op_At.f
  rw [if_pos (by omega),Option.bind_some,if_pos (by simp; omega),wrapS (show i < sizeOf' o by omega) (by omega)]
  rfl
theorem All_ev (o : SOp) (hs : Sm o) (h12 : sizeOf' o ≤ 1000000) : Ev (fun k => op_All.f k o.f0 o.f1 o.f2 o.f3.f0 o.f3.f1 o.f3.f2 o.f4 o.f5 o.f6 o.f7 o.f8) (chainE o):=by
 refine Ev.congr (fun k => ?_) (All_loop o h12 (sizeOf' o) 0 (Nat.zero_add _))
 unfold op_All.f
 rw [op_Size_f o hs,Option.bind_some]
 rfl
end Go.Proofs.YtonoaflfobajcaaDoor.L
end
