/- Part 12 of the proof that for every argument the laws DocWrites, DocGoes, DocUndoes and DocIdles answer true: with more and more that is written, that goes, that is toggled, or that is toggled idly, a row's text and its visible elements are the page's. -/
import Derived.Test.YtonoaflfobajcaaDoorZDW11
import Derived.Lib.RuneCountTail
section
namespace Go.Proofs.YtonoaflfobajcaaDoor.L
open Go.RowKit Go.Proofs.YtonoaflfobajcaaDoorW.PrintWords Go.Proofs.YtonoaflfobajcaaDoorW.PrintLast Go.Proofs.YtonoaflfobajcaaDoorW.PrintMore
attribute [local go_sem] max2_int min2_int max_two min_two max_three min_three max_four min_four
set_option linter.unusedVariables false
set_option linter.unusedSimpArgs false
def w6_DocWrites.f (k : Nat) (l0_0 : List (List (SOp))) (l0_1 : List (SElem)) (l0_2 : List (SOp)) (l0_3 : List Int) : Option (Bool):=(w6_with.f k l0_0 l0_1 l0_2 l0_3 0).bind fun t446 => (some t446)
set_option maxHeartbeats 8000000 in
set_option maxRecDepth 100000 in
theorem w6_DocWrites.calls (k : Nat) (A0_0 : Option Addr) (c0_0 : Nat) (l0_0 : List (List (SOp))) (A0_1 : Option Addr) (c0_1 : Nat) (l0_1 : List (SElem)) (A0_2 : Option Addr) (c0_2 : Nat) (l0_2 : List (SOp)) (A0_3 : Option Addr) (c0_3 : Nat) (l0_3 : List Int) (r : Bool) (w : World) (hr0_0 : Kd.C (Kd.slice 55 kOp) w A0_0 l0_0.length l0_0) (hc0_0 : l0_0.length ≤ c0_0) (hr0_1 : Kd.C kElem w A0_1 l0_1.length l0_1) (hc0_1 : l0_1.length ≤ c0_1) (hr0_2 : Kd.C kOp w A0_2 l0_2.length l0_2) (hc0_2 : l0_2.length ≤ c0_2) (hr0_3 : Kd.C (Kd.int .i64) w A0_3 l0_3.length l0_3) (hc0_3 : l0_3.length ≤ c0_3) (hT : GT w) (h : w6_DocWrites.f k l0_0 l0_1 l0_2 l0_3 = some r) :
  Calls Tryd.prog 4 #[.agg #[.slice A0_0 l0_0.length c0_0, .slice A0_1 l0_1.length c0_1, .slice A0_2 l0_2.length c0_2, .slice A0_3 l0_3.length c0_3]] w fun e w' => e = .returned (.bool r) ∧ Below w.heap.size w w':=by
 have hu27:=Tryd.underlying27
 have HR0_0:=Aside0.mk hr0_0
 have HC0_0:=Aside0.mk hc0_0
 clear hr0_0 hc0_0
 have HR0_1:=Aside0.mk hr0_1
 have HC0_1:=Aside0.mk hc0_1
 clear hr0_1 hc0_1
 have HR0_2:=Aside0.mk hr0_2
 have HC0_2:=Aside0.mk hc0_2
 clear hr0_2 hc0_2
 have HR0_3:=Aside0.mk hr0_3
 have HC0_3:=Aside0.mk hc0_3
 clear hr0_3 hc0_3
 have HB:=Aside0.mk (Below.refl w.heap.size w)
 unfold w6_DocWrites.f at h; have H:=h
 clear h
 obtain ⟨t446,A2,H⟩:=bE H
 obtain rfl:=Option.some.inj H
 go_enter Tryd.func4,Tryd.ntmps4
 go_wp2_with (first | ((with_reducible refine gate_dst (N:=1) rfl ?_); refine bx 1 #[.slice A0_0 l0_0.length c0_0, .slice A0_1 l0_1.length c0_1, .slice A0_2 l0_2.length c0_2, .slice A0_3 l0_3.length c0_3] 27 (h := ?_); intro gb445 hg w3 hbox hb; have BK445:=Aside0.mk (hbox); have GW445:=bz HB hg; have GE445:=bz HB hg; replace HB:=bs HB hb; clear hb hbox hg; obtain ⟨_,_,_,_,_,_,_,_⟩:=kc4 BK445) | ((with_reducible refine gate_callee (f:=30) rfl ?_); refine gl (some 4) Tryd.func30 #[.agg #[.slice A0_0 l0_0.length c0_0, .slice A0_1 l0_1.length c0_1, .slice A0_2 l0_2.length c0_2, .slice A0_3 l0_3.length c0_3], .int .i64 0] (h := ?_); (with_reducible refine (w6_with.calls k _ _ l0_0 _ _ l0_1 _ _ l0_2 _ _ l0_3 0 t446 _ ?side1 ?side2 ?side3 ?side4 ?side5 ?side6 ?side7 ?side8 ?side9 A2.out).mono ?_); (case side1 => exact cb HR0_0 HB); (case side2 => exact HC0_0.out); (case side3 => exact cb HR0_1 HB); (case side4 => exact HC0_1.out); (case side5 => exact cb HR0_2 HB); (case side6 => exact HC0_2.out); (case side7 => exact cb HR0_3 HB); (case side8 => exact HC0_3.out); (case side9 => exact (hT.below (bw HB))); rintro e w5 ⟨rfl,hb⟩; refine ⟨_,rfl, ?_⟩; replace BK445:=bl BK445 hb; replace HB:=bs HB hb; clear hb))
 go_ret
 exact ⟨re,bw HB⟩
def w6_DocGoes.f (k : Nat) (l0_0 : List (List (SOp))) (l0_1 : List (SElem)) (l0_2 : List (SOp)) (l0_3 : List Int) : Option (Bool):=(w6_with.f k l0_0 l0_1 l0_2 l0_3 1).bind fun t448 => (some t448)
set_option maxHeartbeats 8000000 in
set_option maxRecDepth 100000 in
theorem w6_DocGoes.calls (k : Nat) (A0_0 : Option Addr) (c0_0 : Nat) (l0_0 : List (List (SOp))) (A0_1 : Option Addr) (c0_1 : Nat) (l0_1 : List (SElem)) (A0_2 : Option Addr) (c0_2 : Nat) (l0_2 : List (SOp)) (A0_3 : Option Addr) (c0_3 : Nat) (l0_3 : List Int) (r : Bool) (w : World) (hr0_0 : Kd.C (Kd.slice 55 kOp) w A0_0 l0_0.length l0_0) (hc0_0 : l0_0.length ≤ c0_0) (hr0_1 : Kd.C kElem w A0_1 l0_1.length l0_1) (hc0_1 : l0_1.length ≤ c0_1) (hr0_2 : Kd.C kOp w A0_2 l0_2.length l0_2) (hc0_2 : l0_2.length ≤ c0_2) (hr0_3 : Kd.C (Kd.int .i64) w A0_3 l0_3.length l0_3) (hc0_3 : l0_3.length ≤ c0_3) (hT : GT w) (h : w6_DocGoes.f k l0_0 l0_1 l0_2 l0_3 = some r) :
  Calls Tryd.prog 5 #[.agg #[.slice A0_0 l0_0.length c0_0, .slice A0_1 l0_1.length c0_1, .slice A0_2 l0_2.length c0_2, .slice A0_3 l0_3.length c0_3]] w fun e w' => e = .returned (.bool r) ∧ Below w.heap.size w w':=by
 have hu27:=Tryd.underlying27
 have HR0_0:=Aside0.mk hr0_0
 have HC0_0:=Aside0.mk hc0_0
 clear hr0_0 hc0_0
 have HR0_1:=Aside0.mk hr0_1
 have HC0_1:=Aside0.mk hc0_1
 clear hr0_1 hc0_1
 have HR0_2:=Aside0.mk hr0_2
 have HC0_2:=Aside0.mk hc0_2
 clear hr0_2 hc0_2
 have HR0_3:=Aside0.mk hr0_3
 have HC0_3:=Aside0.mk hc0_3
 clear hr0_3 hc0_3
 have HB:=Aside0.mk (Below.refl w.heap.size w)
 unfold w6_DocGoes.f at h; have H:=h
 clear h
 obtain ⟨t448,A2,H⟩:=bE H
 obtain rfl:=Option.some.inj H
 go_enter Tryd.func5,Tryd.ntmps5
 go_wp2_with (first | ((with_reducible refine gate_dst (N:=1) rfl ?_); refine bx 1 #[.slice A0_0 l0_0.length c0_0, .slice A0_1 l0_1.length c0_1, .slice A0_2 l0_2.length c0_2, .slice A0_3 l0_3.length c0_3] 27 (h := ?_); intro gb447 hg w3 hbox hb; have BK447:=Aside0.mk (hbox); have GW447:=bz HB hg; have GE447:=bz HB hg; replace HB:=bs HB hb; clear hb hbox hg; obtain ⟨_,_,_,_,_,_,_,_⟩:=kc4 BK447) | ((with_reducible refine gate_callee (f:=30) rfl ?_); refine gl (some 4) Tryd.func30 #[.agg #[.slice A0_0 l0_0.length c0_0, .slice A0_1 l0_1.length c0_1, .slice A0_2 l0_2.length c0_2, .slice A0_3 l0_3.length c0_3], .int .i64 1] (h := ?_); (with_reducible refine (w6_with.calls k _ _ l0_0 _ _ l0_1 _ _ l0_2 _ _ l0_3 1 t448 _ ?side1 ?side2 ?side3 ?side4 ?side5 ?side6 ?side7 ?side8 ?side9 A2.out).mono ?_); (case side1 => exact cb HR0_0 HB); (case side2 => exact HC0_0.out); (case side3 => exact cb HR0_1 HB); (case side4 => exact HC0_1.out); (case side5 => exact cb HR0_2 HB); (case side6 => exact HC0_2.out); (case side7 => exact cb HR0_3 HB); (case side8 => exact HC0_3.out); (case side9 => exact (hT.below (bw HB))); rintro e w5 ⟨rfl,hb⟩; refine ⟨_,rfl, ?_⟩; replace BK447:=bl BK447 hb; replace HB:=bs HB hb; clear hb))
 go_ret
 exact ⟨re,bw HB⟩
def w6_DocUndoes.f (k : Nat) (l0_0 : List (List (SOp))) (l0_1 : List (SElem)) (l0_2 : List (SOp)) (l0_3 : List Int) : Option (Bool):=(w6_with.f k l0_0 l0_1 l0_2 l0_3 2).bind fun t450 => (some t450)
set_option maxHeartbeats 8000000 in
set_option maxRecDepth 100000 in
theorem w6_DocUndoes.calls (k : Nat) (A0_0 : Option Addr) (c0_0 : Nat) (l0_0 : List (List (SOp))) (A0_1 : Option Addr) (c0_1 : Nat) (l0_1 : List (SElem)) (A0_2 : Option Addr) (c0_2 : Nat) (l0_2 : List (SOp)) (A0_3 : Option Addr) (c0_3 : Nat) (l0_3 : List Int) (r : Bool) (w : World) (hr0_0 : Kd.C (Kd.slice 55 kOp) w A0_0 l0_0.length l0_0) (hc0_0 : l0_0.length ≤ c0_0) (hr0_1 : Kd.C kElem w A0_1 l0_1.length l0_1) (hc0_1 : l0_1.length ≤ c0_1) (hr0_2 : Kd.C kOp w A0_2 l0_2.length l0_2) (hc0_2 : l0_2.length ≤ c0_2) (hr0_3 : Kd.C (Kd.int .i64) w A0_3 l0_3.length l0_3) (hc0_3 : l0_3.length ≤ c0_3) (hT : GT w) (h : w6_DocUndoes.f k l0_0 l0_1 l0_2 l0_3 = some r) :
  Calls Tryd.prog 6 #[.agg #[.slice A0_0 l0_0.length c0_0, .slice A0_1 l0_1.length c0_1, .slice A0_2 l0_2.length c0_2, .slice A0_3 l0_3.length c0_3]] w fun e w' => e = .returned (.bool r) ∧ Below w.heap.size w w':=by
 have hu27:=Tryd.underlying27
 have HR0_0:=Aside0.mk hr0_0
 have HC0_0:=Aside0.mk hc0_0
 clear hr0_0 hc0_0
 have HR0_1:=Aside0.mk hr0_1
 have HC0_1:=Aside0.mk hc0_1
 clear hr0_1 hc0_1
 have HR0_2:=Aside0.mk hr0_2
 have HC0_2:=Aside0.mk hc0_2
 clear hr0_2 hc0_2
 have HR0_3:=Aside0.mk hr0_3
 have HC0_3:=Aside0.mk hc0_3
 clear hr0_3 hc0_3
 have HB:=Aside0.mk (Below.refl w.heap.size w)
 unfold w6_DocUndoes.f at h; have H:=h
 clear h
 obtain ⟨t450,A2,H⟩:=bE H
 obtain rfl:=Option.some.inj H
 go_enter Tryd.func6,Tryd.ntmps6
 go_wp2_with (first | ((with_reducible refine gate_dst (N:=1) rfl ?_); refine bx 1 #[.slice A0_0 l0_0.length c0_0, .slice A0_1 l0_1.length c0_1, .slice A0_2 l0_2.length c0_2, .slice A0_3 l0_3.length c0_3] 27 (h := ?_); intro gb449 hg w3 hbox hb; have BK449:=Aside0.mk (hbox); have GW449:=bz HB hg; have GE449:=bz HB hg; replace HB:=bs HB hb; clear hb hbox hg; obtain ⟨_,_,_,_,_,_,_,_⟩:=kc4 BK449) | ((with_reducible refine gate_callee (f:=30) rfl ?_); refine gl (some 4) Tryd.func30 #[.agg #[.slice A0_0 l0_0.length c0_0, .slice A0_1 l0_1.length c0_1, .slice A0_2 l0_2.length c0_2, .slice A0_3 l0_3.length c0_3], .int .i64 2] (h := ?_); (with_reducible refine (w6_with.calls k _ _ l0_0 _ _ l0_1 _ _ l0_2 _ _ l0_3 2 t450 _ ?side1 ?side2 ?side3 ?side4 ?side5 ?side6 ?side7 ?side8 ?side9 A2.out).mono ?_); (case side1 => exact cb HR0_0 HB); (case side2 => exact HC0_0.out); (case side3 => exact cb HR0_1 HB); (case side4 => exact HC0_1.out); (case side5 => exact cb HR0_2 HB); (case side6 => exact HC0_2.out); (case side7 => exact cb HR0_3 HB); (case side8 => exact HC0_3.out); (case side9 => exact (hT.below (bw HB))); rintro e w5 ⟨rfl,hb⟩; refine ⟨_,rfl, ?_⟩; replace BK449:=bl BK449 hb; replace HB:=bs HB hb; clear hb))
 go_ret
 exact ⟨re,bw HB⟩
def w6_DocIdles.f (k : Nat) (l0_0 : List (List (SOp))) (l0_1 : List (SElem)) (l0_2 : List (SOp)) (l0_3 : List Int) : Option (Bool):=(w6_with.f k l0_0 l0_1 l0_2 l0_3 3).bind fun t452 => (some t452)
set_option maxHeartbeats 8000000 in
set_option maxRecDepth 100000 in
theorem w6_DocIdles.calls (k : Nat) (A0_0 : Option Addr) (c0_0 : Nat) (l0_0 : List (List (SOp))) (A0_1 : Option Addr) (c0_1 : Nat) (l0_1 : List (SElem)) (A0_2 : Option Addr) (c0_2 : Nat) (l0_2 : List (SOp)) (A0_3 : Option Addr) (c0_3 : Nat) (l0_3 : List Int) (r : Bool) (w : World) (hr0_0 : Kd.C (Kd.slice 55 kOp) w A0_0 l0_0.length l0_0) (hc0_0 : l0_0.length ≤ c0_0) (hr0_1 : Kd.C kElem w A0_1 l0_1.length l0_1) (hc0_1 : l0_1.length ≤ c0_1) (hr0_2 : Kd.C kOp w A0_2 l0_2.length l0_2) (hc0_2 : l0_2.length ≤ c0_2) (hr0_3 : Kd.C (Kd.int .i64) w A0_3 l0_3.length l0_3) (hc0_3 : l0_3.length ≤ c0_3) (hT : GT w) (h : w6_DocIdles.f k l0_0 l0_1 l0_2 l0_3 = some r) :
  Calls Tryd.prog 7 #[.agg #[.slice A0_0 l0_0.length c0_0, .slice A0_1 l0_1.length c0_1, .slice A0_2 l0_2.length c0_2, .slice A0_3 l0_3.length c0_3]] w fun e w' => e = .returned (.bool r) ∧ Below w.heap.size w w':=by
 have hu27:=Tryd.underlying27
 have HR0_0:=Aside0.mk hr0_0
 have HC0_0:=Aside0.mk hc0_0
 clear hr0_0 hc0_0
 have HR0_1:=Aside0.mk hr0_1
 have HC0_1:=Aside0.mk hc0_1
 clear hr0_1 hc0_1
 have HR0_2:=Aside0.mk hr0_2
 have HC0_2:=Aside0.mk hc0_2
 clear hr0_2 hc0_2
 have HR0_3:=Aside0.mk hr0_3
 have HC0_3:=Aside0.mk hc0_3
 clear hr0_3 hc0_3
 have HB:=Aside0.mk (Below.refl w.heap.size w)
 unfold w6_DocIdles.f at h; have H:=h
 clear h
 obtain ⟨t452,A2,H⟩:=bE H
 obtain rfl:=Option.some.inj H
 go_enter Tryd.func7,Tryd.ntmps7
 go_wp2_with (first | ((with_reducible refine gate_dst (N:=1) rfl ?_); refine bx 1 #[.slice A0_0 l0_0.length c0_0, .slice A0_1 l0_1.length c0_1, .slice A0_2 l0_2.length c0_2, .slice A0_3 l0_3.length c0_3] 27 (h := ?_); intro gb451 hg w3 hbox hb; have BK451:=Aside0.mk (hbox); have GW451:=bz HB hg; have GE451:=bz HB hg; replace HB:=bs HB hb; clear hb hbox hg; obtain ⟨_,_,_,_,_,_,_,_⟩:=kc4 BK451) | ((with_reducible refine gate_callee (f:=30) rfl ?_); refine gl (some 4) Tryd.func30 #[.agg #[.slice A0_0 l0_0.length c0_0, .slice A0_1 l0_1.length c0_1, .slice A0_2 l0_2.length c0_2, .slice A0_3 l0_3.length c0_3], .int .i64 3] (h := ?_); (with_reducible refine (w6_with.calls k _ _ l0_0 _ _ l0_1 _ _ l0_2 _ _ l0_3 3 t452 _ ?side1 ?side2 ?side3 ?side4 ?side5 ?side6 ?side7 ?side8 ?side9 A2.out).mono ?_); (case side1 => exact cb HR0_0 HB); (case side2 => exact HC0_0.out); (case side3 => exact cb HR0_1 HB); (case side4 => exact HC0_1.out); (case side5 => exact cb HR0_2 HB); (case side6 => exact HC0_2.out); (case side7 => exact cb HR0_3 HB); (case side8 => exact HC0_3.out); (case side9 => exact (hT.below (bw HB))); rintro e w5 ⟨rfl,hb⟩; refine ⟨_,rfl, ?_⟩; replace BK451:=bl BK451 hb; replace HB:=bs HB hb; clear hb))
 go_ret
 exact ⟨re,bw HB⟩
end Go.Proofs.YtonoaflfobajcaaDoor.L
end

section
namespace Go.Proofs.YtonoaflfobajcaaDoor.L
open Go.RowKit Go.Proofs.YtonoaflfobajcaaDoorW.PrintWords Go.Proofs.YtonoaflfobajcaaDoorW.PrintLast Go.Proofs.YtonoaflfobajcaaDoorW.PrintMore
set_option linter.unusedVariables false
set_option linter.unusedSimpArgs false
def idxE (l : List SElem) (e : SElem) : Int:=firstAt (fun i => decide (rd_Elem l (i : Int) = e)) l.length l.length 0
theorem eqE_iff (x : SElem) (a b c : Int) : (x.f0 == a && (x.f1 == b && (x.f2 == c))) = decide (x = ⟨a,b,c⟩):=by
 rw [Bool.eq_iff_iff]
 simp only [Bool.and_eq_true,beq_iff_eq,decide_eq_true_eq]
 exact ⟨fun h => SElem.ext3 h.1 h.2.1 h.2.2,fun h => by subst h; exact ⟨rfl,rfl,rfl⟩⟩
theorem At_loop (l : List SElem) (hl : l.length ≤ 1000000000) (a b c : Int) : ∀ d i,i + d = l.length → Ev (fun k => r0_At.l0 k l (i : Int) a b c) (firstAt (fun i => decide (rd_Elem l (i : Int) = ⟨a,b,c⟩)) l.length d i)
 | 0,i,h => Ev.step (f:=fun _ => some (-1)) (fun k => by simp only [r0_At.l0]; rw [if_neg (by omega)]) (Ev.now _)
 | d + 1,i,h => by
  have ih:=At_loop l hl a b c d (i + 1) (by omega)
  unfold firstAt
  rw [if_pos (show i < l.length by omega)]
  by_cases he : rd_Elem l (i : Int) = ⟨a,b,c⟩
  ·rw [if_pos (by simp [he])]
   refine Ev.step (f:=fun _ => some (i : Int)) (fun k => ?_) (Ev.now _)
   simp only [r0_At.l0,eqE_iff]
   rw [if_pos (by omega),if_pos (by omega),if_pos (by simp [he])]
  ·rw [if_neg (by simp [he])]
   refine Ev.step (fun k => ?_) ih
   simp only [r0_At.l0,eqE_iff]
   rw [if_pos (by omega),if_pos (by omega),if_neg (by simp [he]),wrapS (show i < l.length by omega) (by omega)]
theorem At_ev (l : List SElem) (hl : l.length ≤ 1000000000) (e : SElem) : Ev (fun k => r0_At.f k l e.f0 e.f1 e.f2) (idxE l e) :=
 At_loop l hl e.f0 e.f1 e.f2 l.length 0 (Nat.zero_add _)
theorem idxE_cases (l : List SElem) (e : SElem) : (∃ i,∃ h : i < l.length,l[i] = e ∧ (∀ j (hj : j < i),l[j]'(by omega) ≠ e) ∧ idxE l e = (i : Int)) ∨ (e ∉ l ∧ idxE l e = -1):=by
 unfold idxE
 rcases firstAt_cases (fun i => decide (rd_Elem l (i : Int) = e)) l.length with ⟨i,h1,h2,h3,h4⟩ | ⟨h1,h2⟩
 ·refine .inl ⟨i,h1, ?_,fun j hj => ?_,h4⟩
  ·rw [rd_Elem_nat _ _ h1] at h2; simpa using h2
  ·have:=h3 j hj
   rw [rd_Elem_nat _ _ (by omega)] at this; simpa using this
 ·refine .inr ⟨fun hm => ?_,h2⟩
  obtain ⟨i,hi,rfl⟩:=List.getElem_of_mem hm
  have:=h1 i hi
  rw [rd_Elem_nat _ _ hi] at this; simp at this
theorem idxE_nonneg (l : List SElem) (e : SElem) : 0 ≤ idxE l e ↔ e ∈ l:=by
 rcases idxE_cases l e with ⟨i,h,rfl,_,e'⟩ | ⟨hn,e'⟩
 ·rw [e']; exact ⟨fun _ => List.getElem_mem h,fun _ => by omega⟩
 ·rw [e']; exact ⟨fun h => by omega,fun h => absurd h hn⟩
end Go.Proofs.YtonoaflfobajcaaDoor.L
end

section
namespace Go.Proofs.YtonoaflfobajcaaDoor.L
open Go.RowKit Go.Proofs.YtonoaflfobajcaaDoorW.PrintWords Go.Proofs.YtonoaflfobajcaaDoorW.PrintLast Go.Proofs.YtonoaflfobajcaaDoorW.PrintMore
set_option linter.unusedVariables false
set_option linter.unusedSimpArgs false
theorem ref1_Rune_f (r : Int) : r1_Rune.f r = some (runeOk r):=by
 unfold r1_Rune.f runeOk
 by_cases h10 : r = 10
 ·simp [h10]
 ·have e10 : (r == 10) = false:=by simp [h10]
  rw [if_neg h10,e10,Bool.false_or]
  by_cases h1 : 32 ≤ r <;> by_cases h2 : r ≤ 1114111 <;> by_cases h3 : r = 127 <;> by_cases h4 : r = 65533 <;> by_cases h5 : r ≤ 55295 <;> by_cases h6 : 57344 ≤ r <;> (first | (exfalso; omega) | simp [h1,h2,h3,h4,h5,h6])
theorem decodeN_le (n b0 b1 b2 b3 : Nat) (h : 1 ≤ n) : (Lib.decodeN n b0 b1 b2 b3).2 ≤ n:=by
 unfold Lib.decodeN
 repeat' split
 all_goals (simp_all <;> omega)
theorem decode_le (s : ByteArray) (i : Nat) (h : i < s.size) : 1 ≤ (Utf8.decode s i).2 ∧ i + (Utf8.decode s i).2 ≤ s.size:=by
 refine ⟨Lib.decode_width_pos s i h, ?_⟩
 rw [Lib.decode_at]
 have:=decodeN_le (s.size - i) (s.get! i).toNat (s.get! (i + 1)).toNat (s.get! (i + 2)).toNat (s.get! (i + 3)).toNat (by omega)
 omega
theorem decFrom_more (s : ByteArray) : ∀ d pos f,s.size ≤ pos + d → d ≤ f → decFrom s f pos = decFrom s d pos
 | 0,pos,f,h,_ => by cases f <;> simp [decFrom,Nat.not_lt.2 (show s.size ≤ pos by omega)]
 | d + 1,pos,0,h,hf => by omega
 | d + 1,pos,f + 1,h,hf => by
  unfold decFrom
  by_cases hp : pos < s.size
  ·rw [if_pos hp,if_pos hp,decFrom_more s d _ f (by have:=(decode_le s pos hp).1; omega) (by omega)]
  ·rw [if_neg hp,if_neg hp]
theorem decFrom_step (s : ByteArray) (pos : Nat) (h : pos < s.size) : decFrom s s.size pos = ((Utf8.decode s pos).1 : Int) :: decFrom s s.size (pos + (Utf8.decode s pos).2):=by
 have hw:=decode_le s pos h
 rw [decFrom_more s (s.size - pos) pos s.size (by omega) (by omega),show s.size - pos = (s.size - pos - 1) + 1 by omega]
 conv => lhs; unfold decFrom
 rw [if_pos h,← decFrom_more s (s.size - pos - 1) (pos + (Utf8.decode s pos).2) s.size (by omega) (by omega)]
theorem decFrom_end (s : ByteArray) (pos : Nat) (h : s.size ≤ pos) : decFrom s s.size pos = []:=by
 rw [decFrom_more s 0 pos s.size (by omega) (by omega)]; rfl
theorem decFrom_len (s : ByteArray) : ∀ f pos,(decFrom s f pos).length ≤ f
 | 0,_ => Nat.le_refl _
 | f + 1,pos => by
  unfold decFrom
  split
  ·simp only [List.length_cons]; have:=decFrom_len s f (pos + (Utf8.decode s pos).2); omega
  ·simp
theorem decodeGo_at (s : ByteArray) (pos : Nat) (h : pos < s.size) : Lib.decodeGo (s.extract pos s.size) = Utf8.decode s pos:=by
 unfold Lib.decodeGo
 rw [if_neg (by rw [ByteArray.size_extract]; omega),Lib.tail_decode,Nat.add_zero]
def runesR (s : ByteArray) (acc : List Int) (pos : Nat) : List Int × Bool:=if (decFrom s s.size pos).all runeOk = true then (acc ++ decFrom s s.size pos,true) else ([],false)
theorem Runes_loop (s : ByteArray) (hs : s.size ≤ 35184372088000) : ∀ d pos (acc : List Int),s.size ≤ pos + d → pos ≤ s.size → acc.length ≤ pos → Ev (fun k => r1_Runes.l0 k s acc (pos : Int)) (runesR s acc pos)
 | 0,pos,acc,h,hp,_ => by
  unfold runesR
  rw [decFrom_end s pos (by omega),List.all_nil,if_pos rfl,List.append_nil]
  exact Ev.step (f:=fun _ => some (acc,true)) (fun k => by simp only [r1_Runes.l0]; rw [if_neg (by omega)]) (Ev.now _)
 | d + 1,pos,acc,h,hp,ha => by
  by_cases hlt : pos < s.size
  ·have hw:=decode_le s pos hlt
   have ih:=Runes_loop s hs d (pos + (Utf8.decode s pos).2) (acc ++ [((Utf8.decode s pos).1 : Int)]) (by omega) hw.2 (by simp; omega)
   have hf : utf8_DecodeRuneInString.f (s.extract (pos : Int).toNat s.size) = some (((Utf8.decode s pos).1 : Int),((Utf8.decode s pos).2 : Int)):=by
    unfold utf8_DecodeRuneInString.f
    rw [Int.toNat_natCast,decodeGo_at s pos hlt]
   unfold runesR at ih ⊢
   rw [decFrom_step s pos hlt,List.all_cons]
   cases hr : runeOk ((Utf8.decode s pos).1 : Int)
   ·simp only [Bool.false_and,Bool.false_eq_true,if_false]
    refine Ev.step (f:=fun _ => some ([],false)) (fun k => ?_) (Ev.now _)
    simp only [r1_Runes.l0]
    rw [if_pos (by omega),if_pos (by omega),if_pos (by omega),hf,Option.bind_some,ref1_Rune_f,Option.bind_some,hr]
    rfl
   ·simp only [Bool.true_and]
    rw [List.append_assoc,List.singleton_append] at ih
    refine Ev.step (fun k => ?_) ih
    simp only [r1_Runes.l0]
    rw [if_pos (by omega),if_pos (by omega),if_pos (by omega),hf,Option.bind_some,ref1_Rune_f,Option.bind_some,hr,if_pos rfl,if_pos (by omega),wrap64_small (by omega) (by omega)]
    simp only [Int.natCast_add]
  ·have hpe : pos = s.size:=by omega
   unfold runesR
   rw [decFrom_end s pos (by omega),List.all_nil,if_pos rfl,List.append_nil]
   exact Ev.step (f:=fun _ => some (acc,true)) (fun k => by simp only [r1_Runes.l0]; rw [if_neg (by omega)]) (Ev.now _)
theorem Runes_ev (s : ByteArray) (hs : s.size ≤ 35184372088000) : Ev (fun k => r1_Runes.f k s) (if textOk s = true then (runesOf s,true) else ([],false)) :=
 Runes_loop s hs s.size 0 [] (by omega) (Nat.zero_le _) (Nat.le_refl _)
theorem ref4_Begin_f (e : SElem) : r4_Begin.f e.f0 e.f1 e.f2 = some (isBegin e):=rfl
theorem ref0_Between_f (a b c : Int) : r0_Between.f a b c = some (decide (b ≤ a) && decide (a ≤ c)):=by
 unfold r0_Between.f
 by_cases h : b ≤ a <;> simp [h]
theorem ref4_name_f (a b : Int) : r4_name.f a b = some (nameOk a b):=by
 unfold r4_name.f nameOk
 rw [ref0_Between_f,ref0_Between_f]
 simp only [Option.bind_some]
 cases decide (1 ≤ a) <;> cases decide (a ≤ 8) <;> simp
theorem ref0_Num_f (a b : Int) : r0_Num.f a b = some (decide (0 ≤ a) && decide (a ≤ b)):=by
 unfold r0_Num.f
 by_cases h : 0 ≤ a <;> simp [h]
theorem ref4_Elem_f (e : SElem) : r4_Elem.f e.f0 e.f1 e.f2 = some (elemOk e):=by
 unfold r4_Elem.f elemOk
 rw [ref4_Begin_f,ref4_name_f,ref0_Num_f]
 simp only [Option.bind_some]
 have : decide (e.f2 ≤ 11) = decide (e.f2 < 12):=decide_eq_decide.2 (by omega)
 rw [this]
 cases isBegin e <;> cases nameOk e.f0 e.f1 <;> simp
theorem ref4_Less_f (a b : SElem) : r4_Less.f a.f0 a.f1 a.f2 b.f0 b.f1 b.f2 = some (elLess a b):=by
 unfold r4_Less.f elLess
 by_cases h0 : a.f0 = b.f0
 ·by_cases h1 : a.f1 = b.f1
  ·simp [h0,h1]
  ·have : ¬ b.f0 < b.f0:=by omega
   simp [h0,h1]
 ·simp [h0]
theorem ref4_own_f (o : SOp) (e : SElem) : r4_own.f o.f0 o.f1 o.f2 o.f3.f0 o.f3.f1 o.f3.f2 o.f4 o.f5 o.f6 o.f7 o.f8 e.f0 e.f1 e.f2 = some (ownEl o e):=by
 unfold r4_own.f ownEl
 by_cases h : e.f0 = o.f0 <;> simp [h]
def Sm2 (o : SOp) : Prop:=o.f4.size ≤ 35184372088000 ∧ o.f5.length ≤ 1000000000000000
theorem ref4_Op_l0 (o : SOp) (h : Sm2 o) : ∀ d i,i + d = o.f5.length →
  Ev (fun k => r4_Op.l0 k (i : Int) o.f0 o.f1 o.f2 o.f3.f0 o.f3.f1 o.f3.f2 o.f4 o.f5 o.f6 o.f7 o.f8) (goneFrom o (if i = 0 then none else some (rd_Elem o.f5 ((i : Int) - 1))) (o.f5.drop i))
 | 0,i,hi => by
  rw [List.drop_eq_nil_of_le (by omega)]
  exact Ev.step (f:=fun _ => some true) (fun k => by simp only [r4_Op.l0]; rw [if_neg (by omega)]) (Ev.now _)
 | d + 1,i,hi => by
  have hlt : i < o.f5.length:=by omega
  have ih:=ref4_Op_l0 o h d (i + 1) (by omega)
  have hw : wrap64 ((i : Int) + 1) = ((i + 1 : Nat) : Int):=wrapS hlt (by have:=h.2; omega)
  have hw1 : wrap64 ((i : Int) - 1) = (i : Int) - 1:=wrap64_small (by omega) (by have:=h.2; omega)
  have hd : o.f5.drop i = rd_Elem o.f5 (i : Int) :: o.f5.drop (i + 1):=by rw [rd_Elem_nat _ _ hlt]; exact List.drop_eq_getElem_cons hlt
  rw [hd]
  generalize hx : rd_Elem o.f5 (i : Int) = x at ih ⊢
  have hp1 : rd_Elem o.f5 (((i + 1 : Nat) : Int) - 1) = x:=by rw [show (((i + 1 : Nat) : Int) - 1) = (i : Int) by omega]; exact hx
  rw [if_neg (show ¬ i + 1 = 0 by omega),hp1] at ih
  have unf : ∀ k,r4_Op.l0 (k + 1) (i : Int) o.f0 o.f1 o.f2 o.f3.f0 o.f3.f1 o.f3.f2 o.f4 o.f5 o.f6 o.f7 o.f8 =
    (if isBegin x = true then some false else if elemOk x = true then (if ownEl o x = true then some false else if (i : Int) > 0 then
     (if elLess (rd_Elem o.f5 ((i : Int) - 1)) x = true then r4_Op.l0 k ((i + 1 : Nat) : Int) o.f0 o.f1 o.f2 o.f3.f0 o.f3.f1 o.f3.f2 o.f4 o.f5 o.f6 o.f7 o.f8 else some false)
     else r4_Op.l0 k ((i + 1 : Nat) : Int) o.f0 o.f1 o.f2 o.f3.f0 o.f3.f1 o.f3.f2 o.f4 o.f5 o.f6 o.f7 o.f8) else some false):=by
   intro k
   simp only [r4_Op.l0]
   rw [if_pos (by omega),if_pos (by omega),hx,ref4_Begin_f,ref4_Elem_f,ref4_own_f,hw,hw1]
   simp only [Option.bind_some]
   by_cases hi0 : (i : Int) > 0
   ·simp only [if_pos hi0]
    rw [if_pos (show (0 : Int) ≤ (i : Int) - 1 by omega),if_pos (show (i : Int) - 1 < (o.f5.length : Int) by omega),ref4_Less_f]
    rfl
   ·simp only [if_neg hi0]
  unfold goneFrom
  have no : ∀ c : Bool,c = false → (∀ k,r4_Op.l0 (k + 1) (i : Int) o.f0 o.f1 o.f2 o.f3.f0 o.f3.f1 o.f3.f2 o.f4 o.f5 o.f6 o.f7 o.f8 = some false) → Ev (fun k => r4_Op.l0 k (i : Int) o.f0 o.f1 o.f2 o.f3.f0 o.f3.f1 o.f3.f2 o.f4 o.f5 o.f6 o.f7 o.f8) c:=by
   intro c hc hk; subst hc; exact Ev.step (f:=fun _ => some false) hk (Ev.now _)
  cases hb : isBegin x
  ·cases he : elemOk x
   ·exact no _ (by simp) (fun k => by rw [unf,hb,he]; simp)
   ·cases ho : ownEl o x
    ·by_cases hi0 : i = 0
     ·subst hi0
      simp only [if_true,Bool.not_false,Bool.true_and]
      exact Ev.step (fun k => by rw [unf,hb,he,ho]; simp) ih
     ·simp only [if_neg hi0]
      cases hl : elLess (rd_Elem o.f5 ((i : Int) - 1)) x
      ·exact no _ (by simp [hl]) (fun k => by rw [unf,hb,he,ho,hl]; simp; omega)
      ·simp only [Bool.not_false,Bool.true_and]
       exact Ev.step (fun k => by rw [unf,hb,he,ho,hl]; simp) ih
    ·exact no _ (by simp) (fun k => by rw [unf,hb,he,ho]; simp)
  ·exact no _ (by simp) (fun k => by rw [unf,hb]; simp)
theorem Op_l0_start (o : SOp) (h : Sm2 o) : Ev (fun k => r4_Op.l0 k 0 o.f0 o.f1 o.f2 o.f3.f0 o.f3.f1 o.f3.f2 o.f4 o.f5 o.f6 o.f7 o.f8) (goneFrom o none o.f5):=by
 have:=ref4_Op_l0 o h o.f5.length 0 (Nat.zero_add _)
 simpa using this
theorem Op_j1 (o : SOp) (h : Sm2 o) (b : Bool) : Ev (fun k => r4_Op.j1 k b o.f0 o.f1 o.f2 o.f3.f0 o.f3.f1 o.f3.f2 o.f4 o.f5 o.f6 o.f7 o.f8) (!b && goneFrom o none o.f5):=by
 cases b
 ·simp only [Bool.not_false,Bool.true_and]
  exact Ev.step (fun k => by simp only [r4_Op.j1]; rw [if_neg (by decide)]) (Op_l0_start o h)
 ·simp only [Bool.not_true,Bool.false_and]
  exact Ev.step (f:=fun _ => some false) (fun k => by simp only [r4_Op.j1]; rw [if_pos True.intro]) (Ev.now _)
def restOk (o : SOp) : Bool:=textOk o.f4 && (decide (sizeOf' o ≤ 12) && (elemOk o.f3 && (!(decide (sizeOf' o = 0) && !isBegin o.f3) && (!ownEl o o.f3 && goneFrom o none o.f5))))
theorem Op_j0 (o : SOp) (h : Sm2 o) (b : Bool) : Ev (fun k => r4_Op.j0 k b o.f0 o.f1 o.f2 o.f3.f0 o.f3.f1 o.f3.f2 o.f4 o.f5 o.f6 o.f7 o.f8) (!b && restOk o):=by
 cases b
 ·simp only [Bool.not_false,Bool.true_and]
  have hR:=Runes_ev o.f4 h.1
  unfold restOk
  obtain ⟨F,hF⟩ : ∃ F : Nat → List Int × Bool → Option Bool,F = (fun k bt => (if bt.2 = true then (if (bt.1.length : Int) > 12 then (r4_Op.j1 k true o.f0 o.f1 o.f2 o.f3.f0 o.f3.f1 o.f3.f2 o.f4 o.f5 o.f6 o.f7 o.f8) else ((r4_Elem.f o.f3.f0 o.f3.f1 o.f3.f2).bind fun t176 => (if t176 = true then (if (bt.1.length : Int) = 0 then ((r4_Begin.f o.f3.f0 o.f3.f1 o.f3.f2).bind fun t177 => (if t177 = true then ((r4_own.f o.f0 o.f1 o.f2 o.f3.f0 o.f3.f1 o.f3.f2 o.f4 o.f5 o.f6 o.f7 o.f8 o.f3.f0 o.f3.f1 o.f3.f2).bind fun t178 => (r4_Op.j1 k t178 o.f0 o.f1 o.f2 o.f3.f0 o.f3.f1 o.f3.f2 o.f4 o.f5 o.f6 o.f7 o.f8)) else (r4_Op.j1 k true o.f0 o.f1 o.f2 o.f3.f0 o.f3.f1 o.f3.f2 o.f4 o.f5 o.f6 o.f7 o.f8))) else ((r4_own.f o.f0 o.f1 o.f2 o.f3.f0 o.f3.f1 o.f3.f2 o.f4 o.f5 o.f6 o.f7 o.f8 o.f3.f0 o.f3.f1 o.f3.f2).bind fun t179 => (r4_Op.j1 k t179 o.f0 o.f1 o.f2 o.f3.f0 o.f3.f1 o.f3.f2 o.f4 o.f5 o.f6 o.f7 o.f8))) else (r4_Op.j1 k true o.f0 o.f1 o.f2 o.f3.f0 o.f3.f1 o.f3.f2 o.f4 o.f5 o.f6 o.f7 o.f8)))) else (r4_Op.j1 k true o.f0 o.f1 o.f2 o.f3.f0 o.f3.f1 o.f3.f2 o.f4 o.f5 o.f6 o.f7 o.f8))):=⟨_,rfl⟩
  refine Ev.step (f:=fun k => (r1_Runes.f k o.f4).bind (F k)) (fun k => ?_) (Ev.bind hR ?_)
  ·simp only [r4_Op.j0]; rw [if_neg (by decide),hF]
  ·rw [hF]
   have hn : ∀ x : Bool,Ev (fun k => r4_Op.j1 k true o.f0 o.f1 o.f2 o.f3.f0 o.f3.f1 o.f3.f2 o.f4 o.f5 o.f6 o.f7 o.f8) (x && false):=fun x => by rw [Bool.and_false]; exact Op_j1 o h true
   simp only [ref4_Elem_f,ref4_own_f,ref4_Begin_f,Option.bind_some]
   cases ht : textOk o.f4
   ·simp only [Bool.false_eq_true,if_false,Bool.false_and]
    exact Op_j1 o h true
   ·simp only [if_true,Bool.true_and]
    have hl : (runesOf o.f4).length = sizeOf' o:=rfl
    rw [hl]
    by_cases h12 : sizeOf' o ≤ 12
    ·have e12 : decide (sizeOf' o ≤ 12) = true:=decide_eq_true h12
     rw [e12,Bool.true_and]
     have n12 : ¬ ((sizeOf' o : Int) > 12):=by omega
     simp only [if_neg n12]
     cases he : elemOk o.f3
     ·simp only [Bool.false_eq_true,if_false,Bool.false_and]
      exact Op_j1 o h true
     ·simp only [if_true,Bool.true_and]
      by_cases h0 : sizeOf' o = 0
      ·have h0i : (sizeOf' o : Int) = 0:=by omega
       simp only [if_pos h0i,h0,decide_true,Bool.true_and,Bool.not_not]
       cases hb : isBegin o.f3
       ·simp only [Bool.false_eq_true,if_false,Bool.false_and]
        exact Op_j1 o h true
       ·simp only [if_true,Bool.true_and]
        exact Op_j1 o h _
      ·have h0i : ¬ (sizeOf' o : Int) = 0:=by omega
       have e0 : decide (sizeOf' o = 0) = false:=decide_eq_false h0
       simp only [if_neg h0i,e0,Bool.false_and,Bool.not_false,Bool.true_and]
       exact Op_j1 o h _
    ·have e12 : decide (sizeOf' o ≤ 12) = false:=decide_eq_false h12
     rw [e12,Bool.false_and]
     have n12 : (sizeOf' o : Int) > 12:=by omega
     simp only [if_pos n12]
     exact Op_j1 o h true
 ·simp only [Bool.not_true,Bool.false_and]
  exact Ev.step (f:=fun _ => some false) (fun k => by simp only [r4_Op.j0]; rw [if_pos True.intro]) (Ev.now _)
theorem editOk_rest (o : SOp) : editOk o = (o.f6 == 0 && (o.f7 == 0 && (o.f8 == 0 && (decide (o.f5.length ≤ 200) && (!(o.f4.toList.isEmpty && o.f5.isEmpty) && restOk o))))):=by
 unfold editOk restOk goneOk
 have : decide (sizeOf' o = 0) = o.f4.toList.isEmpty:=by
  rw [Bool.eq_iff_iff,decide_eq_true_eq]; exact (runesOf_nil o.f4)
 rw [this]
 cases o.f6 == 0 <;> cases o.f7 == 0 <;> cases o.f8 == 0 <;> cases decide (o.f5.length ≤ 200) <;> cases o.f4.toList.isEmpty <;> cases o.f5.isEmpty <;> cases textOk o.f4 <;> cases decide (sizeOf' o ≤ 12) <;> cases elemOk o.f3 <;> cases isBegin o.f3 <;> cases ownEl o o.f3 <;> cases goneFrom o none o.f5 <;> rfl
theorem Op_ev (o : SOp) (h : Sm2 o) : Ev (fun k => r4_Op.f k o.f0 o.f1 o.f2 o.f3.f0 o.f3.f1 o.f3.f2 o.f4 o.f5 o.f6 o.f7 o.f8) (opOk o):=by
 unfold r4_Op.f opOk
 simp only [ref4_name_f,ref4_Begin_f,ref0_Num_f,Option.bind_some]
 cases nameOk o.f0 o.f1
 ·simp only [Bool.false_eq_true,if_false,Bool.false_and]; exact Ev.now _
 ·simp only [if_true,Bool.true_and]
  by_cases h2 : o.f2 = 2
  ·have h1 : ¬ o.f2 = 1:=by omega
   rw [if_neg h1]
   simp only [h2,if_true,beq_self_eq_true,Bool.true_and]
   unfold toggleOk
   refine Ev.congr (fun k => ?_) (Ev.now _)
   have hl : ((o.f5.length : Int) == 0) = o.f5.isEmpty:=isEmpty_len _
   have ht : (o.f4.toList = ([] : List UInt8)) ↔ o.f4.toList.isEmpty = true:=toList_isEmpty _
   simp only [hl,ht]
   cases nameOk o.f6 o.f7
   ·simp
   ·by_cases e6 : o.f6 = o.f0 <;> by_cases e7 : o.f7 = o.f1 <;> by_cases e8 : 0 ≤ o.f8 <;> by_cases e9 : o.f8 ≤ 268435456 <;> cases isBegin o.f3 <;> cases o.f4.toList.isEmpty <;> simp [e6,e7,e8,e9]
  ·have e2 : (o.f2 == 2) = false:=by simp [h2]
   simp only [if_neg h2]
   by_cases h1 : o.f2 = 1
   ·simp only [if_pos h1]
    rw [editOk_rest]
    by_cases e6 : o.f6 = 0
    ·simp only [if_pos e6]
     by_cases e7 : o.f7 = 0
     ·simp only [if_pos e7]
      by_cases e8 : o.f8 = 0
      ·simp only [if_pos e8]
       have b6 : (o.f6 == 0) = true:=by simp [e6]
       have b7 : (o.f7 == 0) = true:=by simp [e7]
       have b8 : (o.f8 == 0) = true:=by simp [e8]
       rw [b6,b7,b8,Bool.true_and,Bool.true_and,Bool.true_and]
       by_cases e5 : o.f5.length ≤ 200
       ·have n5 : ¬ (o.f5.length : Int) > 200:=by omega
        have d5 : decide (o.f5.length ≤ 200) = true:=decide_eq_true e5
        simp only [if_neg n5,d5,Bool.true_and,isEmpty_len]
        by_cases e4 : o.f4.toList = ([] : List UInt8)
        ·simp only [if_pos e4,List.isEmpty_iff.2 e4,Bool.true_and]; exact Op_j0 o h _
        ·have : o.f4.toList.isEmpty = false:=by cases hh : o.f4.toList.isEmpty; rfl; exact absurd (List.isEmpty_iff.1 hh) e4
         simp only [if_neg e4,this,Bool.false_and]; exact Op_j0 o h _
       ·have n5 : (o.f5.length : Int) > 200:=by omega
        have d5 : decide (o.f5.length ≤ 200) = false:=decide_eq_false e5
        simp only [if_pos n5,d5,Bool.false_and]; exact Op_j0 o h _
      ·have b8 : (o.f8 == 0) = false:=by simp [e8]
       simp only [if_neg e8,b8,Bool.false_and,Bool.and_false]; exact Op_j0 o h _
     ·have b7 : (o.f7 == 0) = false:=by simp [e7]
      simp only [if_neg e7,b7,Bool.false_and,Bool.and_false]; exact Op_j0 o h _
    ·have b6 : (o.f6 == 0) = false:=by simp [e6]
     simp only [if_neg e6,b6,Bool.false_and]; exact Op_j0 o h _
   ·simp only [if_neg h1,e2,Bool.false_and]; have hh:=Op_j0 o h true; simp only [Bool.not_true,Bool.false_and] at hh; exact hh
theorem Find_loop (l : List SOp) (hl : l.length ≤ 1000000000000) (a b : Int) : ∀ d i,i + d = l.length → Ev (fun k => r4_Find.l0 k l a b (i : Int)) (firstAt (fun i => nameIs a b (rd_Op l i)) l.length d i)
 | 0,i,h => Ev.step (f:=fun _ => some (-1)) (fun k => by simp only [r4_Find.l0]; rw [if_neg (by omega)]) (Ev.now _)
 | d + 1,i,h => by
  have ih:=Find_loop l hl a b d (i + 1) (by omega)
  unfold firstAt
  rw [if_pos (show i < l.length by omega)]
  by_cases h0 : (rd_Op l (i : Int)).f0 = a
  ·by_cases h1 : (rd_Op l (i : Int)).f1 = b
   ·rw [if_pos (by unfold nameIs; simp [h0,h1])]
    refine Ev.step (f:=fun _ => some (i : Int)) (fun k => ?_) (Ev.now _)
    simp only [r4_Find.l0]
    rw [if_pos (by omega),if_pos (by omega),if_pos h0,if_pos h1]
   ·rw [if_neg (by unfold nameIs; simp [h1])]
    refine Ev.step (fun k => ?_) ih
    simp only [r4_Find.l0]
    rw [if_pos (by omega),if_pos (by omega),if_pos h0,if_neg h1,wrapS (show i < l.length by omega) (by omega)]
  ·rw [if_neg (by unfold nameIs; simp [h0])]
   refine Ev.step (fun k => ?_) ih
   simp only [r4_Find.l0]
   rw [if_pos (by omega),if_pos (by omega),if_neg h0,wrapS (show i < l.length by omega) (by omega)]
theorem Find_ev (l : List SOp) (hl : l.length ≤ 1000000000000) (a b : Int) : Ev (fun k => r4_Find.f k l a b) (findOp l a b):=Find_loop l hl a b l.length 0 (Nat.zero_add _)
def runesN (o : SOp) : Nat:=if textOk o.f4 = true then sizeOf' o else 0
theorem RunesO_ev (o : SOp) (h : o.f4.size ≤ 35184372088000) : Ev (fun k => r4_Runes.f k o.f0 o.f1 o.f2 o.f3.f0 o.f3.f1 o.f3.f2 o.f4 o.f5 o.f6 o.f7 o.f8) (runesN o : Int):=by
 refine Ev.bind (f:=fun _ (bt : List Int × Bool) => some (bt.1.length : Int)) (Runes_ev o.f4 h) ?_
 unfold runesN
 cases textOk o.f4
 ·exact Ev.now _
 ·exact Ev.now _
theorem opOk_text {o : SOp} (h : opOk o = true) : runesN o = sizeOf' o:=by
 unfold runesN
 rcases opOk_kinds h with ⟨_,h2⟩ | ⟨h1,h2⟩
 ·unfold editOk at h2; simp only [Bool.and_eq_true] at h2
  rw [if_pos h2.1.1.1.1.1.2]
 ·have:=(opOk_size2 h).2 h1
  split <;> omega
def writtenN (l : List SOp) (e : SElem) : Bool:=isBegin e || (decide (0 ≤ findOp l e.f0 e.f1) && decide (0 ≤ e.f2) && decide (e.f2 < (runesN (rd_Op l (findOp l e.f0 e.f1)) : Int)))
theorem written_ev (l : List SOp) (hl : l.length ≤ 1000000000000) (hs : ∀ o ∈ l,o.f4.size ≤ 35184372088000) (e : SElem) : Ev (fun k => r4_written.f k l e.f0 e.f1 e.f2) (writtenN l e):=by
 unfold r4_written.f writtenN
 simp only [ref4_Begin_f,Option.bind_some]
 cases isBegin e
 ·simp only [Bool.false_eq_true,if_false,Bool.false_or]
  refine Ev.bind (Find_ev l hl e.f0 e.f1) ?_
  rcases findOp_cases l e.f0 e.f1 with ⟨i,hi,_,_,_,ef⟩ | ⟨_,ef⟩
  ·rw [ef]
   have h0 : (i : Int) ≥ 0:=by omega
   have d0 : decide ((0 : Int) ≤ (i : Int)) = true:=decide_eq_true (by omega)
   simp only [if_pos h0,d0,Bool.true_and]
   by_cases h2 : e.f2 ≥ 0
   ·have d2 : decide ((0 : Int) ≤ e.f2) = true:=decide_eq_true h2
    have h3 : (i : Int) < (l.length : Int):=by omega
    have h4 : (0 : Int) ≤ (i : Int):=by omega
    simp only [if_pos h2,d2,if_pos h3,if_pos h4,Bool.true_and]
    refine Ev.bind (f:=fun _ t => some (decide (e.f2 < t))) (RunesO_ev (rd_Op l (i : Int)) (by rw [rd_Op_nat _ _ hi]; exact hs _ (List.getElem_mem hi))) (Ev.now _)
   ·have d2 : decide ((0 : Int) ≤ e.f2) = false:=decide_eq_false (by omega)
    simp only [if_neg h2,d2,Bool.false_and]; exact Ev.now _
  ·rw [ef]
   have h0 : ¬ (-1 : Int) ≥ 0:=by omega
   simp only [if_neg h0]; exact Ev.now _
 ·simp only [if_true,Bool.true_or]; exact Ev.now _
theorem countS_take (l : List SOp) (a : Int) (i : Nat) (h : i < l.length) : countS (l.take (i + 1)) a = countS (l.take i) a + if l[i].f0 = a then 1 else 0:=by
 rw [List.take_succ_eq_append_getElem h,countS_app]
theorem Many_loop (l : List SOp) (hl : l.length ≤ 1000000000000) (a : Int) : ∀ d i,i + d = l.length → Ev (fun k => r4_Many.l0 k l a (countS (l.take i) a : Int) (i : Int)) (countS l a : Int)
 | 0,i,h => by
  rw [List.take_of_length_le (by omega)]
  exact Ev.step (f:=fun _ => some (countS l a : Int)) (fun k => by simp only [r4_Many.l0]; rw [if_neg (by omega)]) (Ev.now _)
 | d + 1,i,h => by
  have ih:=Many_loop l hl a d (i + 1) (by omega)
  have hlt : i < l.length:=by omega
  have hc : countS (l.take i) a ≤ i:=Nat.le_trans (countS_le _ _) (by rw [List.length_take]; omega)
  rw [countS_take l a i hlt] at ih
  refine Ev.step (fun k => ?_) ih
  simp only [r4_Many.l0]
  rw [if_pos (by omega),if_pos (by omega),rd_Op_nat _ _ hlt,wrapS hlt (by omega),wrap64_small (i:=(countS (l.take i) a : Int) + 1) (by omega) (by omega)]
  by_cases h0 : l[i].f0 = a
  ·rw [if_pos h0,if_pos h0]; rfl
  ·rw [if_neg h0,if_neg h0]; rfl
theorem Many_ev (l : List SOp) (hl : l.length ≤ 1000000000000) (a : Int) : Ev (fun k => r4_Many.f k l a) (countS l a : Int):=Many_loop l hl a l.length 0 (Nat.zero_add _)
def editN (l : List SOp) (a b : Int) : Bool:=decide (0 ≤ findOp l a b) && ((rd_Op l (findOp l a b)).f2 == 1)
theorem Edit_ev (l : List SOp) (hl : l.length ≤ 1000000000000) (a b : Int) : Ev (fun k => r4_Edit.f k l a b) (editN l a b):=by
 refine Ev.bind (f:=fun _ t => if t ≥ 0 then (if 0 ≤ t then (if t < (l.length : Int) then some ((rd_Op l t).f2 == 1) else none) else none) else some false) (Find_ev l hl a b) ?_
 unfold editN
 rcases findOp_cases l a b with ⟨i,hi,_,_,_,ef⟩ | ⟨_,ef⟩
 ·rw [ef]
  refine Ev.congr (fun k => ?_) (Ev.now _)
  rw [if_pos (by omega),if_pos (by omega),if_pos (by omega),decide_eq_true (show (0 : Int) ≤ (i : Int) by omega),Bool.true_and]
 ·rw [ef]; exact Ev.now _
structure SmL (l : List SOp) : Prop where
 len : l.length ≤ 1000000000000
 ops : ∀ o ∈ l,Sm2 o
theorem SmL.take {l : List SOp} (h : SmL l) (n : Nat) : SmL (l.take n):=⟨by have:=h.len; rw [List.length_take]; omega,fun o ho => h.ops o (List.mem_of_mem_take ho)⟩
def goesN (l : List SOp) (o : SOp) : Bool:=opOk o && (decide (o.f1 = (countS l o.f0 : Int) + 1) && (writtenN l o.f3 && (o.f5.all (writtenN l) && (o.f2 == 1 || editN l o.f6 o.f7))))
theorem Goes_l0 (l : List SOp) (hl : SmL l) (o : SOp) (h : Sm2 o) : ∀ d i,i + d = o.f5.length → Ev (fun k => r4_Goes.l0 k l (i : Int) o.f0 o.f1 o.f2 o.f3.f0 o.f3.f1 o.f3.f2 o.f4 o.f5 o.f6 o.f7 o.f8) ((o.f5.drop i).all (writtenN l) && (o.f2 == 1 || editN l o.f6 o.f7))
 | 0,i,hi => by
  rw [List.drop_eq_nil_of_le (by omega)]
  simp only [List.all_nil,Bool.true_and]
  by_cases h1 : o.f2 = 1
  ·have : (o.f2 == 1) = true:=by simp [h1]
   rw [this,Bool.true_or]
   exact Ev.step (f:=fun _ => some true) (fun k => by simp only [r4_Goes.l0]; rw [if_neg (by omega),if_pos h1]) (Ev.now _)
  ·have : (o.f2 == 1) = false:=by simp [h1]
   rw [this,Bool.false_or]
   refine Ev.step (f:=fun k => (r4_Edit.f k l o.f6 o.f7).bind fun t => some t) (fun k => by simp only [r4_Goes.l0]; rw [if_neg (by omega),if_neg h1]) (Ev.bind (f:=fun _ t => some t) (Edit_ev l hl.len o.f6 o.f7) (Ev.now _))
 | d + 1,i,hi => by
  have hlt : i < o.f5.length:=by omega
  have ih:=Goes_l0 l hl o h d (i + 1) (by omega)
  rw [List.drop_eq_getElem_cons hlt,List.all_cons]
  have hw:=written_ev l hl.len (fun o ho => (hl.ops o ho).1) o.f5[i]
  refine Ev.step (f:=fun k => (r4_written.f k l o.f5[i].f0 o.f5[i].f1 o.f5[i].f2).bind fun t => if t = true then r4_Goes.l0 k l ((i + 1 : Nat) : Int) o.f0 o.f1 o.f2 o.f3.f0 o.f3.f1 o.f3.f2 o.f4 o.f5 o.f6 o.f7 o.f8 else some false) (fun k => ?_) (Ev.bind (f:=fun k t => if t = true then r4_Goes.l0 k l ((i + 1 : Nat) : Int) o.f0 o.f1 o.f2 o.f3.f0 o.f3.f1 o.f3.f2 o.f4 o.f5 o.f6 o.f7 o.f8 else some false) hw ?_)
  ·simp only [r4_Goes.l0]
   rw [if_pos (by omega),if_pos (by omega),rd_Elem_nat _ _ hlt,wrapS hlt (by have:=h.2; omega)]
  ·cases writtenN l o.f5[i]
   ·simp only [Bool.false_and,Bool.false_eq_true,if_false]; exact Ev.now _
   ·simp only [Bool.true_and,if_true]; exact ih
theorem Goes_ev (l : List SOp) (hl : SmL l) (o : SOp) (h : Sm2 o) : Ev (fun k => r4_Goes.f k l o.f0 o.f1 o.f2 o.f3.f0 o.f3.f1 o.f3.f2 o.f4 o.f5 o.f6 o.f7 o.f8) (goesN l o):=by
 have hj : ∀ b : Bool,Ev (fun k => r4_Goes.j0 k l b o.f0 o.f1 o.f2 o.f3.f0 o.f3.f1 o.f3.f2 o.f4 o.f5 o.f6 o.f7 o.f8) (!b && (o.f5.all (writtenN l) && (o.f2 == 1 || editN l o.f6 o.f7))):=by
  intro b
  cases b
  ·simp only [Bool.not_false,Bool.true_and]
   exact Ev.step (fun k => by simp only [r4_Goes.j0]; rw [if_neg (by decide)]; rfl) (Goes_l0 l hl o h o.f5.length 0 (Nat.zero_add _))
  ·simp only [Bool.not_true,Bool.false_and]
   exact Ev.step (f:=fun _ => some false) (fun k => by simp only [r4_Goes.j0]; rw [if_pos True.intro]) (Ev.now _)
 have hjt:=hj true
 simp only [Bool.not_true,Bool.false_and] at hjt
 unfold r4_Goes.f goesN
 refine Ev.bind (Op_ev o h) ?_
 cases opOk o
 ·simp only [Bool.false_eq_true,if_false,Bool.false_and]; exact hjt
 ·simp only [if_true,Bool.true_and]
  refine Ev.bind (Many_ev l hl.len o.f0) ?_
  have hc:=countS_le l o.f0
  have hlen:=hl.len
  simp only [wrap64_small (show -9223372036854775808 ≤ (countS l o.f0 : Int) + 1 by omega) (show (countS l o.f0 : Int) + 1 ≤ 9223372036854775807 by omega)]
  by_cases hq : o.f1 = (countS l o.f0 : Int) + 1
  ·simp only [if_pos hq,decide_eq_true hq,Bool.true_and]
   refine Ev.bind (written_ev l hl.len (fun o ho => (hl.ops o ho).1) o.f3) ?_
   have:=hj (!writtenN l o.f3)
   rw [Bool.not_not] at this
   exact this
  ·simp only [if_neg hq,decide_eq_false hq,Bool.false_and]; exact hjt
def totalN (l : List SOp) : Nat:=(l.map runesN).sum
theorem totalN_take (l : List SOp) (i : Nat) (h : i < l.length) : totalN (l.take (i + 1)) = totalN (l.take i) + runesN l[i]:=by
 unfold totalN; rw [List.take_succ_eq_append_getElem h,List.map_append,List.sum_append]; simp
theorem sizeOf_le (o : SOp) : sizeOf' o ≤ o.f4.size:=decFrom_len _ _ _
theorem Fits_loop (l : List SOp) (h40 : l.length ≤ 40) (hl : SmL l) : ∀ d i,i + d = l.length → totalN (l.take i) ≤ i * 35184372088000 → Ev (fun k => r4_Fits.l0 k l (totalN (l.take i) : Int) (i : Int)) (decide (totalN l ≤ 200))
 | 0,i,h,_ => by
  rw [List.take_of_length_le (by omega)]
  have : decide ((totalN l : Int) ≤ 200) = decide (totalN l ≤ 200):=decide_eq_decide.2 (by omega)
  exact Ev.step (f:=fun _ => some (decide (totalN l ≤ 200))) (fun k => by simp only [r4_Fits.l0]; rw [if_neg (by omega),if_pos (by omega),this]) (Ev.now _)
 | d + 1,i,h,ht => by
  have hlt : i < l.length:=by omega
  have hr : runesN l[i] ≤ 35184372088000:=by
   have:=(hl.ops _ (List.getElem_mem hlt)).1
   have:=sizeOf_le l[i]
   unfold runesN; split <;> omega
  have e:=totalN_take l i hlt
  have ih:=Fits_loop l h40 hl d (i + 1) (by omega) (by rw [e]; omega)
  rw [e] at ih
  have hR:=RunesO_ev l[i] (hl.ops _ (List.getElem_mem hlt)).1
  refine Ev.step (fun k => ?_) (Ev.bind (f:=fun k t => r4_Fits.l0 k l (wrap64 ((totalN (l.take i) : Int) + t)) ((i + 1 : Nat) : Int)) hR ?_)
  ·simp only [r4_Fits.l0]
   rw [if_pos (by omega),if_pos (by omega),if_pos (by omega),rd_Op_nat _ _ hlt,wrapS hlt (by omega)]
  ·rw [wrap64_small (by omega) (by omega)]
   exact ih
theorem Fits_ev (l : List SOp) (h40 : l.length ≤ 40) (hl : SmL l) : Ev (fun k => r4_Fits.f k l) (decide (totalN l ≤ 200)):=by
 have h:=Fits_loop l h40 hl l.length 0 (Nat.zero_add _) (by rw [List.take_zero]; exact Nat.zero_le _)
 have e : totalN (l.take 0) = 0:=by rw [List.take_zero]; rfl
 rw [e] at h
 exact h
def rowR (l : List SOp) (i : Nat) : Bool:=(List.range' i (l.length - i)).all (fun j => goesN (l.take j) (rd_Op l (j : Int))) && decide (totalN l ≤ 200)
theorem Row_loop (l : List SOp) (h40 : l.length ≤ 40) (hl : SmL l) : ∀ d i,i + d = l.length → Ev (fun k => r4_Row.l0 k l (i : Int)) (rowR l i)
 | 0,i,h => by
  unfold rowR
  rw [show l.length - i = 0 by omega]
  simp only [List.range'_zero,List.all_nil,Bool.true_and]
  refine Ev.step (fun k => by simp only [r4_Row.l0]; rw [if_neg (by omega)]) (Ev.bind (f:=fun _ t => some t) (Fits_ev l h40 hl) (Ev.now _))
 | d + 1,i,h => by
  have hlt : i < l.length:=by omega
  have ih:=Row_loop l h40 hl d (i + 1) (by omega)
  have hG:=Goes_ev (l.take i) (hl.take i) l[i] (hl.ops _ (List.getElem_mem hlt))
  unfold rowR at ih ⊢
  rw [show l.length - i = (l.length - (i + 1)) + 1 by omega,List.range'_succ,List.all_cons,rd_Op_nat _ _ hlt]
  refine Ev.step (fun k => ?_) (Ev.bind (f:=fun k t => if t = true then r4_Row.l0 k l ((i + 1 : Nat) : Int) else some false) hG ?_)
  ·simp only [r4_Row.l0]
   rw [if_pos (by omega),if_pos (by omega),if_pos (by omega),rd_Op_nat _ _ hlt,Int.toNat_natCast,wrapS hlt (by omega)]
  ·cases goesN (l.take i) l[i]
   ·simp only [Bool.false_and,Bool.false_eq_true,if_false]; exact Ev.now _
   ·simp only [Bool.true_and,if_true]; exact ih
theorem writtenN_wr {l : List SOp} (hr : RowOk l) (e : SElem) : writtenN l e = true ↔ wr l e:=by
 unfold writtenN wr
 rw [Bool.or_eq_true]
 refine or_congr Iff.rfl ?_
 simp only [Bool.and_eq_true,decide_eq_true_eq]
 constructor
 ·rintro ⟨⟨h0,h1⟩,h2⟩
  rcases findOp_cases l e.f0 e.f1 with ⟨i,hi,e0,e1,_,ef⟩ | ⟨_,ef⟩
  ·rw [ef,rd_Op_nat _ _ hi,opOk_text (hr.oks _ (List.getElem_mem hi))] at h2
   exact ⟨h1,l[i],List.getElem_mem hi,e0,e1,h2⟩
  ·omega
 ·rintro ⟨h1,p,hp,e0,e1,h2⟩
  obtain ⟨i,hi,ef,ei⟩:=findOp_mem hr hp
  rw [← e0,← e1,ef,rd_Op_nat _ _ hi,ei,opOk_text (hr.oks p hp)]
  exact ⟨⟨by omega,h1⟩,h2⟩
theorem editN_iff {l : List SOp} (hr : RowOk l) (a b : Int) : editN l a b = true ↔ ∃ p ∈ l,p.f2 = 1 ∧ p.f0 = a ∧ p.f1 = b:=by
 unfold editN
 simp only [Bool.and_eq_true,decide_eq_true_eq,beq_iff_eq]
 constructor
 ·rintro ⟨h0,h1⟩
  rcases findOp_cases l a b with ⟨i,hi,e0,e1,_,ef⟩ | ⟨_,ef⟩
  ·rw [ef,rd_Op_nat _ _ hi] at h1; exact ⟨l[i],List.getElem_mem hi,h1,e0,e1⟩
  ·omega
 ·rintro ⟨p,hp,h2,rfl,rfl⟩
  obtain ⟨i,hi,ef,ei⟩:=findOp_mem hr hp
  rw [ef,rd_Op_nat _ _ hi,ei]
  exact ⟨by omega,h2⟩
theorem goesN_iff {l : List SOp} (hr : RowOk l) (o : SOp) : goesN l o = true ↔ GoesR l o:=by
 unfold goesN
 simp only [Bool.and_eq_true,decide_eq_true_eq,Bool.or_eq_true,beq_iff_eq,List.all_eq_true,writtenN_wr hr,editN_iff hr]
 constructor
 ·rintro ⟨h1,h2,h3,h4,h5⟩
  exact ⟨h1,h2,h3,h4,fun e => h5.elim (fun e1 => by omega) id⟩
 ·intro h
  refine ⟨h.ok,h.seq,h.after,h.gone, ?_⟩
  rcases opOk_kinds h.ok with ⟨e,_⟩ | ⟨e,_⟩
  ·exact .inl e
  ·exact .inr (h.tog e)
theorem totalN_eq {l : List SOp} (h : ∀ o ∈ l,opOk o = true) : totalN l = total l:=by
 unfold totalN total
 rw [List.map_congr_left (fun o ho => opOk_text (h o ho))]
theorem rowR_iff (l : List SOp) (h40 : l.length ≤ 40) : rowR l 0 = true ↔ RowOk l:=by
 unfold rowR
 rw [Nat.sub_zero]
 simp only [Bool.and_eq_true,decide_eq_true_eq,List.all_eq_true,List.mem_range'_1]
 constructor
 ·rintro ⟨h1,h2⟩
  have key : ∀ n,n ≤ l.length → (∀ i (h : i < l.length),i < n → GoesR (l.take i) l[i]) ∧ (∀ o ∈ l.take n,opOk o = true) ∧ RowOk (l.take n):=by
   intro n
   induction n with
   | zero => intro _; exact ⟨fun i _ h => by omega,fun o ho => by simp at ho,by simpa using RowOk.nil⟩
   | succ n ih =>
    intro hn
    obtain ⟨a,b,c⟩:=ih (by omega)
    have hlt : n < l.length:=by omega
    have g:=h1 n ⟨Nat.zero_le _,by omega⟩
    rw [rd_Op_nat _ _ hlt] at g
    have g':=(goesN_iff c l[n]).1 g
    have b' : ∀ o ∈ l.take (n + 1),opOk o = true:=by
     rw [List.take_succ_eq_append_getElem hlt]
     intro o ho
     rcases List.mem_append.1 ho with ho | ho
     ·exact b o ho
     ·simp at ho; subst ho; exact g'.ok
    refine ⟨fun i hi hin => ?_,b', ?_⟩
    ·by_cases e : i = n
     ·subst e; exact g'
     ·exact a i hi (by omega)
    ·rw [List.take_succ_eq_append_getElem hlt]
     refine .snoc c ⟨by rw [List.length_take]; omega,g'.ok,g'.seq,g'.after,g'.gone,g'.tog, ?_⟩
     have t1:=totalN_eq b'
     rw [List.take_succ_eq_append_getElem hlt,total_app] at t1
     have t2 : totalN (l.take (n + 1)) ≤ totalN l:=by
      have : totalN (l.take (n + 1)) + totalN (l.drop (n + 1)) = totalN l:=by
       unfold totalN; rw [← List.sum_append,← List.map_append,List.take_append_drop]
      omega
     rw [List.take_succ_eq_append_getElem hlt] at t2
     omega
  have:=(key l.length (Nat.le_refl _)).2.2
  rwa [List.take_length] at this
 ·intro h
  refine ⟨fun j hj => ?_,by rw [totalN_eq h.oks]; exact h.sums.2⟩
  rw [rd_Op_nat _ _ (by omega)]
  exact (goesN_iff (h.take j) _).2 (((RowOk_iff l).1 h).2.2 j (by omega))
theorem Row_ev (l : List SOp) (hl : SmL l) : Ev (fun k => r4_Row.f k l) (mayB l):=by
 unfold r4_Row.f
 by_cases h40 : l.length ≤ 40
 ·have n40 : ¬ (l.length : Int) > 40:=by omega
  simp only [if_neg n40]
  have : mayB l = rowR l 0:=by rw [Bool.eq_iff_iff,mayB_iff,rowR_iff l h40]
  rw [this]
  exact Row_loop l h40 hl l.length 0 (Nat.zero_add _)
 ·have n40 : (l.length : Int) > 40:=by omega
  simp only [if_pos n40]
  have : mayB l = false:=by unfold mayB; simp [h40]
  rw [this]; exact Ev.now _
end Go.Proofs.YtonoaflfobajcaaDoor.L
end

section
namespace Go.Proofs.YtonoaflfobajcaaDoor.L
open Go.RowKit Go.Proofs.YtonoaflfobajcaaDoorW.PrintWords Go.Proofs.YtonoaflfobajcaaDoorW.PrintLast Go.Proofs.YtonoaflfobajcaaDoorW.PrintMore
set_option linter.unusedVariables false
set_option linter.unusedSimpArgs false
def hungC (l : List SOp) (e : SElem) (k : Nat) : Bool:=!(rd_Op l (k : Int)).f4.toList.isEmpty && decide (key3 (rd_Op l (k : Int)).f3 = key3 e)
def hungR (l : List SOp) (e : SElem) (i : Nat) : List SElem:=((List.range i).reverse.filter (hungC l e)).map (fun k : Nat => (⟨(rd_Op l (k : Int)).f0,(rd_Op l (k : Int)).f1,0⟩ : SElem))
def tailR (l : List SOp) (e : SElem) : List SElem:=if isBegin e then [] else if writtenN l ⟨e.f0,e.f1,wrap64 (e.f2 + 1)⟩ then [⟨e.f0,e.f1,wrap64 (e.f2 + 1)⟩] else []
theorem hungR_succ (l : List SOp) (e : SElem) (i : Nat) : hungR l e (i + 1) = (if hungC l e i = true then [⟨(rd_Op l (i : Int)).f0,(rd_Op l (i : Int)).f1,0⟩] else []) ++ hungR l e i:=by
 unfold hungR
 rw [List.range_succ,List.reverse_append,List.reverse_cons,List.reverse_nil,List.nil_append,List.singleton_append,List.filter_cons]
 cases hungC l e i <;> rfl
theorem eqK_iff (x : SElem) (a b c : Int) : (x.f0 == a && (x.f1 == b && (x.f2 == c))) = decide (key3 x = key3 ⟨a,b,c⟩):=by
 rw [eqE_iff,decide_eq_decide]
 exact ⟨fun h => by rw [h],fun h => key3_inj h⟩
theorem Under_loop (l : List SOp) (hl : SmL l) (hn : l.length ≤ 1000000) (e : SElem) : ∀ i (x : List SElem),i ≤ l.length → x.length + i ≤ 1000000 → Ev (fun k => r4_Under.l0 k l x ((i : Int) - 1) e.f0 e.f1 e.f2) (x ++ (hungR l e i ++ tailR l e))
 | 0,x,hi,hx => by
  have e0 : hungR l e 0 = []:=rfl
  rw [e0,List.nil_append]
  unfold tailR
  refine Ev.step (f:=fun k => (some (isBegin e)).bind fun t => if t = true then some x else (r4_written.f k l e.f0 e.f1 (wrap64 (e.f2 + 1))).bind fun t => if t = true then (if x.length < 5864062014805 then some (x ++ [(⟨e.f0,e.f1,wrap64 (e.f2 + 1)⟩ : SElem)]) else none) else some x) (fun k => ?_) ?_
  ·simp only [r4_Under.l0]
   rw [if_neg (by omega),ref4_Begin_f]
  ·simp only [Option.bind_some]
   cases isBegin e
   ·simp only [Bool.false_eq_true,if_false]
    refine Ev.bind (written_ev l hl.len (fun o ho => (hl.ops o ho).1) ⟨e.f0,e.f1,wrap64 (e.f2 + 1)⟩) ?_
    cases writtenN l ⟨e.f0,e.f1,wrap64 (e.f2 + 1)⟩
    ·simp only [Bool.false_eq_true,if_false,List.append_nil]; exact Ev.now _
    ·have hx' : x.length < 5864062014805:=by omega
     simp only [if_true,if_pos hx']; exact Ev.now _
   ·simp only [if_true,List.append_nil]; exact Ev.now _
 | i + 1,x,hi,hx => by
  have hlt : i < l.length:=by omega
  have hw : wrap64 ((((i + 1 : Nat) : Int) - 1) - 1) = (i : Int) - 1:=by rw [wrap64_small (by omega) (by omega)]; omega
  have hr : rd_Op l (((i + 1 : Nat) : Int) - 1) = rd_Op l (i : Int):=by rw [show ((i + 1 : Nat) : Int) - 1 = (i : Int) by omega]
  rw [hungR_succ]
  have hk:=eqK_iff (rd_Op l (i : Int)).f3 e.f0 e.f1 e.f2
  have he : (⟨e.f0,e.f1,e.f2⟩ : SElem) = e:=rfl
  rw [he] at hk
  by_cases hz : (rd_Op l (i : Int)).f4.toList = []
  ·have hc : hungC l e i = false:=by unfold hungC; rw [hz]; rfl
   rw [hc]
   simp only [Bool.false_eq_true,if_false,List.nil_append]
   refine Ev.step (fun k => ?_) (Under_loop l hl hn e i x (by omega) (by omega))
   simp only [r4_Under.l0]
   rw [if_pos (by omega),if_pos (by omega),if_pos (by omega),hr,hw,if_pos hz]
  ·have hz' : (rd_Op l (i : Int)).f4.toList.isEmpty = false:=by
    cases hq : (rd_Op l (i : Int)).f4.toList with
    | nil => exact absurd hq hz
    | cons => rfl
   have hc : hungC l e i = decide (key3 (rd_Op l (i : Int)).f3 = key3 e):=by unfold hungC; rw [hz']; rfl
   rw [hc]
   by_cases hq : key3 (rd_Op l (i : Int)).f3 = key3 e
   ·have ih:=Under_loop l hl hn e i (x ++ [⟨(rd_Op l (i : Int)).f0,(rd_Op l (i : Int)).f1,0⟩]) (by omega) (by simp; omega)
    rw [if_pos (decide_eq_true hq)]
    rw [List.append_assoc] at ih ⊢
    refine Ev.step (fun k => ?_) ih
    simp only [r4_Under.l0]
    rw [if_pos (by omega),if_pos (by omega),if_pos (by omega),hr,hw,if_neg hz,hk,if_pos (decide_eq_true hq),if_pos (by omega)]
   ·rw [if_neg (by simp [hq]),List.nil_append]
    refine Ev.step (fun k => ?_) (Under_loop l hl hn e i x (by omega) (by omega))
    simp only [r4_Under.l0]
    rw [if_pos (by omega),if_pos (by omega),if_pos (by omega),hr,hw,if_neg hz,hk,if_neg (by simp [hq])]
theorem under_eq {l : List SOp} (h : RowOk l) {e : SElem} (he : e = bgE ∨ e ∈ ordL l) : hungR l e l.length ++ tailR l e = chl l e:=by
 rw [chl_under h he]
 unfold underR hungR tailR
 congr 1
 rcases he with rfl | he
 ·rfl
 ·have hp:=ordL_pos h he
  obtain ⟨p,hp',e0,e1,h2,h3⟩:=(mem_ordL h e).1 he
  have hsz:=(opOk_size2 (h.oks p hp')).1
  rw [wrap64_small (by omega) (by omega)]
  have hb : isBegin (⟨e.f0,e.f1,e.f2 + 1⟩ : SElem) = false:=by
   unfold isBegin
   have : (e.f0 == 0) = false:=by simp; omega
   rw [this]; rfl
  have : writtenN l ⟨e.f0,e.f1,e.f2 + 1⟩ = writtenB l ⟨e.f0,e.f1,e.f2 + 1⟩:=by
   unfold writtenN writtenB
   rw [hb,Bool.false_or]
   rcases findOp_cases l e.f0 e.f1 with ⟨i,hi,_,_,_,ef⟩ | ⟨_,ef⟩
   ·simp only [ef,rd_Op_nat _ _ hi,opOk_text (h.oks _ (List.getElem_mem hi))]
   ·simp only [ef]; rfl
  rw [this]
theorem Under_ev {l : List SOp} (hl : SmL l) (h : RowOk l) {e : SElem} (he : e = bgE ∨ e ∈ ordL l) : Ev (fun k => r4_Under.f k l e.f0 e.f1 e.f2) (chl l e):=by
 have h40:=h.sums.1
 have:=Under_loop l hl (by omega) e l.length [] (Nat.le_refl _) (by simp; omega)
 rw [List.nil_append,under_eq h he] at this
 unfold r4_Under.f
 rw [wrap64_small (by omega) (by omega)]
 exact this
theorem Order_push (l : List SOp) (x u : List SElem) {r : List SElem} : ∀ i (t : List SElem),i ≤ u.length → t.length + i ≤ 1000000000 → Ev (fun k => r4_Order.l0 k l x (t ++ (u.take i).reverse)) r → Ev (fun k => r4_Order.l1 k l x t u ((i : Int) - 1)) r
 | 0,t,hi,ht,h => by
  rw [List.take_zero,List.reverse_nil,List.append_nil] at h
  refine Ev.step (fun k => ?_) h
  simp only [r4_Order.l1]
  rw [if_neg (by omega)]
 | i + 1,t,hi,ht,h => by
  have hlt : i < u.length:=by omega
  have hw : wrap64 ((((i + 1 : Nat) : Int) - 1) - 1) = (i : Int) - 1:=by rw [wrap64_small (by omega) (by omega)]; omega
  have hr : rd_Elem u (((i + 1 : Nat) : Int) - 1) = u[i]:=by rw [show ((i + 1 : Nat) : Int) - 1 = (i : Int) by omega,rd_Elem_nat _ _ hlt]
  have ih:=Order_push l x u (r:=r) i (t ++ [u[i]]) (by omega) (by simp; omega) (by
   rw [List.take_succ_eq_append_getElem hlt,List.reverse_append,List.reverse_singleton,List.singleton_append] at h
   rw [List.append_assoc,List.singleton_append]; exact h)
  refine Ev.step (fun k => ?_) ih
  simp only [r4_Order.l1]
  rw [if_pos (by omega),if_pos (by omega),if_pos (by omega),if_pos (by omega),hr,hw]
theorem Order_one {l : List SOp} (hl : SmL l) (h : RowOk l) {e : SElem} (he : e = bgE ∨ e ∈ ordL l) (x t : List SElem) {r : List SElem} (ht : t.length + (chl l e).length ≤ 1000000000) (hx : x.length ≤ 1000000000)
  (k : Ev (fun k => r4_Order.l0 k l (if isBegin e = true then x else x ++ [e]) (t ++ (chl l e).reverse)) r) : Ev (fun k => r4_Order.l0 k l x (t ++ [e])) r:=by
 have hlen : (t ++ [e]).length = t.length + 1:=by simp
 have hr : rd_Elem (t ++ [e]) (t.length : Int) = e:=by rw [rd_Elem_nat _ _ (by simp)]; simp
 have hj : ∀ y : List SElem,Ev (fun k => r4_Order.l0 k l y (t ++ (chl l e).reverse)) r → Ev (fun k => r4_Order.j1 k l y t e.f0 e.f1 e.f2) r:=by
  intro y hy
  refine Ev.step (f:=fun k => (r4_Under.f k l e.f0 e.f1 e.f2).bind fun t366 => r4_Order.l1 k l y t t366 (wrap64 ((t366.length : Int) - 1))) (fun k => by simp only [r4_Order.j1]) (Ev.bind (f:=fun k t366 => r4_Order.l1 k l y t t366 (wrap64 ((t366.length : Int) - 1))) (Under_ev hl h he) ?_)
  rw [wrap64_small (by omega) (by omega)]
  refine Order_push l y (chl l e) (chl l e).length t (Nat.le_refl _) ht ?_
  rw [List.take_length]; exact hy
 have h1 : wrap64 (((t ++ [e]).length : Int) - 1) = (t.length : Int):=by rw [hlen,wrap64_small (by omega) (by omega)]; omega
 have hT : (t ++ [e]).take ((t.length : Int)).toNat = t:=by rw [Int.toNat_natCast]; simp
 refine Ev.step (f:=fun k => if isBegin e = true then r4_Order.j1 k l x t e.f0 e.f1 e.f2 else r4_Order.j1 k l (x ++ [e]) t e.f0 e.f1 e.f2) (fun k => ?_) ?_
 ·simp only [r4_Order.l0]
  rw [h1,if_pos (by omega),if_pos (by omega),if_pos (by omega),if_pos (by omega),hT,Option.bind_some,hr,ref4_Begin_f,Option.bind_some,if_pos (show x.length < 5864062014805 by omega)]
 ·cases hb : isBegin e
  ·rw [hb] at k
   simp only [Bool.false_eq_true,if_false] at k ⊢
   exact hj _ k
  ·rw [hb] at k
   simp only [if_true] at k ⊢
   exact hj _ k
theorem walk_len {ch : SElem → List SElem} {xs L : List SElem} (h : WalkL ch xs L) : xs.length ≤ L.length:=by
 induction h with
 | nil => exact Nat.le_refl _
 | cons h1 h2 ih1 ih2 => simp only [List.length_cons,List.length_append]; omega
theorem Order_walk {l : List SOp} (hl : SmL l) (h : RowOk l) {r : List SElem} {xs L : List SElem} (hw : WalkL (chl l) xs L) : ∀ (x t : List SElem),(∀ e ∈ L,e ∈ ordL l) → x.length + L.length ≤ 1000000 → t.length + L.length ≤ 1000000 →
  Ev (fun k => r4_Order.l0 k l (x ++ L) t) r → Ev (fun k => r4_Order.l0 k l x (t ++ xs.reverse)) r:=by
 induction hw with
 | nil => intro x t _ _ _ k; simpa using k
 | cons h1 h2 ih1 ih2 =>
  rename_i e xs L1 L2
  intro x t hm hx ht k
  simp only [List.length_cons,List.length_append] at hx ht
  have w1:=walk_len h1
  have w2:=walk_len h2
  have he : e ∈ ordL l:=hm e List.mem_cons_self
  have hb : isBegin e = false:=by
   cases hb : isBegin e
   ·rfl
   ·have:=(isBegin_iff e).1 hb
    have hp:=ordL_pos h he
    rw [this] at hp; simp [bgE] at hp
  rw [List.reverse_cons,← List.append_assoc]
  refine Order_one hl h (.inr he) x (t ++ xs.reverse) (by simp; omega) (by omega) ?_
  rw [hb]
  simp only [Bool.false_eq_true,if_false]
  refine ih1 (x ++ [e]) (t ++ xs.reverse) (fun y hy => hm y (by simp [hy])) (by simp; omega) (by simp; omega) ?_
  refine ih2 (x ++ [e] ++ L1) t (fun y hy => hm y (by simp [hy])) (by simp; omega) (by omega) ?_
  have : x ++ [e] ++ L1 ++ L2 = x ++ e :: (L1 ++ L2):=by simp
  rw [this]; exact k
theorem Order_ev {l : List SOp} (hl : SmL l) (h : RowOk l) : Ev (fun k => r4_Order.f k l) (ordL l):=by
 have hlen : (ordL l).length ≤ 200:=by rw [(ordL_nodup h).2]; exact h.sums.2
 have hw:=ordL_walk h
 have w:=walk_len hw
 refine Order_one (e:=bgE) hl h (.inl rfl) [] [] (by simp; omega) (by simp) ?_
 have hb : isBegin bgE = true:=rfl
 rw [if_pos hb]
 refine Order_walk hl h hw [] [] (fun e he => he) (by simp; omega) (by simp; omega) ?_
 rw [List.nil_append]
 refine Ev.step (f:=fun _ => some (ordL l)) (fun k => ?_) (Ev.now _)
 simp only [r4_Order.l0]
 rw [if_neg (by simp)]
end Go.Proofs.YtonoaflfobajcaaDoor.L
end

section
namespace Go.Proofs.YtonoaflfobajcaaDoor.L
open Go.RowKit Go.Proofs.YtonoaflfobajcaaDoorW.PrintWords Go.Proofs.YtonoaflfobajcaaDoorW.PrintLast Go.Proofs.YtonoaflfobajcaaDoorW.PrintMore
set_option linter.unusedVariables false
set_option linter.unusedSimpArgs false
theorem doc_Seen_f {L : List SOp} (hs : smalls L = true) (h : RowOk L) : doc_Seen.f L = some (seenL L):=by unfold doc_Seen.f; exact if_pos ⟨hs,(mayB_iff L).2 h⟩
theorem doc_Plain_f {L : List SOp} (hs : smalls L = true) (h : RowOk L) : doc_Plain.f L = some (plainR L):=by unfold doc_Plain.f; exact if_pos ⟨hs,(mayB_iff L).2 h⟩
theorem doc_Text_ok {L : List SOp} (hs : smalls L = true) (h : RowOk L) : doc_Text.f L = some (plainR L,0):=by
 unfold doc_Text.f
 rw [tree_May_f hs,(mayB_iff L).2 h,Option.bind_some,if_pos rfl,doc_Plain_f hs h]; rfl
theorem runesBytes_from (ns : List Int) : ∀ s : ByteArray,ns.foldl (fun r n => r ++ Utf8.encode n) s = s ++ runesBytes ns:=by
 induction ns with
 | nil => intro s; show s = s ++ ByteArray.empty; exact ByteArray.append_empty.symm
 | cons n ns ih =>
  intro s
  unfold runesBytes
  rw [List.foldl_cons,List.foldl_cons,ih,ih,ByteArray.empty_append,ByteArray.append_assoc]
theorem runesBytes_app (a b : List Int) : runesBytes (a ++ b) = runesBytes a ++ runesBytes b:=by
 rw [← runesBytes_from b (runesBytes a)]; unfold runesBytes; rw [List.foldl_append]
theorem runesBytes_one (r : Int) : runesBytes [r] = Utf8.encode r:=by
 unfold runesBytes; rw [List.foldl_cons,List.foldl_nil,ByteArray.empty_append]
theorem seen_len {L : List SOp} (h : RowOk L) : (seenL L).length ≤ 200:=Nat.le_trans (List.length_filter_le _ _) (by rw [(ordL_nodup h).2]; exact h.sums.2)
end Go.Proofs.YtonoaflfobajcaaDoor.L
end

section
namespace Go.Proofs.YtonoaflfobajcaaDoor.L
open Go.RowKit Go.Proofs.YtonoaflfobajcaaDoorW.PrintWords Go.Proofs.YtonoaflfobajcaaDoorW.PrintLast Go.Proofs.YtonoaflfobajcaaDoorW.PrintMore
set_option linter.unusedVariables false
set_option linter.unusedSimpArgs false
theorem CopyElems_loop (l : List SElem) (hl : l.length ≤ 1000000000000) : ∀ d i,i + d = l.length → Ev (fun k => r0_CopyElems.l0 k l (l.take i) (i : Int)) l
 | 0,i,h => by
  rw [List.take_of_length_le (by omega)]
  refine Ev.step (f:=fun _ => some l) (fun k => ?_) (Ev.now _)
  simp only [r0_CopyElems.l0]
  rw [if_neg (by omega)]
 | d + 1,i,h => by
  have hlt : i < l.length:=by omega
  have ih:=CopyElems_loop l hl d (i + 1) (by omega)
  rw [List.take_succ_eq_append_getElem hlt] at ih
  refine Ev.step (fun k => ?_) ih
  simp only [r0_CopyElems.l0]
  rw [if_pos (by omega),if_pos (by omega),rd_Elem_nat _ _ hlt,if_pos (by rw [List.length_take]; omega),wrapS hlt (by omega)]
theorem CopyElems_ev (l : List SElem) (hl : l.length ≤ 1000000000000) : Ev (fun k => r0_CopyElems.f k l) l:=CopyElems_loop l hl l.length 0 (Nat.zero_add _)
theorem CopyOp_ev (o : SOp) (hl : o.f5.length ≤ 1000000000000) : Ev (fun k => r0_CopyOp.f k o.f0 o.f1 o.f2 o.f3.f0 o.f3.f1 o.f3.f2 o.f4 o.f5 o.f6 o.f7 o.f8) (o.f0,o.f1,o.f2,o.f3.f0,o.f3.f1,o.f3.f2,o.f4,o.f5,o.f6,o.f7,o.f8) :=
 Ev.bind (f:=fun _ t => some (o.f0,o.f1,o.f2,o.f3.f0,o.f3.f1,o.f3.f2,o.f4,t,o.f6,o.f7,o.f8)) (CopyElems_ev o.f5 hl) (Ev.now _)
theorem CopyOps_loop (l : List SOp) (hl : l.length ≤ 1000000) (hs : ∀ o ∈ l,o.f5.length ≤ 1000000000000) : ∀ d i,i + d = l.length → Ev (fun k => r0_CopyOps.l0 k l (l.take i) (i : Int)) l
 | 0,i,h => by
  rw [List.take_of_length_le (by omega)]
  refine Ev.step (f:=fun _ => some l) (fun k => ?_) (Ev.now _)
  simp only [r0_CopyOps.l0]
  rw [if_neg (by omega)]
 | d + 1,i,h => by
  have hlt : i < l.length:=by omega
  have ih:=CopyOps_loop l hl hs d (i + 1) (by omega)
  rw [List.take_succ_eq_append_getElem hlt] at ih
  have hlen : (l.take i).length < 1256584717458:=by rw [List.length_take]; omega
  refine Ev.step (fun k => by simp only [r0_CopyOps.l0]; rw [if_pos (by omega),if_pos (by omega),rd_Op_nat _ _ hlt,wrapS hlt (by omega)]) (Ev.bind (CopyOp_ev l[i] (hs _ (List.getElem_mem hlt))) ?_)
  simp only [if_pos hlen]
  exact ih
theorem CopyOps_ev (l : List SOp) (hl : l.length ≤ 1000000) (hs : ∀ o ∈ l,o.f5.length ≤ 1000000000000) : Ev (fun k => r0_CopyOps.f k l) l:=CopyOps_loop l hl hs l.length 0 (Nat.zero_add _)
end Go.Proofs.YtonoaflfobajcaaDoor.L
end

section
namespace Go.Proofs.YtonoaflfobajcaaDoor.L
open Go.RowKit Go.Proofs.YtonoaflfobajcaaDoorW.PrintWords Go.Proofs.YtonoaflfobajcaaDoorW.PrintLast Go.Proofs.YtonoaflfobajcaaDoorW.PrintMore
set_option linter.unusedVariables false
set_option linter.unusedSimpArgs false
theorem Behind_ev (l : List SOp) (hl : l.length ≤ 1000000) (hs : ∀ o ∈ l,o.f5.length ≤ 1000000000000) (o : SOp) (ho : o.f5.length ≤ 1000000000000) : Ev (fun k => r4_Behind.f k l o.f0 o.f1 o.f2 o.f3.f0 o.f3.f1 o.f3.f2 o.f4 o.f5 o.f6 o.f7 o.f8) (l ++ [o]):=by
 have hlen : l.length < 1256584717458:=by omega
 refine Ev.bind (CopyOps_ev l hl hs) (Ev.bind (CopyOp_ev o ho) ?_)
 simp only [if_pos hlen]
 exact Ev.now _
theorem cnt_loop (l : List SOp) (hl : l.length ≤ 1000000) (s q : Int) : ∀ d i,i + d = l.length → ∀ n : Int,0 ≤ n → n ≤ (i : Int) → Ev (fun k => r4_Count.l0 k l s q n (i : Int)) ((l.drop i).foldl (cntStep s q) n)
  | 0,i,h,n,h0,h1 => by
    rw [List.drop_eq_nil_of_le (by omega)]
    refine Ev.step (f:=fun _ => some n) (fun k => ?_) (Ev.now _)
    simp only [r4_Count.l0]
    rw [if_neg (by omega)]
  | d + 1,i,h,n,h0,h1 => by
    have hlt : i < l.length:=by omega
    have ih0:=cnt_loop l hl s q d (i + 1) (by omega) n h0 (by omega)
    have ih1:=cnt_loop l hl s q d (i + 1) (by omega) (n + 1) (by omega) (by omega)
    have hw : wrap64 (n + 1) = n + 1:=wrap64_small (by omega) (by omega)
    rw [List.drop_eq_getElem_cons hlt,List.foldl_cons]
    unfold cntStep
    unfold cntStep at ih0 ih1
    by_cases h2 : l[i].f2 = 2 <;> by_cases h6 : l[i].f6 = s <;> by_cases h7 : l[i].f7 = q <;> by_cases h8 : l[i].f8 = n <;>
      first
      | (rw [if_pos ⟨h2,h6,h7,h8⟩]
         refine Ev.step (fun k => ?_) ih1
         simp only [r4_Count.l0]
         rw [if_pos (by omega),if_pos (by omega),rd_Op_nat _ _ hlt,wrapS hlt (by omega),if_pos h2,if_pos h6,if_pos h7,if_pos h8,hw])
      | (rw [if_neg (by simp [h2,h6,h7,h8])]
         refine Ev.step (fun k => ?_) ih0
         simp only [r4_Count.l0]
         rw [if_pos (by omega),if_pos (by omega),rd_Op_nat _ _ hlt,wrapS hlt (by omega)]
         simp only [h2,h6,h7,h8,if_true,if_false])
theorem CountR_ev (l : List SOp) (hl : l.length ≤ 1000000) (s q : Int) : Ev (fun k => r4_Count.f k l s q) (cntR l s q):=cnt_loop l hl s q l.length 0 (Nat.zero_add _) 0 (Int.le_refl _) (Int.le_refl _)
theorem cntR_pos (s q : Int) : ∀ (l : List SOp) (n : Int),0 ≤ n → 0 ≤ l.foldl (cntStep s q) n
 | [],n,h => h
 | o :: l,n,h => by
  rw [List.foldl_cons]
  refine cntR_pos s q l _ ?_
  unfold cntStep; split <;> omega
theorem EffectiveR_ev (l : List SOp) (hl : l.length ≤ 1000000) (s q : Int) : Ev (fun k => r4_Effective.f k l s q) (cntR l s q % 2 == 0):=by
 refine Ev.bind (f:=fun _ t => some ((Int.tmod t 2) == 0)) (CountR_ev l hl s q) ?_
 have hc : 0 ≤ cntR l s q:=cntR_pos s q l 0 (Int.le_refl _)
 rw [Int.tmod_eq_emod_of_nonneg hc]
 exact Ev.now _
theorem rd_works (l : List SOp) {i : Nat} (hi : i < l.length) : rdOf false (l.map (workE l)) (i : Int) = workE l l[i]:=by
 unfold rdOf
 rw [Int.toNat_natCast,List.getD_eq_getElem?_getD,List.getElem?_map,List.getElem?_eq_getElem hi]; rfl
def stays (l : List SOp) (e : SElem) (o : SOp) : Bool:=!workE l o || !decide (e ∈ o.f5)
theorem Vis_l2 {l : List SOp} (h : RowOk l) (acc all : List SElem) {i : Nat} (hi : i < all.length) (ha : all.length ≤ 1000000) (hacc : acc.length ≤ 1000000) {r : List SElem} : ∀ d j (b : Bool),j + d = l.length →
  Ev (fun k => r4_Visible.l1 k l (l.map (workE l)) (if (b && (l.drop j).all (stays l all[i])) = true then acc ++ [all[i]] else acc) all ((i + 1 : Nat) : Int)) r →
  Ev (fun k => r4_Visible.l2 k l (l.map (workE l)) acc all (i : Int) b (j : Int)) r
 | 0,j,b,hj,hn => by
  rw [List.drop_eq_nil_of_le (by omega),List.all_nil,Bool.and_true] at hn
  refine Ev.step (fun k => ?_) hn
  simp only [r4_Visible.l2]
  rw [if_neg (by omega)]
  cases b
  ·rw [if_neg (by decide),if_neg (by decide),wrapS hi (by omega)]
  ·rw [if_pos rfl,if_pos (by omega),if_pos (by omega),if_pos (by omega),rd_Elem_nat _ _ hi,if_pos rfl,wrapS hi (by omega)]
 | d + 1,j,b,hj,hn => by
  have hlt : j < l.length:=by omega
  have h40:=h.sums.1
  rw [List.drop_eq_getElem_cons hlt,List.all_cons] at hn
  cases b
  ·simp only [Bool.false_and] at hn
   refine Ev.step (fun k => ?_) hn
   simp only [r4_Visible.l2]
   rw [if_pos (by omega),if_neg (by decide),if_neg (by decide),wrapS hi (by omega)]
  ·simp only [Bool.true_and] at hn
   have hlen : ((l.map (workE l)).length : Int) = l.length:=by rw [List.length_map]
   cases hw : workE l l[j]
   ·have ih:=Vis_l2 h acc all hi ha hacc (r:=r) d (j + 1) true (by omega) (by
     have : stays l all[i] l[j] = true:=by unfold stays; rw [hw]; rfl
     rw [this,Bool.true_and] at hn
     rw [Bool.true_and]; exact hn)
    refine Ev.step (fun k => ?_) ih
    simp only [r4_Visible.l2]
    rw [if_pos (by omega),if_pos True.intro,if_pos (by omega),if_pos (by omega),rd_works l hlt,hw,if_neg (by decide),wrapS hlt (by omega)]
   ·have hg:=opOk_gone200 (h.oks _ (List.getElem_mem hlt))
    have hA:=At_ev l[j].f5 (by omega) all[i]
    have hs : stays l all[i] l[j] = decide (idxE l[j].f5 all[i] < 0):=by
     unfold stays
     rw [hw,Bool.not_true,Bool.false_or]
     by_cases hm : all[i] ∈ l[j].f5
     ·have:=(idxE_nonneg l[j].f5 all[i]).2 hm
      rw [decide_eq_true hm,decide_eq_false (by omega)]; rfl
     ·have : ¬ 0 ≤ idxE l[j].f5 all[i]:=fun hh => hm ((idxE_nonneg _ _).1 hh)
      rw [decide_eq_false hm,decide_eq_true (by omega)]; rfl
    rw [hs] at hn
    have ih:=Vis_l2 h acc all hi ha hacc (r:=r) d (j + 1) (decide (idxE l[j].f5 all[i] < 0)) (by omega) hn
    refine Ev.step (fun k => ?_) (Ev.bind (f:=fun k t => r4_Visible.l2 k l (l.map (workE l)) acc all (i : Int) (decide (t < 0)) ((j + 1 : Nat) : Int)) hA ih)
    simp only [r4_Visible.l2]
    rw [if_pos (by omega),if_pos True.intro,if_pos (by omega),if_pos (by omega),rd_works l hlt,hw,if_pos rfl,if_pos (by omega),if_pos (by omega),rd_Elem_nat _ _ hi,rd_Op_nat _ _ hlt,wrapS hlt (by omega)]
theorem Vis_l1 {l : List SOp} (hl : SmL l) (h : RowOk l) (all : List SElem) (ha : all.length ≤ 200) (hm : ∀ e ∈ all,e ∈ ordL l) : ∀ d i (acc : List SElem),i + d = all.length → acc.length ≤ i →
  Ev (fun k => r4_Visible.l1 k l (l.map (workE l)) acc all (i : Int)) (acc ++ (all.drop i).filter fun e => workE l (rd_Op l (findOp l e.f0 e.f1)) && l.all (stays l e))
 | 0,i,acc,hi,_ => by
  rw [List.drop_eq_nil_of_le (by omega),List.filter_nil,List.append_nil]
  refine Ev.step (f:=fun _ => some acc) (fun k => ?_) (Ev.now _)
  simp only [r4_Visible.l1]
  rw [if_neg (by omega)]
 | d + 1,i,acc,hi,hacc => by
  have hlt : i < all.length:=by omega
  have h40:=h.sums.1
  obtain ⟨q,hq,ef,_,_⟩:=elem_op h (hm _ (List.getElem_mem hlt))
  rw [List.drop_eq_getElem_cons hlt,List.filter_cons,ef,rd_Op_nat _ _ hq]
  have ih:=fun a (h' : a.length ≤ i + 1) => Vis_l1 hl h all ha hm d (i + 1) a (by omega) h'
  have h2:=Vis_l2 h acc all hlt (by omega) (by omega) (r:=acc ++ (if (workE l l[q] && l.all (stays l all[i])) = true then all[i] :: (all.drop (i + 1)).filter (fun e => workE l (rd_Op l (findOp l e.f0 e.f1)) && l.all (stays l e)) else (all.drop (i + 1)).filter (fun e => workE l (rd_Op l (findOp l e.f0 e.f1)) && l.all (stays l e)))) l.length 0 (workE l l[q]) (Nat.zero_add _) (by
   rw [List.drop_zero]
   by_cases hc : (workE l l[q] && l.all (stays l all[i])) = true
   ·rw [if_pos hc,if_pos hc]
    have:=ih (acc ++ [all[i]]) (by simp; omega)
    rw [List.append_assoc] at this
    exact this
   ·rw [if_neg hc,if_neg hc]
    exact ih acc (by omega))
  have hlen : ((l.map (workE l)).length : Int) = l.length:=by rw [List.length_map]
  refine Ev.step (fun k => ?_) (Ev.bind (f:=fun k t => if 0 ≤ t then (if t < ((l.map (workE l)).length : Int) then r4_Visible.l2 k l (l.map (workE l)) acc all (i : Int) (rdOf false (l.map (workE l)) t) 0 else none) else none) (Find_ev l hl.len all[i].f0 all[i].f1) ?_)
  ·simp only [r4_Visible.l1]
   rw [if_pos (by omega),if_pos (by omega),rd_Elem_nat _ _ hlt]
  ·rw [ef,rd_works l hq]
   refine Ev.congr (fun k => ?_) h2
   rw [if_pos (by omega),if_pos (by omega)]
   rfl
theorem Vis_l0 {l : List SOp} (hl : SmL l) (h : RowOk l) : ∀ d i,i + d = l.length → Ev (fun k => r4_Visible.l0 k l ((l.take i).map (workE l) ++ List.replicate (l.length - i) false) (i : Int)) (visR l)
 | 0,i,hi => by
  rw [List.take_of_length_le (by omega),show l.length - i = 0 by omega]
  simp only [List.replicate_zero,List.append_nil]
  have hlen : (ordL l).length ≤ 200:=by rw [(ordL_nodup h).2]; exact h.sums.2
  refine Ev.step (fun k => ?_) (Ev.bind (f:=fun k t => r4_Visible.l1 k l (l.map (workE l)) ([] : List SElem) t 0) (Order_ev hl h) (Vis_l1 hl h (ordL l) hlen (fun e he => he) _ 0 [] (Nat.zero_add _) (Nat.le_refl _)))
  simp only [r4_Visible.l0]
  rw [if_neg (by omega)]
 | d + 1,i,hi => by
  have hlt : i < l.length:=by omega
  have h40:=h.sums.1
  have ih:=Vis_l0 hl h d (i + 1) (by omega)
  have hset : ∀ b,b = workE l l[i] → ((l.take i).map (workE l) ++ List.replicate (l.length - i) false).set i b = (l.take (i + 1)).map (workE l) ++ List.replicate (l.length - (i + 1)) false:=by
   intro b hb
   have hl : ((l.take i).map (workE l)).length = i:=by rw [List.length_map,List.length_take]; omega
   rw [List.set_append,if_neg (by omega),hl,Nat.sub_self,show l.length - i = (l.length - (i + 1)) + 1 by omega,List.replicate_succ,List.set_cons_zero,List.take_succ_eq_append_getElem hlt,List.map_append,hb]
   simp
  have hlen : (((l.take i).map (workE l) ++ List.replicate (l.length - i) false).length : Int) = l.length:=by
   rw [List.length_append,List.length_map,List.length_take,List.length_replicate]; omega
  by_cases h1 : l[i].f2 = 1
  ·have hE:=EffectiveR_ev l (by omega) l[i].f0 l[i].f1
   have hw : (cntR l l[i].f0 l[i].f1 % 2 == 0) = workE l l[i]:=by unfold workE; rw [h1]; rfl
   rw [hw] at hE
   refine Ev.step (fun k => ?_) (Ev.bind (f:=fun k t => if (i : Int) < (((l.take i).map (workE l) ++ List.replicate (l.length - i) false).length : Int) then r4_Visible.l0 k l (((l.take i).map (workE l) ++ List.replicate (l.length - i) false).set i t) ((i + 1 : Nat) : Int) else none) hE (Ev.congr (fun k => ?_) ih))
   ·simp only [r4_Visible.l0]
    rw [if_pos (by omega),if_pos (by omega),rd_Op_nat _ _ hlt,if_pos h1,wrapS hlt (by omega),Int.toNat_natCast]
   ·rw [if_pos (by rw [hlen]; omega),hset _ rfl]
  ·refine Ev.step (fun k => ?_) ih
   simp only [r4_Visible.l0]
   rw [if_pos (by omega),if_pos (by omega),rd_Op_nat _ _ hlt,if_neg h1,if_pos (by rw [hlen]; omega),wrapS hlt (by omega),Int.toNat_natCast,hset _ (by unfold workE; simp [h1])]
theorem Visible_ev {l : List SOp} (hl : SmL l) (h : RowOk l) : Ev (fun k => r4_Visible.f k l) (seenL l):=by
 have h40:=h.sums.1
 rw [seen_vis h]
 have:=Vis_l0 hl h l.length 0 (Nat.zero_add _)
 refine Ev.congr (fun k => ?_) this
 unfold r4_Visible.f
 rw [if_pos (by omega),if_pos (by omega),Int.toNat_natCast]
 simp
theorem RuneR_ev {l : List SOp} (hl : SmL l) (h : RowOk l) {e : SElem} (he : e ∈ ordL l) : Ev (fun k => r4_Rune.f k l e.f0 e.f1 e.f2) (atR l e):=by
 obtain ⟨p,hp,e0,e1,h2,h3⟩:=(mem_ordL h e).1 he
 obtain ⟨i,hi,ef,ei⟩:=findOp_mem h hp
 rw [e0,e1] at ef
 have hok:=h.oks p hp
 have hR:=Runes_ev p.f4 (hl.ops p hp).1
 have ht : textOk p.f4 = true:=by
  cases ht : textOk p.f4
  ·exfalso
   have hs:=opOk_text hok
   unfold runesN at hs
   rw [ht] at hs
   simp at hs
   omega
  ·rfl
 rw [ht,if_pos rfl] at hR
 have hlen : ((runesOf p.f4).length : Int) = (sizeOf' p : Int):=rfl
 obtain ⟨j,hj⟩ : ∃ j : Nat,e.f2 = (j : Int):=⟨e.f2.toNat,by omega⟩
 refine Ev.bind (f:=fun k t => if 0 ≤ t then (if t < (l.length : Int) then ((r1_Runes.f k ((rd_Op l t).f4)).bind fun bt => (if 0 ≤ e.f2 then (if e.f2 < (bt.1.length : Int) then (some (rd bt.1 e.f2)) else (none)) else (none))) else (none)) else (none)) (Find_ev l hl.len e.f0 e.f1) ?_
 rw [ef,rd_Op_nat _ _ hi,ei]
 refine Ev.congr (f:=fun k => (r1_Runes.f k p.f4).bind fun bt => (if 0 ≤ e.f2 then (if e.f2 < (bt.1.length : Int) then (some (rd bt.1 e.f2)) else (none)) else (none))) (fun k => by rw [if_pos (by omega),if_pos (by omega)]) (Ev.bind (f:=fun _ bt => (if 0 ≤ e.f2 then (if e.f2 < (bt.1.length : Int) then (some (rd bt.1 e.f2)) else (none)) else (none))) hR ?_)
 refine Ev.congr (fun k => ?_) (Ev.now _)
 rw [if_pos h2,if_pos (by rw [hlen]; exact h3)]
 unfold atR rd
 rw [ef,rd_Op_nat _ _ hi,ei]
theorem Make_loop (l : List Int) (hl : l.length ≤ 1000000) : ∀ d i,i + d = l.length → Ev (fun k => r1_Make.l0 k l (runesBytes (l.take i)) (i : Int)) (runesBytes l)
 | 0,i,h => by
  rw [List.take_of_length_le (by omega)]
  refine Ev.step (f:=fun _ => some (runesBytes l)) (fun k => ?_) (Ev.now _)
  simp only [r1_Make.l0]
  rw [if_neg (by omega)]
 | d + 1,i,h => by
  have hlt : i < l.length:=by omega
  have ih:=Make_loop l hl d (i + 1) (by omega)
  rw [List.take_succ_eq_append_getElem hlt,runesBytes_app,runesBytes_one] at ih
  have hr : rd l (i : Int) = l[i]:=by unfold rd; rw [Int.toNat_natCast]; simp [List.getD_eq_getElem?_getD,hlt]
  have hsz : (runesBytes (l.take i)).size + (Utf8.encode l[i]).size ≤ 9223372036854775807:=by
   have h1:=runesBytes_size_le (l.take i)
   have h2:=encode_size_le l[i]
   rw [List.length_take] at h1
   omega
  refine Ev.step (fun k => ?_) ih
  simp only [r1_Make.l0]
  rw [if_pos (by omega),if_pos (by omega),hr,if_pos hsz,wrapS hlt (by omega)]
theorem Make_ev (l : List Int) (hl : l.length ≤ 1000000) : Ev (fun k => r1_Make.f k l) (runesBytes l):=Make_loop l hl l.length 0 (Nat.zero_add _)
theorem TextR_loop {l : List SOp} (hl : SmL l) (h : RowOk l) : ∀ d i,i + d = (seenL l).length → Ev (fun k => r4_Text.l0 k l (seenL l) (((seenL l).take i).map (atR l)) (i : Int)) (plainR l)
 | 0,i,hi => by
  rw [List.take_of_length_le (by omega)]
  have hM:=Make_ev ((seenL l).map (atR l)) (by rw [List.length_map]; have:=seen_len h; omega)
  refine Ev.step (fun k => ?_) (Ev.bind (f:=fun _ t => some t) hM (Ev.now _))
  simp only [r4_Text.l0]
  rw [if_neg (by omega)]
 | d + 1,i,hi => by
  have hlt : i < (seenL l).length:=by omega
  have h200:=seen_len h
  have ih:=TextR_loop hl h d (i + 1) (by omega)
  rw [List.take_succ_eq_append_getElem hlt,List.map_append] at ih
  have hR:=RuneR_ev hl h (seen_mem.1 (List.getElem_mem hlt)).1
  have hlen : (((seenL l).take i).map (atR l)).length < 35184372088832:=by rw [List.length_map,List.length_take]; omega
  refine Ev.step (fun k => ?_) (Ev.bind (f:=fun k t => if (((seenL l).take i).map (atR l)).length < 35184372088832 then r4_Text.l0 k l (seenL l) ((((seenL l).take i).map (atR l)) ++ [t]) ((i + 1 : Nat) : Int) else none) hR (Ev.congr (fun k => if_pos hlen) ih))
  simp only [r4_Text.l0]
  rw [if_pos (by omega),if_pos (by omega),rd_Elem_nat _ _ hlt,wrapS hlt (by omega)]
theorem TextR_ev {l : List SOp} (hl : SmL l) (h : RowOk l) : Ev (fun k => r4_Text.f k l) (plainR l) :=
 Ev.bind (f:=fun k t => r4_Text.l0 k l t ([] : List Int) 0) (Visible_ev hl h) (TextR_loop hl h _ 0 (Nat.zero_add _))
end Go.Proofs.YtonoaflfobajcaaDoor.L
end

section
namespace Go.Proofs.YtonoaflfobajcaaDoor.L
open Go.RowKit Go.Proofs.YtonoaflfobajcaaDoorW.PrintWords Go.Proofs.YtonoaflfobajcaaDoorW.PrintLast Go.Proofs.YtonoaflfobajcaaDoorW.PrintMore
set_option linter.unusedVariables false
set_option linter.unusedSimpArgs false
def tiny (o : SOp) : Prop:=o.f4.size ≤ 4000 ∧ o.f5.length ≤ 1000
def Tiny (l : List SOp) : Prop:=∀ o ∈ l,tiny o
theorem OpsWeight_small (l : List SOp) (hl : l.length ≤ 140737488351232) (hs : ∀ o ∈ l,o.f4.size ≤ 140737488351232 ∧ o.f5.length ≤ 140737488351232) : ∀ d i (t : Int),i + d = l.length → 0 ≤ t → t ≤ 200000000000000 →
  ∃ r,Ev (fun k => w0_OpsWeight.l0 k l t (i : Int)) r ∧ t ≤ r ∧ r ≤ 400000000000000 ∧ (r ≤ 900 → ∀ j (hj : j < l.length),i ≤ j → tiny l[j])
 | 0,i,t,h,h0,h1 => ⟨t,Ev.step (f:=fun _ => some t) (fun k => by simp only [w0_OpsWeight.l0]; rw [if_neg (by omega)]) (Ev.now _),Int.le_refl _,by omega,fun _ j hj hij => by omega⟩
 | d + 1,i,t,h,h0,h1 => by
  by_cases ht : t < 1048576
  ·have hlt : i < l.length:=by omega
   have hb:=hs _ (List.getElem_mem hlt)
   have hw : wrap64 (t + (wrap64 ((wrap64 (2 + (wrap64 ((l[i].f4.size : Int) / 4)))) + (l[i].f5.length : Int)))) = t + (2 + (l[i].f4.size : Int) / 4 + (l[i].f5.length : Int)):=by
    rw [wrap64_small (i:=(l[i].f4.size : Int) / 4) (by omega) (by omega),wrap64_small (i:=2 + (l[i].f4.size : Int) / 4) (by omega) (by omega),wrap64_small (i:=2 + (l[i].f4.size : Int) / 4 + (l[i].f5.length : Int)) (by omega) (by omega),wrap64_small (by omega) (by omega)]
   obtain ⟨r,hr,r1,r2,r3⟩:=OpsWeight_small l hl hs d (i + 1) (t + (2 + (l[i].f4.size : Int) / 4 + (l[i].f5.length : Int))) (by omega) (by omega) (by omega)
   rw [← hw] at hr
   refine ⟨r,Ev.step (fun k => ?_) hr,by omega,r2,fun h9 j hj hij => ?_⟩
   ·simp only [w0_OpsWeight.l0]
    rw [if_pos (by omega),if_pos ht,if_pos (by omega),wrapS hlt (by omega),rd_Op_nat _ _ hlt]
    rfl
   ·rcases Nat.lt_or_ge i j with hj2 | hj2
    ·exact r3 h9 j hj hj2
    ·obtain rfl : j = i:=by omega
     exact ⟨by omega,by omega⟩
  ·exact ⟨t,Ev.step (f:=fun _ => some t) (fun k => by simp only [w0_OpsWeight.l0]; rw [if_pos (by omega),if_neg ht]) (Ev.now _),Int.le_refl _,by omega,fun h9 => by omega⟩
theorem rd_LOp_nat (l : List (List SOp)) (i : Nat) (h : i < l.length) : rd_LOp l (i : Int) = l[i]:=by unfold rd_LOp; simp [h]
theorem Heavy_lp {l0 : List (List SOp)} {l1 : List SElem} {l2 : List SOp} {l3 : List Int} (hg : GoodAsk l0 l1 l2 l3) : ∀ d i (t : Int),i + d = l0.length → 0 ≤ t → t ≤ 900000000000000 →
  ∃ b,Ev (fun k => w5_Heavy.l0 k t (i : Int) l0 l1 l2 l3) b ∧ (b = false → t ≤ 900 ∧ ∀ j (hj : j < l0.length),i ≤ j → l0[j].length ≤ 900 ∧ Tiny l0[j])
 | 0,i,t,h,h0,h1 => ⟨_,Ev.step (f:=fun _ => some (decide (t > 900))) (fun k => by simp only [w5_Heavy.l0]; rw [if_neg (by omega)]) (Ev.now _),fun hb => ⟨by have:=of_decide_eq_false hb; omega,fun j hj hij => by omega⟩⟩
 | d + 1,i,t,h,h0,h1 => by
  by_cases ht : t < 1048576
  ·have hlt : i < l0.length:=by omega
   have hn:=hg.n0
   have hm:=hg.r0 _ (List.getElem_mem hlt)
   obtain ⟨q,hq,q1,q2,q3⟩:=OpsWeight_small l0[i] hm.1 hm.2 _ 0 (l0[i].length : Int) (Nat.zero_add _) (by omega) (by omega)
   obtain ⟨b,hr,r1⟩:=Heavy_lp hg d (i + 1) (t + q) (by omega) (by omega) (by omega)
   have hw : wrap64 (t + q) = t + q:=wrap64_small (by omega) (by omega)
   refine ⟨b,Ev.step (fun k => ?_) (Ev.bind (f:=fun k q => w5_Heavy.l0 k (wrap64 (t + q)) ((i + 1 : Nat) : Int) l0 l1 l2 l3) hq (by rw [hw]; exact hr)),fun hb => ?_⟩
   ·simp only [w5_Heavy.l0]
    rw [if_pos (by omega),if_pos ht,if_pos (by omega),wrapS hlt (by omega),rd_LOp_nat _ _ hlt]
    rfl
   ·obtain ⟨k1,k2⟩:=r1 hb
    refine ⟨by omega,fun j hj hij => ?_⟩
    rcases Nat.lt_or_ge i j with hj2 | hj2
    ·exact k2 j hj hj2
    ·obtain rfl : j = i:=by omega
     refine ⟨by omega,fun o ho => ?_⟩
     obtain ⟨z,hz,rfl⟩:=List.getElem_of_mem ho
     exact q3 (by omega) z hz (Nat.zero_le _)
  ·exact ⟨_,Ev.step (f:=fun _ => some (decide (t > 900))) (fun k => by simp only [w5_Heavy.l0]; rw [if_pos (by omega),if_neg ht]) (Ev.now _),fun hb => by have:=of_decide_eq_false hb; omega⟩
theorem Heavy_small {l0 : List (List SOp)} {l1 : List SElem} {l2 : List SOp} {l3 : List Int} (hg : GoodAsk l0 l1 l2 l3) : ∃ b,Ev (fun k => w5_Heavy.f k l0 l1 l2 l3) b ∧ (b = false → ∀ x ∈ l0,x.length ≤ 900 ∧ Tiny x):=by
 have n1:=hg.n1
 have n2:=hg.n2
 have n3:=hg.n3
 obtain ⟨q,hq,q1,q2,_⟩:=OpsWeight_small l2 hg.n2 hg.r2 _ 0 (l2.length : Int) (Nat.zero_add _) (by omega) (by omega)
 have hw : wrap64 ((wrap64 ((l1.length : Int) + (l3.length : Int))) + q) = (l1.length : Int) + (l3.length : Int) + q:=by
  rw [wrap64_small (i:=(l1.length : Int) + (l3.length : Int)) (by omega) (by omega),wrap64_small (by omega) (by omega)]
 obtain ⟨b,hb,hr⟩:=Heavy_lp hg _ 0 ((l1.length : Int) + (l3.length : Int) + q) (Nat.zero_add _) (by omega) (by omega)
 refine ⟨b,Ev.bind (f:=fun k q => w5_Heavy.l0 k (wrap64 ((wrap64 ((l1.length : Int) + (l3.length : Int))) + q)) 0 l0 l1 l2 l3) hq (by rw [hw]; exact hb),fun h => ?_⟩
 obtain ⟨_,h2⟩:=hr h
 intro x hx
 obtain ⟨j,hj,rfl⟩:=List.getElem_of_mem hx
 exact h2 j hj (Nat.zero_le _)
end Go.Proofs.YtonoaflfobajcaaDoor.L
end

section
namespace Go.Proofs.YtonoaflfobajcaaDoor.L
open Go.RowKit Go.Proofs.YtonoaflfobajcaaDoorW.PrintWords Go.Proofs.YtonoaflfobajcaaDoorW.PrintLast Go.Proofs.YtonoaflfobajcaaDoorW.PrintMore
set_option linter.unusedVariables false
set_option linter.unusedSimpArgs false
theorem EqElems_loop (a b : List SElem) (hab : a.length = b.length) (hl : a.length ≤ 1000000000) : ∀ d i,i + d = a.length → Ev (fun k => r0_EqElems.l0 k a b (i : Int)) (decide (a.drop i = b.drop i))
 | 0,i,h => by
  rw [List.drop_eq_nil_of_le (by omega),List.drop_eq_nil_of_le (by omega)]
  exact Ev.step (f:=fun _ => some true) (fun k => by simp only [r0_EqElems.l0]; rw [if_neg (by omega)]) (Ev.now _)
 | d + 1,i,h => by
  have ih:=EqElems_loop a b hab hl d (i + 1) (by omega)
  have ha : i < a.length:=by omega
  have hb : i < b.length:=by omega
  rw [List.drop_eq_getElem_cons ha,List.drop_eq_getElem_cons hb]
  have hc : (!(((rd_Elem a (i : Int)).f0) == ((rd_Elem b (i : Int)).f0)) || (!(((rd_Elem a (i : Int)).f1) == ((rd_Elem b (i : Int)).f1)) || (!(((rd_Elem a (i : Int)).f2) == ((rd_Elem b (i : Int)).f2))))) = !decide (a[i] = b[i]):=by
   rw [rd_Elem_nat _ _ ha,rd_Elem_nat _ _ hb]
   have:=eqE_iff a[i] b[i].f0 b[i].f1 b[i].f2
   rw [← this]
   cases a[i].f0 == b[i].f0 <;> cases a[i].f1 == b[i].f1 <;> cases a[i].f2 == b[i].f2 <;> rfl
  by_cases he : a[i] = b[i]
  ·have : decide (a[i] :: a.drop (i + 1) = b[i] :: b.drop (i + 1)) = decide (a.drop (i + 1) = b.drop (i + 1)):=decide_eq_decide.2 (by rw [List.cons.injEq]; exact ⟨fun h => h.2,fun h => ⟨he,h⟩⟩)
   rw [this]
   refine Ev.step (fun k => ?_) ih
   simp only [r0_EqElems.l0,hc]
   rw [if_pos (by omega),if_pos (by omega),if_pos (by omega),if_neg (by simp [he]),wrapS ha (by omega)]
  ·have : decide (a[i] :: a.drop (i + 1) = b[i] :: b.drop (i + 1)) = false:=decide_eq_false (by rw [List.cons.injEq]; exact fun h => he h.1)
   rw [this]
   refine Ev.step (f:=fun _ => some false) (fun k => ?_) (Ev.now _)
   simp only [r0_EqElems.l0,hc]
   rw [if_pos (by omega),if_pos (by omega),if_pos (by omega),if_pos (by simp [he])]
theorem EqElems_ev (a b : List SElem) (hl : a.length ≤ 1000000000) : Ev (fun k => r0_EqElems.f k a b) (decide (a = b)):=by
 by_cases hab : a.length = b.length
 ·have:=EqElems_loop a b hab hl a.length 0 (Nat.zero_add _)
  simp only [List.drop_zero] at this
  refine Ev.congr (fun k => ?_) this
  unfold r0_EqElems.f
  rw [if_pos (by omega)]
  rfl
 ·have : decide (a = b) = false:=by simp; rintro rfl; exact hab rfl
  rw [this]
  refine Ev.congr (fun k => ?_) (Ev.now false)
  unfold r0_EqElems.f
  rw [if_neg (by omega)]
end Go.Proofs.YtonoaflfobajcaaDoor.L
end

section
namespace Go.Proofs.YtonoaflfobajcaaDoor.L
open Go.RowKit Go.Proofs.YtonoaflfobajcaaDoorW.PrintWords Go.Proofs.YtonoaflfobajcaaDoorW.PrintLast Go.Proofs.YtonoaflfobajcaaDoorW.PrintMore
set_option linter.unusedVariables false
set_option linter.unusedSimpArgs false
theorem doc_Visible_ok {L : List SOp} (hs : smalls L = true) (h : RowOk L) : doc_Visible.f L = some (seenL L,0):=by
 unfold doc_Visible.f
 rw [tree_May_f hs,(mayB_iff L).2 h,Option.bind_some,if_pos rfl,doc_Seen_f hs h]; rfl
end Go.Proofs.YtonoaflfobajcaaDoor.L
end

section
namespace Go.Proofs.YtonoaflfobajcaaDoor.L
open Go.RowKit Go.Proofs.YtonoaflfobajcaaDoorW.PrintWords Go.Proofs.YtonoaflfobajcaaDoorW.PrintLast Go.Proofs.YtonoaflfobajcaaDoorW.PrintMore
set_option linter.unusedVariables false
set_option linter.unusedSimpArgs false
theorem wakes6_f : w6_wakes.f = some true:=by decide +kernel
theorem num6_f (a : Int) : w6_num.f a = some a:=rfl
theorem Tiny.smL {l : List SOp} (h : Tiny l) (hn : l.length ≤ 1000) : SmL l:=⟨by omega,fun o ho => by have:=h o ho; unfold tiny at this; unfold Sm2; exact ⟨by omega,by omega⟩⟩
theorem Tiny.smalls {l : List SOp} (h : Tiny l) (hn : l.length ≤ 1000) : smalls l = true:=good_smalls ⟨by omega,fun o ho => by have:=h o ho; unfold tiny at this; exact ⟨by omega,by omega⟩⟩
theorem Tiny.snoc {l : List SOp} (h : Tiny l) {o : SOp} (ho : tiny o) : Tiny (l ++ [o]):=by
 intro x hx
 rcases List.mem_append.1 hx with hx | hx
 ·exact h x hx
 ·rw [List.mem_singleton] at hx; subst hx; exact ho
theorem tmod_in {a : Int} {n : Nat} (h0 : 0 ≤ a) (hn : ¬ (n : Int) = 0) : 0 ≤ Int.tmod a (n : Int) ∧ Int.tmod a (n : Int) < (n : Int):=by
 rw [Int.tmod_eq_emod_of_nonneg h0]
 exact ⟨Int.emod_nonneg _ hn,Int.emod_lt_of_pos _ (by omega)⟩
section
variable {l0 : List (List SOp)} {l1 : List SElem} {l2 : List SOp} {l3 : List Int}
theorem With_j3 (kind i n : Int) {l : List SOp} (h : RowOk l) (ht : Tiny l) (o : SOp) (hto : tiny o) (hnext : ∀ l',RowOk l' → Tiny l' → Ev (fun k => w6_with.l1 k kind i l' (wrap64 (n + 1)) l0 l1 l2 l3) true) :
  Ev (fun k => w6_with.j3 k kind i l n l0 l1 l2 l3 o.f0 o.f1 o.f2 o.f3.f0 o.f3.f1 o.f3.f2 o.f4 o.f5 o.f6 o.f7 o.f8) true:=by
 have h40:=h.sums.1
 have ht':=ht.snoc hto
 have hlen : (l ++ [o]).length ≤ 1000:=by rw [List.length_append,List.length_singleton]; omega
 have hB:=Behind_ev l (by omega) (fun o ho => by have:=(ht o ho).2; omega) o (by have:=hto.2; omega)
 have hl':=ht'.smL hlen
 have hs':=ht'.smalls hlen
 refine Ev.step (fun k => by simp only [w6_with.j3]; rfl) (Ev.bind hB (Ev.bind (Row_ev (l ++ [o]) hl') ?_))
 cases hm : mayB (l ++ [o])
 ·simp only [Bool.false_eq_true,if_false]
  exact hnext l h ht
 ·have hr':=(mayB_iff _).1 hm
  have hE:=EqElems_ev (seenL (l ++ [o])) (seenL (l ++ [o])) (by have:=seen_len hr'; omega)
  rw [decide_eq_true rfl] at hE
  simp only [if_true,doc_Text_ok hs' hr',doc_Visible_ok hs' hr',Option.bind_some,num6_f]
  refine Ev.bind (TextR_ev hl' hr') ?_
  simp only [if_true]
  refine Ev.bind (Visible_ev hl' hr') (Ev.bind hE ?_)
  refine Ev.step (fun k => ?_) (hnext (l ++ [o]) hr' ht')
  simp only [w6_with.j4]
  rw [if_neg (by decide)]
theorem With_l1 (kind : Nat) (hk : kind ≤ 3) (i : Nat) (hi : i < 4) (hend : Ev (fun k => w6_with.l0 k (kind : Int) (wrap64 ((i : Int) + 1)) l0 l1 l2 l3) true) : ∀ (d n : Nat) (l : List SOp),n + d = 8 → RowOk l → Tiny l →
  Ev (fun k => w6_with.l1 k (kind : Int) (i : Int) l (n : Int) l0 l1 l2 l3) true
 | 0,n,l,hn,h,ht => by
  refine Ev.step (fun k => ?_) hend
  simp only [w6_with.l1]
  rw [if_neg (by omega)]
 | d + 1,n,l,hn,h,ht => by
  have h40:=h.sums.1
  have hl:=ht.smL (by omega)
  have hw : wrap64 ((n : Int) + 1) = ((n + 1 : Nat) : Int):=wrapS (show n < 8 by omega) (by omega)
  have ih : ∀ l',RowOk l' → Tiny l' → Ev (fun k => w6_with.l1 k (kind : Int) (i : Int) l' (wrap64 ((n : Int) + 1)) l0 l1 l2 l3) true:=fun l' h' t' => by
   rw [hw]; exact With_l1 kind hk i hi hend d (n + 1) l' (by omega) h' t'
  have h3:=fun o hto => With_j3 (l0:=l0) (l1:=l1) (l2:=l2) (l3:=l3) (kind : Int) (i : Int) (n : Int) h ht o hto ih
  refine Ev.step (fun k => by simp only [w6_with.l1]; rw [if_pos (by omega)]) (Ev.bind (Many_ev l hl.len _) (Ev.bind (Visible_ev hl h) ?_))
  by_cases k0 : (kind : Int) = 0
  ·simp only [if_pos k0]
   by_cases hv : ((seenL l).length : Int) > 0
   ·simp only [if_pos hv]
    by_cases h2 : Int.tmod (n : Int) 2 = 0
    ·have z : ¬ ((seenL l).length : Int) = 0:=by omega
     have q:=tmod_in (a:=(n : Int)) (by omega) z
     simp only [if_pos h2,if_neg z,if_pos q.1,if_pos q.2]
     exact h3 ⟨_,_,1,⟨_,_,_⟩,(⟨#[120,121]⟩ : ByteArray),[],0,0,0⟩ ⟨Nat.le_of_ble_eq_true rfl,Nat.le_of_ble_eq_true rfl⟩
    ·simp only [if_neg h2]
     exact h3 ⟨_,_,1,⟨0,0,0⟩,(⟨#[120,121]⟩ : ByteArray),[],0,0,0⟩ ⟨Nat.le_of_ble_eq_true rfl,Nat.le_of_ble_eq_true rfl⟩
   ·simp only [if_neg hv]
    exact h3 ⟨_,_,1,⟨0,0,0⟩,(⟨#[120,121]⟩ : ByteArray),[],0,0,0⟩ ⟨Nat.le_of_ble_eq_true rfl,Nat.le_of_ble_eq_true rfl⟩
  ·simp only [if_neg k0]
   by_cases k1 : (kind : Int) = 1
   ·simp only [if_pos k1]
    by_cases z : ((seenL l).length : Int) = 0
    ·simp only [if_pos z]
     exact ih l h ht
    ·have w5 : wrap64 ((n : Int) * 5) = (n : Int) * 5:=wrap64_small (by omega) (by omega)
     have q:=tmod_in (a:=wrap64 ((n : Int) * 5)) (by rw [w5]; omega) z
     simp only [if_neg z,if_pos q.1,if_pos q.2]
     exact h3 ⟨_,_,1,⟨0,0,0⟩,(⟨#[]⟩ : ByteArray),[⟨_,_,_⟩],0,0,0⟩ ⟨Nat.le_of_ble_eq_true rfl,Nat.le_of_ble_eq_true rfl⟩
   ·simp only [if_neg k1]
    by_cases z : (l.length : Int) = 0
    ·simp only [if_pos z]
     exact ih l h ht
    ·have w3 : wrap64 ((wrap64 ((n : Int) * 3)) + (kind : Int)) = (n : Int) * 3 + (kind : Int):=by rw [wrap64_small (i:=(n : Int) * 3) (by omega) (by omega),wrap64_small (by omega) (by omega)]
     have q:=tmod_in (a:=wrap64 ((wrap64 ((n : Int) * 3)) + (kind : Int))) (by rw [w3]; omega) z
     simp only [if_neg z,if_pos q.1,if_pos q.2]
     generalize Int.tmod (wrap64 ((wrap64 ((n : Int) * 3)) + (kind : Int))) (l.length : Int) = x
     by_cases e1 : (rd_Op l x).f2 = 1
     ·simp only [if_pos e1]
      refine Ev.bind (CountR_ev l (by omega) _ _) ?_
      by_cases k3 : (kind : Int) = 3
      ·simp only [if_pos k3]
       by_cases h2 : Int.tmod (n : Int) 2 = 1
       ·simp only [if_pos h2]
        exact h3 ⟨_,_,2,⟨0,0,0⟩,(⟨#[]⟩ : ByteArray),[],_,_,_⟩ ⟨Nat.le_of_ble_eq_true rfl,Nat.le_of_ble_eq_true rfl⟩
       ·simp only [if_neg h2]
        exact h3 ⟨_,_,2,⟨0,0,0⟩,(⟨#[]⟩ : ByteArray),[],_,_,_⟩ ⟨Nat.le_of_ble_eq_true rfl,Nat.le_of_ble_eq_true rfl⟩
      ·simp only [if_neg k3]
       exact h3 ⟨_,_,2,⟨0,0,0⟩,(⟨#[]⟩ : ByteArray),[],_,_,_⟩ ⟨Nat.le_of_ble_eq_true rfl,Nat.le_of_ble_eq_true rfl⟩
     ·simp only [if_neg e1]
      exact ih l h ht
theorem With_l0 (hg : GoodAsk l0 l1 l2 l3) (hsm : ∀ x ∈ l0,x.length ≤ 900 ∧ Tiny x) (kind : Nat) (hk : kind ≤ 3) : ∀ d i,i + d = l0.length → Ev (fun k => w6_with.l0 k (kind : Int) (i : Int) l0 l1 l2 l3) true
 | 0,i,h => by
  refine Ev.step (f:=fun k => w6_with.j1 k (kind : Int) (i : Int) false l0 l1 l2 l3) (fun k => ?_) (Ev.step (f:=fun _ => some true) (fun k => ?_) (Ev.now _))
  ·simp only [w6_with.l0]; rw [if_neg (by omega)]
  ·simp only [w6_with.j1]; rw [if_neg (by decide),wakes6_f]; rfl
 | d + 1,i,h => by
  have ih:=With_l0 hg hsm kind hk d (i + 1) (by omega)
  have hn0:=hg.n0
  have hlt : i < l0.length:=by omega
  have hw : wrap64 ((i : Int) + 1) = ((i + 1 : Nat) : Int):=wrapS hlt (by omega)
  by_cases h4 : (i : Int) < 4
  ·obtain ⟨hn,ht⟩:=hsm _ (List.getElem_mem hlt)
   have hR:=Row_ev l0[i] (ht.smL (by omega))
   refine Ev.step (f:=fun k => w6_with.j1 k (kind : Int) (i : Int) true l0 l1 l2 l3) (fun k => ?_) ?_
   ·simp only [w6_with.l0]; rw [if_pos (by omega),decide_eq_true h4]
   ·refine Ev.step (fun k => by simp only [w6_with.j1]; rw [if_pos True.intro,if_pos (by omega),if_pos (by omega),rd_LOp_nat _ _ hlt]) (Ev.bind hR ?_)
    cases hm : mayB l0[i]
    ·simp only [Bool.false_eq_true,if_false]
     rw [hw]; exact ih
    ·have hr:=(mayB_iff _).1 hm
     simp only [if_true]
     refine Ev.bind (CopyOps_ev l0[i] (by omega) (fun o ho => by have:=(ht o ho).2; omega)) ?_
     exact With_l1 kind hk i (by omega) (by rw [hw]; exact ih) 8 0 l0[i] rfl hr ht
  ·refine Ev.step (f:=fun k => w6_with.j1 k (kind : Int) (i : Int) false l0 l1 l2 l3) (fun k => ?_) (Ev.step (f:=fun _ => some true) (fun k => ?_) (Ev.now _))
   ·simp only [w6_with.l0]; rw [if_pos (by omega),decide_eq_false h4]
   ·simp only [w6_with.j1]; rw [if_neg (by decide),wakes6_f]; rfl
end
theorem with_ev {l0 : List (List SOp)} {l1 : List SElem} {l2 : List SOp} {l3 : List Int} (hg : GoodAsk l0 l1 l2 l3) (kind : Nat) (hk : kind ≤ 3) : Ev (fun k => w6_with.f k l0 l1 l2 l3 (kind : Int)) true:=by
 obtain ⟨b,hb,hsm⟩:=Heavy_small hg
 refine Ev.bind (f:=fun k t => if t = true then some true else w6_with.l0 k (kind : Int) 0 l0 l1 l2 l3) hb ?_
 cases b
 ·exact Ev.congr (fun k => if_neg (by decide)) (With_l0 hg (hsm rfl) kind hk _ 0 (Nat.zero_add _))
 ·exact Ev.congr (fun k => if_pos rfl) (Ev.now true)
end Go.Proofs.YtonoaflfobajcaaDoor.L
end

section
namespace Go.Proofs.YtonoaflfobajcaaDoor.L
open Go.RowKit Go.Proofs.YtonoaflfobajcaaDoorW.PrintWords Go.Proofs.YtonoaflfobajcaaDoorW.PrintLast Go.Proofs.YtonoaflfobajcaaDoorW.PrintMore
set_option linter.unusedVariables false
theorem PureDocWrites (l0 : List (List SOp)) (l1 : List SElem) (l2 : List SOp) (l3 : List Int) (hg : GoodAsk l0 l1 l2 l3) : ∃ k,w6_DocWrites.f k l0 l1 l2 l3 = some true :=
 Ev.rounds (Ev.bind (f:=fun _ t => some t) (with_ev hg 0 (by omega)) (Ev.now _))
end Go.Proofs.YtonoaflfobajcaaDoor.L
end

section
namespace Go.Proofs.YtonoaflfobajcaaDoor.L
open Go.RowKit Go.Proofs.YtonoaflfobajcaaDoorW.PrintWords Go.Proofs.YtonoaflfobajcaaDoorW.PrintLast Go.Proofs.YtonoaflfobajcaaDoorW.PrintMore
set_option linter.unusedVariables false
theorem PureDocGoes (l0 : List (List SOp)) (l1 : List SElem) (l2 : List SOp) (l3 : List Int) (hg : GoodAsk l0 l1 l2 l3) : ∃ k,w6_DocGoes.f k l0 l1 l2 l3 = some true :=
 Ev.rounds (Ev.bind (f:=fun _ t => some t) (with_ev hg 1 (by omega)) (Ev.now _))
end Go.Proofs.YtonoaflfobajcaaDoor.L
end

section
namespace Go.Proofs.YtonoaflfobajcaaDoor.L
open Go.RowKit Go.Proofs.YtonoaflfobajcaaDoorW.PrintWords Go.Proofs.YtonoaflfobajcaaDoorW.PrintLast Go.Proofs.YtonoaflfobajcaaDoorW.PrintMore
set_option linter.unusedVariables false
theorem PureDocUndoes (l0 : List (List SOp)) (l1 : List SElem) (l2 : List SOp) (l3 : List Int) (hg : GoodAsk l0 l1 l2 l3) : ∃ k,w6_DocUndoes.f k l0 l1 l2 l3 = some true :=
 Ev.rounds (Ev.bind (f:=fun _ t => some t) (with_ev hg 2 (by omega)) (Ev.now _))
end Go.Proofs.YtonoaflfobajcaaDoor.L
end

section
namespace Go.Proofs.YtonoaflfobajcaaDoor.L
open Go.RowKit Go.Proofs.YtonoaflfobajcaaDoorW.PrintWords Go.Proofs.YtonoaflfobajcaaDoorW.PrintLast Go.Proofs.YtonoaflfobajcaaDoorW.PrintMore
set_option linter.unusedVariables false
theorem PureDocIdles (l0 : List (List SOp)) (l1 : List SElem) (l2 : List SOp) (l3 : List Int) (hg : GoodAsk l0 l1 l2 l3) : ∃ k,w6_DocIdles.f k l0 l1 l2 l3 = some true :=
 Ev.rounds (Ev.bind (f:=fun _ t => some t) (with_ev hg 3 (by omega)) (Ev.now _))
end Go.Proofs.YtonoaflfobajcaaDoor.L
end
