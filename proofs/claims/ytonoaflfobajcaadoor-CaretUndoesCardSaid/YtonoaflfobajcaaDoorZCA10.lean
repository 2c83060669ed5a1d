/- Part 10 of the proof that for every argument the laws CaretDeletes and CaretUndoes answer true: what goes ahead of a caret moves it by so much, where its own element goes it stands where that was; behind a toggle, and another one of the same edit, a caret is where it was. -/
import Derived.Test.YtonoaflfobajcaaDoorZCA9
section
namespace Go.Proofs.YtonoaflfobajcaaDoor.L
open Go.RowKit Go.Proofs.YtonoaflfobajcaaDoorW.PrintWords Go.Proofs.YtonoaflfobajcaaDoorW.PrintLast Go.Proofs.YtonoaflfobajcaaDoorW.PrintMore
set_option linter.unusedVariables false
set_option linter.unusedSimpArgs false
set_option maxHeartbeats 40000000
set_option maxRecDepth 1000000
section
theorem exP {P : Program} {ops : Array Oper} {Q : Exit → Act → World → Prop} {S : World → Prop} {F : Act → World → Prop} {K : Act → World → Prop} {oi : Oper} {a : Act} {w : World} {N : Option Tmp} (hK : Shut (∀ a' w',S w' → (S w' → F a' w') → K a' w')) (u : Value) (w' : World) (hw : Region.wanted oi (yielded ops a.tmps) = true:=by rfl) (hN : oi.dst = N:=by rfl)
  (hrun : (execOp a.eval oi).run P w = .ok (.value u) w') (hS : S w') (h : S w' → F (a.put N u) w') : if Region.wanted oi (yielded ops a.tmps) = true then Oper.wp P oi a w K Q else K (a.put N undef) w:=by
 rw [if_pos hw]
 unfold Oper.wp
 rw [hrun,Oper.upon_value,hN]
 exact hK.out _ w' hS h
theorem infoEl : (Tryd.prog.info? 43).map (fun i => (i.zero,i.size,i.bytes)) = some (some (.agg #[(.int .i64 0),(.int .i64 0),(.int .i64 0)]),3,24):=by kernel_rfl
abbrev S3 (W : World) (g : Nat) (a b c : Int) : Prop:=W.cell? ⟨g,0,none⟩ = some (.int .i64 a) ∧ W.cell? ⟨g,1,none⟩ = some (.int .i64 b) ∧ W.cell? ⟨g,2,none⟩ = some (.int .i64 c)
theorem S3.below {W W' : World} {g : Nat} {a b c : Int} (h : S3 W g a b c) (hb : Below W.heap.size W W') : S3 W' g a b c:=⟨Qac hb h.1,Qac hb h.2.1,Qac hb h.2.2⟩
theorem S3.boxed (w : World) (a b c : Int) (t : TypeId) : S3 (w.alloc (.cells #[.int .i64 a, .int .i64 b, .int .i64 c] t)) w.heap.size a b c:=by
 refine ⟨?_, ?_, ?_⟩ <;> simp
theorem S3.reads {W : World} {g : Nat} {a b c : Int} (h : S3 W g a b c) : Qcd (fun x cs => cs = [.int .i64 x.f0, .int .i64 x.f1, .int .i64 x.f2]) Qaq.sz W (some ⟨g,0,none⟩) 1 [(⟨a,b,c⟩ : SElem)]:=by
 refine ⟨rfl,by omega,fun _ => ⟨_,rfl,fun j p hp => ?_⟩⟩
 have hj : j = 0:=by
  rcases j with _ | j
  ·rfl
  ·simp at hp
 subst hj
 simp only [List.getElem?_cons_zero,Option.some.injEq] at hp
 subst hp
 refine ⟨_,rfl,rfl,fun i u hu => ?_⟩
 have ea : (⟨g,0,none⟩ : Addr).add (0 * Qaq.sz + i) = ⟨g,i,none⟩:=by rw [Addr.add_lit,Nat.zero_mul,Nat.zero_add,Nat.zero_add]
 rw [ea]
 rcases i with _ | _ | _ | i
 ·simp only [List.getElem?_cons_zero,Option.some.injEq] at hu; rw [← hu]; exact h.1
 ·simp only [List.getElem?_cons_succ,List.getElem?_cons_zero,Option.some.injEq] at hu; rw [← hu]; exact h.2.1
 ·simp only [List.getElem?_cons_succ,List.getElem?_cons_zero,Option.some.injEq] at hu; rw [← hu]; exact h.2.2
 ·simp at hu
theorem nilReads (W : World) (A : Option Addr) : Qcd (fun (x : SElem) cs => cs = [.int .i64 x.f0, .int .i64 x.f1, .int .i64 x.f2]) Qaq.sz W A 0 []:=⟨rfl,by omega,fun h => absurd h (by omega)⟩
theorem put_calls (A0 : Option Addr) (c0 : Nat) (a b c : Int) (w : World) :
  Calls Tryd.prog 79 #[.slice A0 0 c0, .agg #[.int .i64 a, .int .i64 b, .int .i64 c]] w fun e w' => ∃ v0_ : Value,e = .returned v0_ ∧ Kd.R Qaq 43 w' w.heap.size (fun _ => True) v0_ [⟨a,b,c⟩] ∧ Below w.heap.size w w':=by
 have hal : Below w.heap.size w (w.alloc (.cells #[.int .i64 a, .int .i64 b, .int .i64 c] 43)):=Qag (Below.refl _ _) _
 have HBX:=Aside0.mk hal
 have HS0:=Aside0.mk (S3.boxed w a b c 43)
 have hsz : (w.alloc (.cells #[.int .i64 a, .int .i64 b, .int .i64 c] 43)).heap.size = w.heap.size + 1:=by simp
 have HSZ:=Aside0.mk hsz
 have HCE:=Aside0.mk (fun (W : World) => r0_CopyElems.calls 1 A0 c0 [] [] W ⟨rfl,Nat.zero_le _,fun h => absurd h (by decide)⟩ (Nat.zero_le _) rfl)
 clear hal hsz
 go_enter Tryd.func79,Tryd.ntmps79
 go_wp2
 go_loopg [5] 0 (fun gg s5 wr => s5 = .int .i64 0 ∧ Aside0 (S3 wr w.heap.size a b c) ∧ Aside0 (Below w.heap.size w wr) ∧ Aside0 (w.heap.size + 1 ≤ wr.heap.size))
 case atStart => exact ⟨rfl,HS0,HBX,⟨Nat.le_of_eq HSZ.out.symm⟩⟩
 case round =>
  clear HS0 HBX HSZ
  obtain ⟨rfl,HS0,HBX,HSZ⟩:=hrel
  go_upto_region 2 with (fail)
  refine stR (S:=fun _ => True) 12 t_r4_put.bits2 t_r4_put.tab2 (hS:=trivial) (h:=fun hS HT HW => ?_)
  refine pu HT 0 6 1 (h := ?_)
  refine pu HT 1 7 3 (h := ?_)
  refine pu HT 2 8 7 (h := ?_)
  refine pu HT 3 9 15 (h := ?_)
  refine pu HT 4 10 31 (h := ?_)
  refine off HT 5 11 63 (h := ?_)
  refine off HT 6 12 127 (h := ?_)
  refine off HT 7 13 255 (h := ?_)
  refine off HT 8 14 511 (h := ?_)
  refine off HT 9 15 1023 (h := ?_)
  refine off HT 10 16 2047 (h := ?_)
  refine pu HT 11 17 4095 (h := ?_)
  refine dn HT (h := ?_)
  clear HT HW hS
  go_upto_region 4 with (fail)
  refine stR (S:=fun _ => True) 12 t_r4_put.bits4 t_r4_put.tab4 (hS:=trivial) (h:=fun hS HT HW => ?_)
  refine pu HT 0 20 1 (h := ?_)
  refine pu HT 1 21 3 (h := ?_)
  refine pu HT 2 22 7 (h := ?_)
  refine pu HT 3 23 15 (h := ?_)
  refine pu HT 4 24 31 (h := ?_)
  refine off HT 5 25 63 (h := ?_)
  refine off HT 6 26 127 (h := ?_)
  refine off HT 7 27 255 (h := ?_)
  refine off HT 8 28 511 (h := ?_)
  refine off HT 9 29 1023 (h := ?_)
  refine off HT 10 30 2047 (h := ?_)
  refine pu HT 11 31 4095 (h := ?_)
  refine dn HT (h := ?_)
  clear HT HW hS
  go_upto_region 6 with (fail)
  have HB6:=Aside0.mk (Qaf (Qaf (Qaf HBX.out)))
  have HZ6:=Aside0.mk (show w.heap.size + 1 ≤ wr.drew.drew.drew.heap.size from HSZ.out)
  refine stR (S:=fun w' => S3 w' w.heap.size a b c) 12 t_r4_put.bits6 t_r4_put.tab6 (hS:=HS0.out) (h:=fun hS HT HW => ?_)
  refine pu HT 0 33 1 (h := ?_)
  refine pu HT 1 34 3 (h := ?_)
  refine pu HT 2 35 7 (h := ?_)
  refine tk HT HW hS 4 37 23 (h := ?_)
  refine pu HT 7 40 151 (h := ?_)
  refine pu HT 8 41 407 (h := ?_)
  refine pu HT 9 42 919 (h := ?_)
  clear HS0 HBX HSZ
  generalize wr.drew.drew.drew = w1 at HB6 HZ6 hS ⊢
  refine two_ (i:=3) (j:=5) (Ni:=some 36) (Nj:=some 38) (bA 12 927) (bA 12 951) rfl rfl rfl rfl (two_of HT.out (by kernel_rfl)) (by decide) (by decide) (fun K hK => ?_) (fun K hK => ?_)
  ·refine gS Tryd.func83 #[.slice A0 0 c0] (h := ?_)
   refine (HCE.out w1).mono ?_
   rintro e w3 ⟨v3,rfl,hR3,hb3⟩
   refine ⟨_,rfl, ?_⟩
   have HS3:=Aside0.mk (S3.below hS hb3)
   have hal3 : Below w3.heap.size w3 (w3.alloc (.cells #[.int .i64 a, .int .i64 b, .int .i64 c] 43)):=Qag (Below.refl _ _) _
   have HA3:=Aside0.mk hal3
   have HOWN:=Aside0.mk (fun k (hk : v3.ownBlock = some k) => Nat.le_trans HZ6.out (Kd.R_base hR3 k hk))
   have HBW:=Aside0.mk (Qag (Qav HB6.out hb3) (.cells #[.int .i64 a, .int .i64 b, .int .i64 c] 43))
   have HR3:=Aside0.mk (Kd.R_below (Kd.R_lower hR3 HB6.out.size) hal3)
   have HRD:=Aside0.mk (S3.reads (S3.boxed w3 a b c 43))
   have HZW:=Aside0.mk (show w.heap.size + 1 ≤ (w3.alloc (.cells #[.int .i64 a, .int .i64 b, .int .i64 c] 43)).heap.size from Nat.le_trans HZ6.out (Nat.le_trans hb3.size hal3.size))
   refine hK.out _ _ HS3.out (fun hS => ?_)
   clear hK hR3 hb3 hal3
   refine nm (h := ?_)
   refine exS HT 5 (some 38) 959 (.slice (some ⟨w3.heap.size,0,none⟩) 1 1) (w3.alloc (.cells #[.int .i64 a, .int .i64 b, .int .i64 c] 43)) (hrun := ?_) (hS:=S3.below HS3.out HA3.out) (h:=fun hS => ?_)
   ·clear HT HW hS
    go_simp
   refine nm (h := ?_)
   refine on HT 6 (some 39) 1023 (h:=fun K hK => ?_)
   refine Kd.R_append_rows_step Qaq (w0:=w) w.heap.size (by rfl) (.tmp 36) (.tmp 38) 23 43 (.agg #[.int .i64 0, .int .i64 0, .int .i64 0]) 24 rfl Tryd.underlying23 infoEl rfl (by decide) (by decide) v3 [] [⟨a,b,c⟩] (some ⟨w3.heap.size,0,none⟩) 1 1 (fun _ => True) (fun k => some k ≠ v3.ownBlock) rfl rfl HR3.out HRD.out (fun x cs e => by subst e; exact Qbs _ _ _ x) (fun k hk => ⟨trivial,hk⟩) (fun k hk => trivial) HBW.out HBW.out.size (by decide) (fun v4 w4 hR4 hb4 hg4 hat4 => ?_)
   have hown4 : ∀ k,v4.ownBlock = some k → w.heap.size + 1 ≤ k:=fun k hk => by
    have hz:=HZW.out
    rcases hat4 with e | ⟨b',e,hb'⟩
    ·exact HOWN.out k (e.symm.trans hk)
    ·rw [e] at hk; injection hk with hk; omega
   have hS4 : S3 w4 w.heap.size a b c:=⟨Qap hg4 (fun e => by have:=HOWN.out _ e.symm; simp only at this; omega) hS.1,Qap hg4 (fun e => by have:=HOWN.out _ e.symm; simp only at this; omega) hS.2.1,Qap hg4 (fun e => by have:=HOWN.out _ e.symm; simp only at this; omega) hS.2.2⟩
   have HR4:=Aside0.mk hR4
   have HB4:=Aside0.mk hb4
   have HW4:=Aside0.mk hown4
   refine hK.out _ _ hS4 (fun hS => ?_)
   clear hK hR4 hb4 hg4 hat4 hown4 hS4
   refine nm (h := ?_)
   refine on HT 10 (some 43) 2047 (h:=fun K hK => ?_)
   refine Kd.R_append_rows_step Qaq (w0:=w) w.heap.size (by rfl) (.tmp 39) (.tmp 42) 23 43 (.agg #[.int .i64 0, .int .i64 0, .int .i64 0]) 24 rfl Tryd.underlying23 infoEl rfl (by decide) (by decide) v4 ([] ++ [⟨a,b,c⟩]) [] A0 0 c0 (fun _ => True) (fun k => some k ≠ v4.ownBlock) rfl rfl HR4.out (nilReads _ A0) (fun x cs e => by subst e; exact Qbs _ _ _ x) (fun k hk => ⟨trivial,hk⟩) (fun k hk => trivial) HB4.out HB4.out.size (by simp) (fun v5 w5 hR5 hb5 hg5 hat5 => ?_)
   have hS5 : S3 w5 w.heap.size a b c:=⟨Qap hg5 (fun e => by have:=HW4.out _ e.symm; simp only at this; omega) hS.1,Qap hg5 (fun e => by have:=HW4.out _ e.symm; simp only at this; omega) hS.2.1,Qap hg5 (fun e => by have:=HW4.out _ e.symm; simp only at this; omega) hS.2.2⟩
   have HR5:=Aside0.mk hR5
   have HB5:=Aside0.mk hb5
   refine hK.out _ _ hS5 (fun hS => ?_)
   clear hK hR5 hb5 hg5 hat5 hS5
   refine nm (h := ?_)
   refine pu HT 11 4 4095 (h := ?_)
   refine dn HT (h := ?_)
   clear HT HW hS
   go_wp2
   go_ret
   exact ⟨v5,re,HR5.out,HB5.out⟩
  ·have hal1 : Below w1.heap.size w1 (w1.alloc (.cells #[.int .i64 a, .int .i64 b, .int .i64 c] 43)):=Qag (Below.refl _ _) _
   have HA1:=Aside0.mk hal1
   have HR1:=Aside0.mk (S3.boxed w1 a b c 43)
   have HB1:=Aside0.mk (Qav HB6.out hal1)
   refine exP hK (.slice (some ⟨w1.heap.size,0,none⟩) 1 1) (w1.alloc (.cells #[.int .i64 a, .int .i64 b, .int .i64 c] 43)) (hrun := ?_) (hS:=S3.below hS HA1.out) (h:=fun hS => ?_)
   ·clear HT HW hS hK
    go_simp
   clear hK hal1
   refine nm (h := ?_)
   refine ca HT 3 (some 36) 959 #[.slice A0 0 c0] Tryd.func83 (h:=fun K hK => ?_)
   refine (HCE.out _).mono ?_
   rintro e w3 ⟨v3,rfl,hR3,hb3⟩
   refine ⟨_,rfl, ?_⟩
   have HS3:=Aside0.mk (S3.below hS hb3)
   have HOWN:=Aside0.mk (fun k (hk : v3.ownBlock = some k) => Nat.le_trans HZ6.out (Nat.le_trans HA1.out.size (Kd.R_base hR3 k hk)))
   have HBW:=Aside0.mk (Qav HB1.out hb3)
   have HR3:=Aside0.mk (Kd.R_lower hR3 HB1.out.size)
   have HRD:=Aside0.mk (S3.reads (S3.below HR1.out hb3))
   have HZW:=Aside0.mk (show w.heap.size + 1 ≤ w3.heap.size from Nat.le_trans HZ6.out (Nat.le_trans HA1.out.size hb3.size))
   refine hK.out _ _ HS3.out (fun hS => ?_)
   clear hK hR3 hb3
   refine nm (h := ?_)
   refine on HT 6 (some 39) 1023 (h:=fun K hK => ?_)
   refine Kd.R_append_rows_step Qaq (w0:=w) w.heap.size (by rfl) (.tmp 36) (.tmp 38) 23 43 (.agg #[.int .i64 0, .int .i64 0, .int .i64 0]) 24 rfl Tryd.underlying23 infoEl rfl (by decide) (by decide) v3 [] [⟨a,b,c⟩] (some ⟨w1.heap.size,0,none⟩) 1 1 (fun _ => True) (fun k => some k ≠ v3.ownBlock) rfl rfl HR3.out HRD.out (fun x cs e => by subst e; exact Qbs _ _ _ x) (fun k hk => ⟨trivial,hk⟩) (fun k hk => trivial) HBW.out HBW.out.size (by decide) (fun v4 w4 hR4 hb4 hg4 hat4 => ?_)
   have hown4 : ∀ k,v4.ownBlock = some k → w.heap.size + 1 ≤ k:=fun k hk => by
    have hz:=HZW.out
    rcases hat4 with e | ⟨b',e,hb'⟩
    ·exact HOWN.out k (e.symm.trans hk)
    ·rw [e] at hk; injection hk with hk; omega
   have hS4 : S3 w4 w.heap.size a b c:=⟨Qap hg4 (fun e => by have:=HOWN.out _ e.symm; simp only at this; omega) hS.1,Qap hg4 (fun e => by have:=HOWN.out _ e.symm; simp only at this; omega) hS.2.1,Qap hg4 (fun e => by have:=HOWN.out _ e.symm; simp only at this; omega) hS.2.2⟩
   have HR4:=Aside0.mk hR4
   have HB4:=Aside0.mk hb4
   have HW4:=Aside0.mk hown4
   refine hK.out _ _ hS4 (fun hS => ?_)
   clear hK hR4 hb4 hg4 hat4 hown4 hS4
   refine nm (h := ?_)
   refine on HT 10 (some 43) 2047 (h:=fun K hK => ?_)
   refine Kd.R_append_rows_step Qaq (w0:=w) w.heap.size (by rfl) (.tmp 39) (.tmp 42) 23 43 (.agg #[.int .i64 0, .int .i64 0, .int .i64 0]) 24 rfl Tryd.underlying23 infoEl rfl (by decide) (by decide) v4 ([] ++ [⟨a,b,c⟩]) [] A0 0 c0 (fun _ => True) (fun k => some k ≠ v4.ownBlock) rfl rfl HR4.out (nilReads _ A0) (fun x cs e => by subst e; exact Qbs _ _ _ x) (fun k hk => ⟨trivial,hk⟩) (fun k hk => trivial) HB4.out HB4.out.size (by simp) (fun v5 w5 hR5 hb5 hg5 hat5 => ?_)
   have hS5 : S3 w5 w.heap.size a b c:=⟨Qap hg5 (fun e => by have:=HW4.out _ e.symm; simp only at this; omega) hS.1,Qap hg5 (fun e => by have:=HW4.out _ e.symm; simp only at this; omega) hS.2.1,Qap hg5 (fun e => by have:=HW4.out _ e.symm; simp only at this; omega) hS.2.2⟩
   have HR5:=Aside0.mk hR5
   have HB5:=Aside0.mk hb5
   refine hK.out _ _ hS5 (fun hS => ?_)
   clear hK hR5 hb5 hg5 hat5 hS5
   refine nm (h := ?_)
   refine pu HT 11 4 4095 (h := ?_)
   refine dn HT (h := ?_)
   clear HT HW hS
   go_wp2
   go_ret
   exact ⟨v5,re,HR5.out,HB5.out⟩
def r4_put.f (l0 : List (SElem)) (a1_0 : Int) (a1_1 : Int) (a1_2 : Int) : Option ((List (SElem))):=if l0.length = 0 then some [⟨a1_0,a1_1,a1_2⟩] else none
theorem r4_put.calls (A0 : Option Addr) (c0 : Nat) (l0 : List (SElem)) (a1_0 : Int) (a1_1 : Int) (a1_2 : Int) (r : List (SElem)) (w : World) (hr0 : Kd.C Qaq w A0 l0.length l0) (hc0 : l0.length ≤ c0) (h : r4_put.f l0 a1_0 a1_1 a1_2 = some r) :
  Calls Tryd.prog 79 #[.slice A0 l0.length c0, .agg #[.int .i64 a1_0, .int .i64 a1_1, .int .i64 a1_2]] w fun e w' => ∃ v0_ : Value,e = .returned (v0_) ∧ Kd.R Qaq 43 w' w.heap.size (fun _ => True) v0_ r ∧ Below w.heap.size w w':=by
 unfold r4_put.f at h
 split at h
 case isFalse => cases h
 rename_i hz
 obtain rfl:=Option.some.inj h
 rw [hz]
 exact put_calls A0 c0 a1_0 a1_1 a1_2 w
end
section
attribute [local go_sem] Qbp Qbn Qby Qbx Qbc Qbb Qbo Qbm
mutual
def r4_Replace.j0 : Nat → List (SOp) → Int → Int → Int → ByteArray → List (SElem) → Bool → Option (Int × Int × Int × Int × Int × Int × ByteArray × (List (SElem)) × Int × Int × Int × Int)
 | 0,_,_,_,_,_,_,_ => none
 | k + 1,x0,x1,x2,x3,x4,x12,x42 => if x42 = true then (some (0,0,0,0,0,0,(⟨#[]⟩ : ByteArray),([] : List (SElem)),0,0,0,2)) else (if x3 = 0 then (r4_Replace.j1 k x0 x1 x2 x3 x4 x12 (x4.toList == ([] : List UInt8))) else (r4_Replace.j1 k x0 x1 x2 x3 x4 x12 false))
def r4_Replace.j1 : Nat → List (SOp) → Int → Int → Int → ByteArray → List (SElem) → Bool → Option (Int × Int × Int × Int × Int × Int × ByteArray × (List (SElem)) × Int × Int × Int × Int)
 | 0,_,_,_,_,_,_,_ => none
 | k + 1,x0,x1,x2,x3,x4,x12,x49 => if x49 = true then (some (0,0,0,0,0,0,(⟨#[]⟩ : ByteArray),([] : List (SElem)),0,0,0,3)) else ((r4_Many.f k x0 x1).bind fun t384 => (if x2 > 0 then (r4_Replace.j2 k x0 x2 x3 x12 (x4.toList != ([] : List UInt8)) x1 (wrap64 (t384 + 1)) 1 0 0 0 x4 0 0 0) else (r4_Replace.j2 k x0 x2 x3 x12 false x1 (wrap64 (t384 + 1)) 1 0 0 0 x4 0 0 0)))
def r4_Replace.j2 : Nat → List (SOp) → Int → Int → List (SElem) → Bool → Int → Int → Int → Int → Int → Int → ByteArray → Int → Int → Int → Option (Int × Int × Int × Int × Int × Int × ByteArray × (List (SElem)) × Int × Int × Int × Int)
 | 0,_,_,_,_,_,_,_,_,_,_,_,_,_,_,_ => none
 | k + 1,x0,x2,x3,x12,x63,x386000,x386001,x386002,x386003,x386004,x386005,x386006,x386008,x386009,x386010 => if x63 = true then (if 0 ≤ (wrap64 (x2 - 1)) then (if (wrap64 (x2 - 1)) < (x12.length : Int) then (r4_Replace.j3 k x0 x2 x3 x12 x386000 x386001 x386002 ((Qaa x12 (wrap64 (x2 - 1))).f0) ((Qaa x12 (wrap64 (x2 - 1))).f1) ((Qaa x12 (wrap64 (x2 - 1))).f2) x386006 x386008 x386009 x386010) else (none)) else (none)) else (r4_Replace.j3 k x0 x2 x3 x12 x386000 x386001 x386002 x386003 x386004 x386005 x386006 x386008 x386009 x386010)
def r4_Replace.j3 : Nat → List (SOp) → Int → Int → List (SElem) → Int → Int → Int → Int → Int → Int → ByteArray → Int → Int → Int → Option (Int × Int × Int × Int × Int × Int × ByteArray × (List (SElem)) × Int × Int × Int × Int)
 | 0,_,_,_,_,_,_,_,_,_,_,_,_,_,_ => none
 | k + 1,x0,x2,x3,x12,x386000,x386001,x386002,x386003,x386004,x386005,x386006,x386008,x386009,x386010 => r4_Replace.l0 k x0 x2 x3 x12 x2 x386000 x386001 x386002 x386003 x386004 x386005 x386006 ([] : List (SElem)) x386008 x386009 x386010
def r4_Replace.l0 : Nat → List (SOp) → Int → Int → List (SElem) → Int → Int → Int → Int → Int → Int → Int → ByteArray → List (SElem) → Int → Int → Int → Option (Int × Int × Int × Int × Int × Int × ByteArray × (List (SElem)) × Int × Int × Int × Int)
 | 0,_,_,_,_,_,_,_,_,_,_,_,_,_,_,_,_ => none
 | k + 1,x0,x2,x3,x12,x16,x386000,x386001,x386002,x386003,x386004,x386005,x386006,x386007,x386008,x386009,x386010 => if x16 < (wrap64 (x2 + x3)) then (if 0 ≤ x16 then (if x16 < (x12.length : Int) then ((r4_put.f x386007 ((Qaa x12 x16).f0) ((Qaa x12 x16).f1) ((Qaa x12 x16).f2)).bind fun t388 => (r4_Replace.l0 k x0 x2 x3 x12 (wrap64 (x16 + 1)) x386000 x386001 x386002 x386003 x386004 x386005 x386006 t388 x386008 x386009 x386010)) else (none)) else (none)) else ((r4_Behind.f k x0 x386000 x386001 x386002 x386003 x386004 x386005 x386006 x386007 x386008 x386009 x386010).bind fun t391 => ((r4_Row.f k t391).bind fun t394 => (if t394 = true then (some (x386000,x386001,x386002,x386003,x386004,x386005,x386006,x386007,x386008,x386009,x386010,0)) else (some (0,0,0,0,0,0,(⟨#[]⟩ : ByteArray),([] : List (SElem)),0,0,0,6)))))
end
def r4_Replace.f (k : Nat) (l0 : List (SOp)) (a1 : Int) (a2 : Int) (a3 : Int) (a4 : ByteArray) : Option (Int × Int × Int × Int × Int × Int × ByteArray × (List (SElem)) × Int × Int × Int × Int):=(r4_Visible.f k l0).bind fun t375 => ((r1_Runes.f k a4).bind fun bt378 => ((r0_Num.f a2 (t375.length : Int)).bind fun t382 => (if t382 = true then ((r0_Num.f a3 (wrap64 ((t375.length : Int) - a2))).bind fun t383 => (if t383 = true then (r4_Replace.j0 k l0 a1 a2 a3 a4 t375 (decide ((bt378.1.length : Int) > 12))) else (r4_Replace.j0 k l0 a1 a2 a3 a4 t375 true))) else (r4_Replace.j0 k l0 a1 a2 a3 a4 t375 true))))
def r4_Replace.T13 : Bool × List (List Nat × List Nat):=(true,[([],[]),([0],[0]),([],[]),([],[]),([2,3],[2,3]),([4],[4]),([1,5],[1,5]),([0,1,2,3,4,5,6],[]),([7,6,6,0,1,2,3,4,5,6],[6,7])])
def r4_Replace.B13 : List Nat:=[0,1,0,0,12,28,63,127,255]
theorem r4_Replace.tab13 : rtab .any (Qcu Tryd.f34 13) = r4_Replace.T13:=by kernel_rfl
theorem r4_Replace.bits13 : Qax r4_Replace.T13.2 r4_Replace.B13 = true:=by kernel_rfl
theorem r4_Replace.calls (k : Nat) (A0 : Option Addr) (c0 : Nat) (l0 : List (SOp)) (a1 : Int) (a2 : Int) (a3 : Int) (a4 : ByteArray) (r1 : Int) (r2 : Int) (r3 : Int) (r4 : Int) (r5 : Int) (r6 : Int) (r7 : ByteArray) (r8 : List (SElem)) (r9 : Int) (r10 : Int) (r11 : Int) (r12 : Int) (w : World) (hr0 : Kd.C kOp w A0 l0.length l0) (hc0 : l0.length ≤ c0) (hT : GT w) (h : r4_Replace.f k l0 a1 a2 a3 a4 = some (r1,r2,r3,r4,r5,r6,r7,r8,r9,r10,r11,r12)) :
  Calls Tryd.prog 34 #[.slice A0 l0.length c0, .int .i64 a1, .int .i64 a2, .int .i64 a3, .string a4] w fun e w' => ∃ v7_ : Value,e = .returned (.tuple #[.agg #[.int .i64 r1, .int .i64 r2, .int .i64 r3, .int .i64 r4, .int .i64 r5, .int .i64 r6, .string r7,v7_, .int .i64 r9, .int .i64 r10, .int .i64 r11], .int .i64 r12]) ∧ Kd.R Qaq 43 w' w.heap.size (fun _ => True) v7_ r8 ∧ Below w.heap.size w w':=by
 have hu55:=Tryd.underlying55
 have hu43:=Tryd.underlying43
 have HR0:=Aside0.mk hr0
 have HC0:=Aside0.mk hc0
 clear hr0 hc0
 have HB:=Aside0.mk (Below.refl w.heap.size w)
 unfold r4_Replace.f at h; have H:=h
 clear h
 obtain ⟨t375,A6,H⟩:=bE H
 obtain ⟨⟨t378,t379⟩,A7,H⟩:=bE H
 try dsimp only at H
 have HC8:=Aside0.mk H
 clear H
 go_enter Tryd.func34,Tryd.ntmps34
 go_upto_region 3 with (first | ((with_reducible refine Qae (N:=10) rfl ?_); (try (refine Qao (by rfl) ?_; dsimp only)); refine bx 10 #[.int .i64 0, .int .i64 0, .int .i64 0, .int .i64 0, .int .i64 0, .int .i64 0, .string (⟨#[]⟩ : ByteArray), .slice none 0 0, .int .i64 0, .int .i64 0, .int .i64 0] 55 (h := ?_); intro gb374 hg w9 hbox hb; have BK374:=Aside0.mk (hbox); have GW374:=bz HB hg; have GE374:=bz HB hg; replace HB:=bs HB hb; clear hb hbox hg) | ((with_reducible refine Qab (f:=31) rfl ?_); refine gl (some 18) Tryd.func31 #[.slice A0 l0.length c0] (h := ?_); (with_reducible refine (r4_Visible.calls k _ _ l0 t375 _ ?side1 ?side2 ?side3 A6.out).mono ?_); (case side1 => exact cb HR0 HB); (case side2 => exact HC0.out); (case side3 => exact (hT.below (bw HB))); rintro e w10 ⟨v376,rfl,ho0,hb⟩; refine ⟨_,rfl, ?_⟩; have HO377:=Aside0.mk (Kd.R_lower ho0 (Qai (bw HB))); replace BK374:=bl BK374 hb; replace HB:=bs HB hb; clear hb; clear ho0) | ((with_reducible refine Qab (f:=78) rfl ?_); refine gl (some 21) Tryd.func78 #[.string a4] (h := ?_); (with_reducible refine (r1_Runes.calls k a4 t378 t379 _ ?side1 A7.out).mono ?_); (case side1 => exact (hT.below (bw HB))); rintro e w11 ⟨v380,rfl,ho0,hb⟩; refine ⟨_,rfl, ?_⟩; have HO381:=Aside0.mk (Kd.R_lower ho0 (Qai (bw HB))); replace HO377:=rb HO377 hb; replace BK374:=bl BK374 hb; replace HB:=bs HB hb; clear hb; clear ho0))
 (try simp only [Act.put,List.setIfInBounds_toArray,List.set_cons_zero,List.set_cons_succ])
 go_cut [42] (fun v42 wc => ∃ (kq : Nat) (x42_7 : Bool),v42 = .bool x42_7 ∧ Aside0 (r4_Replace.j0 kq l0 a1 a2 a3 a4 t375 x42_7 = some (r1,r2,r3,r4,r5,r6,r7,r8,r9,r10,r11,r12)) ∧ Aside0 (kq ≤ k) ∧ Aside0 (Kd.R Qaq 43 wc w.heap.size (fun _ => True) v376 t375) ∧ Aside0 (wc.heap[gb374]? = some (.cells #[.int .i64 0, .int .i64 0, .int .i64 0, .int .i64 0, .int .i64 0, .int .i64 0, .string (⟨#[]⟩ : ByteArray),(.slice none 0 0), .int .i64 0, .int .i64 0, .int .i64 0] 55 (0,0))) ∧ Aside0 (Below w.heap.size w wc))
 case first =>
  have H:=HC8.out
  clear HC8
  obtain ⟨t382,A12,H⟩:=bE H
  by_cases c13 : t382 = true; rotate_left
  ·replace c13:=Bool.eq_false_iff.mpr c13
   subst c13
   rw [if_neg nft] at H
   have H':=Aside0.mk H
   clear H
   obtain ⟨Ao19,co19,eo19⟩:=Kd.R_slice HO377.out
   subst eo19
   go_wp2_with (first | ((with_reducible refine Qab (f:=50) rfl ?_); refine gl (some 27) Tryd.func50 #[.int .i64 a2, .int .i64 (t375.length : Int)] (h := ?_); (with_reducible refine (r0_Num.calls a2 (t375.length : Int) false _ A12.out).mono ?_); rintro e w' ⟨rfl,⟨nd,rfl⟩⟩; refine ⟨_,rfl, ?_⟩))
   go_meet
   case rel => exact ⟨_,(true),rf,H',⟨by first | omega | exact Nat.le_refl _⟩,⟨rk HO377⟩,⟨kk BK374⟩,⟨bw HB⟩⟩
  subst c13
  rw [if_pos rfl] at H
  obtain ⟨t383,A14,H⟩:=bE H
  by_cases c15 : t383 = true
  ·subst c15
   rw [if_pos rfl] at H
   have H':=Aside0.mk H
   clear H
   obtain ⟨Ao16,co16,eo16⟩:=Kd.R_slice HO377.out
   subst eo16
   go_wp2_with (first | ((with_reducible refine Qab (f:=50) rfl ?_); refine gl (some 27) Tryd.func50 #[.int .i64 a2, .int .i64 (t375.length : Int)] (h := ?_); (with_reducible refine (r0_Num.calls a2 (t375.length : Int) true _ A12.out).mono ?_); rintro e w' ⟨rfl,⟨nd,rfl⟩⟩; refine ⟨_,rfl, ?_⟩) | (go_at_call 50; (with_reducible refine (r0_Num.calls a3 (wrap64 ((t375.length : Int) - a2)) true _ A14.out).mono ?_); rintro e w' ⟨rfl,⟨nd,rfl⟩⟩; obtain ⟨Ao17,co17,eo17⟩:=Kd.R_slice HO381.out; subst eo17))
   go_meet
   case rel => exact ⟨_,(decide ((t378.length : Int) > 12)),rf,H',⟨by first | omega | exact Nat.le_refl _⟩,⟨rk HO377⟩,⟨kk BK374⟩,⟨bw HB⟩⟩
  replace c15:=Bool.eq_false_iff.mpr c15
  subst c15
  rw [if_neg nft] at H
  have H':=Aside0.mk H
  clear H
  obtain ⟨Ao18,co18,eo18⟩:=Kd.R_slice HO377.out
  subst eo18
  go_wp2_with (first | ((with_reducible refine Qab (f:=50) rfl ?_); refine gl (some 27) Tryd.func50 #[.int .i64 a2, .int .i64 (t375.length : Int)] (h := ?_); (with_reducible refine (r0_Num.calls a2 (t375.length : Int) true _ A12.out).mono ?_); rintro e w' ⟨rfl,⟨nd,rfl⟩⟩; refine ⟨_,rfl, ?_⟩) | (go_at_call 50; (with_reducible refine (r0_Num.calls a3 (wrap64 ((t375.length : Int) - a2)) false _ A14.out).mono ?_); rintro e w' ⟨rfl,⟨nd,rfl⟩⟩))
  go_meet
  case rel => exact ⟨_,(true),rf,H',⟨by first | omega | exact Nat.le_refl _⟩,⟨rk HO377⟩,⟨kk BK374⟩,⟨bw HB⟩⟩
 case rest =>
  clear HC8
  obtain ⟨kq,x42_7,rfl,HA,HJ7,HO_12,BK374,HB⟩:=hcut
  cases kq with
  | zero => exact absurd HA.out (by simp [r4_Replace.j0])
  | succ kj7 =>
   have H:=HA.out
   clear HA
   simp only [r4_Replace.j0] at H
   by_cases c20 : x42_7 = true
   ·subst c20
    rw [if_pos rfl] at H
    simp only [Option.some.injEq,Prod.mk.injEq] at H
    obtain ⟨rfl,rfl,rfl,rfl,rfl,rfl,rfl,rfl,rfl,rfl,rfl,rfl⟩:=H
    obtain ⟨_,_,_,_,_,_,_,_,_,_,_,_,_,_,_,_,_,_,_,_,_,_⟩:=kc11 BK374
    go_wp2
    refine bodyPost_ret (Qch rfl _ _ gb374 55 #[.int .i64 0, .int .i64 0, .int .i64 0, .int .i64 0, .int .i64 0, .int .i64 0, .string (⟨#[]⟩ : ByteArray), .slice none 0 0, .int .i64 0, .int .i64 0, .int .i64 0] (0,0) _ rfl (bp11 (kk BK374)) Tryd.underlying55 rfl (by kernel_rfl)) rfl ?_
    exact ⟨_,re,by first | exact Kd.R_nil _ _ _ _ _ | exact Kd.N_nil _ _ _ _ _ | exact Kd.V_nil _ _ _ _ _ | exact Kd.Q_nil _ _ _ _ _ | exact Kd.S_nil _ _ _ _ _,bw HB⟩
   replace c20:=Bool.eq_false_iff.mpr c20
   subst c20
   rw [if_neg nft] at H
   have HC22:=Aside0.mk H
   clear H
   go_upto_region 5 with (fail)
   go_cut [49] (fun v49 wc => ∃ (kq : Nat) (x49_21 : Bool),v49 = .bool x49_21 ∧ Aside0 (r4_Replace.j1 kq l0 a1 a2 a3 a4 t375 x49_21 = some (r1,r2,r3,r4,r5,r6,r7,r8,r9,r10,r11,r12)) ∧ Aside0 (kq ≤ kj7) ∧ Aside0 (Kd.R Qaq 43 wc w.heap.size (fun _ => True) v376 t375) ∧ Aside0 (wc.heap[gb374]? = some (.cells #[.int .i64 0, .int .i64 0, .int .i64 0, .int .i64 0, .int .i64 0, .int .i64 0, .string (⟨#[]⟩ : ByteArray),(.slice none 0 0), .int .i64 0, .int .i64 0, .int .i64 0] 55 (0,0))) ∧ Aside0 (Below w.heap.size w wc))
   case first =>
    have H:=HC22.out
    clear HC22
    by_cases c23 : a3 = 0
    ·rw [if_pos c23] at H
     obtain ⟨c23b0,c23b1⟩:=bT c23
     clear c23
     (first | rw [c23b0] | (simp only [Qaw,Qay]; rw [c23b0]) | skip)
     have H':=Aside0.mk H
     clear H
     go_wp2
     go_meet
     case rel => exact ⟨_,((a4.toList == ([] : List UInt8))),rf,H',⟨by have:=HJ7.out; first | omega | exact Nat.le_refl _⟩,⟨rk HO_12⟩,⟨kk BK374⟩,⟨bw HB⟩⟩
    rw [if_neg c23] at H
    obtain ⟨c23b0,c23b1⟩:=bF c23
    (first | rw [c23b0] | (simp only [Qaw,Qay]; rw [c23b0]) | skip)
    have H':=Aside0.mk H
    clear H
    go_wp2
    go_meet
    case rel => exact ⟨_,(false),rf,H',⟨by have:=HJ7.out; first | omega | exact Nat.le_refl _⟩,⟨rk HO_12⟩,⟨kk BK374⟩,⟨bw HB⟩⟩
   case rest =>
    clear HC22
    try clear c20
    obtain ⟨kq,x49_21,rfl,HA,HJ21,HO_12,BK374,HB⟩:=hcut
    cases kq with
    | zero => exact absurd HA.out (by simp [r4_Replace.j1])
    | succ kj21 =>
     have H:=HA.out
     clear HA
     simp only [r4_Replace.j1] at H
     by_cases c24 : x49_21 = true
     ·subst c24
      rw [if_pos rfl] at H
      simp only [Option.some.injEq,Prod.mk.injEq] at H
      obtain ⟨rfl,rfl,rfl,rfl,rfl,rfl,rfl,rfl,rfl,rfl,rfl,rfl⟩:=H
      obtain ⟨_,_,_,_,_,_,_,_,_,_,_,_,_,_,_,_,_,_,_,_,_,_⟩:=kc11 BK374
      go_wp2
      refine bodyPost_ret (Qch rfl _ _ gb374 55 #[.int .i64 0, .int .i64 0, .int .i64 0, .int .i64 0, .int .i64 0, .int .i64 0, .string (⟨#[]⟩ : ByteArray), .slice none 0 0, .int .i64 0, .int .i64 0, .int .i64 0] (0,0) _ rfl (bp11 (kk BK374)) Tryd.underlying55 rfl (by kernel_rfl)) rfl ?_
      exact ⟨_,re,by first | exact Kd.R_nil _ _ _ _ _ | exact Kd.N_nil _ _ _ _ _ | exact Kd.V_nil _ _ _ _ _ | exact Kd.Q_nil _ _ _ _ _ | exact Kd.S_nil _ _ _ _ _,bw HB⟩
     replace c24:=Bool.eq_false_iff.mpr c24
     subst c24
     rw [if_neg nft] at H
     obtain ⟨t384,A26,H⟩:=bE H
     have HC27:=Aside0.mk H
     clear H
     go_upto_region 8 with (first | ((with_reducible refine Qab (f:=68) rfl ?_); refine gl (some 54) Tryd.func68 #[.slice A0 l0.length c0, .int .i64 a1] (h := ?_); (with_reducible refine (r4_Many.calls kj21 _ _ l0 a1 t384 _ ?side1 ?side2 A26.out).mono ?_); (case side1 => exact cb HR0 HB); (case side2 => exact HC0.out); rintro e w' ⟨rfl,⟨nd,rfl⟩⟩; refine ⟨_,rfl, ?_⟩; (try (rw [Qbw wc]; generalize hq_ : World.drewN wc _ = wc; have n0_ : Aside0 (Kd.R Qaq 43 wc w.heap.size (fun _ => True) v376 t375):=⟨by rw [← hq_]; exact (rk HO_12)⟩; have n1_ : Aside0 (wc.heap[gb374]? = some (.cells #[.int .i64 0, .int .i64 0, .int .i64 0, .int .i64 0, .int .i64 0, .int .i64 0, .string (⟨#[]⟩ : ByteArray), .slice none 0 0, .int .i64 0, .int .i64 0, .int .i64 0] 55 (0,0))):=⟨by rw [← hq_]; exact (kk BK374)⟩; have n2_ : Aside0 (Below w.heap.size w wc):=⟨by rw [← hq_]; exact (bw HB)⟩; clear HO_12 BK374 HB hq_; have HO_12:=n0_; have BK374:=n1_; have HB:=n2_; clear n0_ n1_ n2_))) | ((with_reducible refine Qae (N:=15) rfl ?_); (try (refine Qao (by rfl) ?_; dsimp only)); refine bx 15 #[.int .i64 0, .int .i64 0, .int .i64 0, .int .i64 0, .int .i64 0, .int .i64 0, .string (⟨#[]⟩ : ByteArray), .slice none 0 0, .int .i64 0, .int .i64 0, .int .i64 0] 55 (h := ?_); intro gb385 hg w28 hbox hb; have BK385:=Aside0.mk (hbox); have GW385:=bz HB hg; have GE385:=bz HB hg; have NB374_385:=bn BK374 hg; have NB385_374:=bm BK374 hg; replace HO_12:=rb HO_12 hb; replace BK374:=bl BK374 hb; replace HB:=bs HB hb; clear hb hbox hg; have hnb29:=NB385_374.out; have hnc29:=NB374_385.out; obtain ⟨_,_,_,_,_,_,_,_,_,_,_,_,_,_,_,_,_,_,_,_,_,_⟩:=kc11 BK385))
     (try simp only [Act.put,List.setIfInBounds_toArray,List.set_cons_zero,List.set_cons_succ])
     go_cut [63] (fun v63 wc => ∃ (kq : Nat) (x63_26 : Bool),v63 = .bool x63_26 ∧ Aside0 (r4_Replace.j2 kq l0 a2 a3 t375 x63_26 a1 (wrap64 (t384 + 1)) 1 0 0 0 a4 0 0 0 = some (r1,r2,r3,r4,r5,r6,r7,r8,r9,r10,r11,r12)) ∧ Aside0 (kq ≤ kj21) ∧ Aside0 (Kd.R Qaq 43 wc w.heap.size (fun _ => True) v376 t375) ∧ Aside0 (wc.heap[gb374]? = some (.cells #[.int .i64 0, .int .i64 0, .int .i64 0, .int .i64 0, .int .i64 0, .int .i64 0, .string (⟨#[]⟩ : ByteArray),(.slice none 0 0), .int .i64 0, .int .i64 0, .int .i64 0] 55 (0,0))) ∧ Aside0 (wc.heap[gb385]? = some (.cells #[.int .i64 a1, .int .i64 (wrap64 (t384 + 1)), .int .i64 1, .int .i64 0, .int .i64 0, .int .i64 0, .string a4,(.slice none 0 0), .int .i64 0, .int .i64 0, .int .i64 0] 55 (0,0))) ∧ Aside0 (Below w.heap.size w wc))
     case first =>
      have H:=HC27.out
      clear HC27
      by_cases c31 : a2 > 0
      ·rw [if_pos c31] at H
       have c31b0:=decide_eq_true c31
       clear c31
       (first | rw [c31b0] | (simp only [Qaw,Qay]; rw [c31b0]) | skip)
       have H':=Aside0.mk H
       clear H
       go_wp2
       go_meet
       case rel => exact ⟨_,((a4.toList != ([] : List UInt8))),(by first | rfl | (cases a4.toList <;> rfl) | (cases hh_ : a4.toList <;> simp [hh_])),H',⟨by have:=HJ7.out; have:=HJ21.out; first | omega | exact Nat.le_refl _⟩,⟨by (with_reducible repeat (first | apply Kd.R_alloc | apply Kd.R_drewN | apply Kd.R_drew)); exact Kd.R_mono (rf11 (Kd.R_types HO_12.out BK385.out (by decide))) (fun _ hk => trivial)⟩,⟨kk BK374⟩,⟨bp11 (kk BK385)⟩,⟨bw HB⟩⟩
      rw [if_neg c31] at H
      have c31b0:=decide_eq_false c31
      clear c31
      (first | rw [c31b0] | (simp only [Qaw,Qay]; rw [c31b0]) | skip)
      have H':=Aside0.mk H
      clear H
      go_wp2
      go_meet
      case rel => exact ⟨_,(false),rf,H',⟨by have:=HJ7.out; have:=HJ21.out; first | omega | exact Nat.le_refl _⟩,⟨by (with_reducible repeat (first | apply Kd.R_alloc | apply Kd.R_drewN | apply Kd.R_drew)); exact Kd.R_mono (rf11 (Kd.R_types HO_12.out BK385.out (by decide))) (fun _ hk => trivial)⟩,⟨kk BK374⟩,⟨bp11 (kk BK385)⟩,⟨bw HB⟩⟩
     case rest =>
      clear HC27
      try clear c24
      obtain ⟨kq,x63_26,rfl,HA,HJ26,HO_12,BK374,BK385,HB⟩:=hcut
      cases kq with
      | zero => exact absurd HA.out (by simp [r4_Replace.j2])
      | succ kj26 =>
       have H:=HA.out
       clear HA
       simp only [r4_Replace.j2] at H
       have HC32:=Aside0.mk H
       clear H
       go_upto_if 63 with (fail)
       go_cut [] (fun wc => ∃ (kq : Nat) (x386003_31 : Int) (x386004_31 : Int) (x386005_31 : Int),Aside0 (r4_Replace.j3 kq l0 a2 a3 t375 a1 (wrap64 (t384 + 1)) 1 x386003_31 x386004_31 x386005_31 a4 0 0 0 = some (r1,r2,r3,r4,r5,r6,r7,r8,r9,r10,r11,r12)) ∧ Aside0 (kq ≤ kj26) ∧ Aside0 (Kd.R Qaq 43 wc w.heap.size (fun _ => True) v376 t375) ∧ Aside0 (wc.heap[gb374]? = some (.cells #[.int .i64 0, .int .i64 0, .int .i64 0, .int .i64 0, .int .i64 0, .int .i64 0, .string (⟨#[]⟩ : ByteArray),(.slice none 0 0), .int .i64 0, .int .i64 0, .int .i64 0] 55 (0,0))) ∧ Aside0 (wc.heap[gb385]? = some (.cells #[.int .i64 a1, .int .i64 (wrap64 (t384 + 1)), .int .i64 1, .int .i64 x386003_31, .int .i64 x386004_31, .int .i64 x386005_31, .string a4,(.slice none 0 0), .int .i64 0, .int .i64 0, .int .i64 0] 55 (0,0))) ∧ Aside0 (Below w.heap.size w wc))
       case first =>
        have H:=HC32.out
        clear HC32
        by_cases c33 : x63_26 = true; rotate_left
        ·replace c33:=Bool.eq_false_iff.mpr c33
         subst c33
         rw [if_neg nft] at H
         have H':=Aside0.mk H
         clear H
         go_wp2
         go_meet
         case rel => exact ⟨_,(0),(0),(0),H',⟨by have:=HJ7.out; have:=HJ21.out; have:=HJ26.out; first | omega | exact Nat.le_refl _⟩,⟨rk HO_12⟩,⟨kk BK374⟩,⟨kk BK385⟩,⟨bw HB⟩⟩
        subst c33
        rw [if_pos rfl] at H
        obtain ⟨ji34,hji34⟩ : ∃ j_ : Int,(wrap64 (a2 - 1)) = j_:=⟨_,rfl⟩
        replace H : (if 0 ≤ (ji34) then (if (ji34) < (t375.length : Int) then (r4_Replace.j3 kj26 l0 a2 a3 t375 a1 (wrap64 (t384 + 1)) 1 ((Qaa t375 (ji34)).f0) ((Qaa t375 (ji34)).f1) ((Qaa t375 (ji34)).f2) a4 0 0 0) else (none)) else (none)) = some (r1,r2,r3,r4,r5,r6,r7,r8,r9,r10,r11,r12):=by first | (rw [hji34] at H; exact H) | (simp only [hji34] at H ⊢; exact H)
        have hji34w : (IntKind.i64.wrap (a2 - 1)) = ji34:=(Qaw _).trans hji34
        by_cases c35 : 0 ≤ (ji34); rotate_left
        ·rw [if_neg c35] at H
         exact absurd H (by simp)
        rw [if_pos c35] at H
        have c35b0:=decide_eq_true c35
        clear c35
        (first | rw [c35b0] | (simp only [Qaw,Qay]; rw [c35b0]) | skip)
        by_cases c36 : (ji34) < (t375.length : Int); rotate_left
        ·rw [if_neg c36] at H
         exact absurd H (by simp)
        rw [if_pos c36] at H
        have c36b0:=decide_eq_true c36
        clear c36
        have H':=Aside0.mk H
        clear H
        obtain ⟨Ao37,co37,eo37⟩:=Kd.R_slice HO_12.out
        subst eo37
        have p386 : 0 ≤ ((ji34) : Int):=od
        have q386 : (ji34) < (t375.length : Int):=od
        obtain ⟨ad386,e386,hx386_0,hx386_1,hx386_2⟩:=Qba (Kd.R_reads' HO_12.out).2.2 (ji34) p386 q386
        cases e386
        replace p386:=eq_true p386
        replace q386:=eq_true q386
        have hnb38:=NB385_374.out
        have hnc38:=NB374_385.out
        obtain ⟨_,_,_,_,_,_,_,_,_,_,_,_,_,_,_,_,_,_,_,_,_,_⟩:=kc11 BK385
        go_wp2
        go_meet
        case rel => exact ⟨_,((Qaa t375 (ji34)).f0),((Qaa t375 (ji34)).f1),((Qaa t375 (ji34)).f2),H',⟨by have:=HJ7.out; have:=HJ21.out; have:=HJ26.out; first | omega | exact Nat.le_refl _⟩,⟨by (with_reducible repeat (first | apply Kd.R_alloc | apply Kd.R_drewN | apply Kd.R_drew)); exact Kd.R_mono (Kd.R_far (p:=⟨gb385,5,none⟩) (Kd.R_far (p:=⟨gb385,4,none⟩) (Kd.R_far (p:=⟨gb385,3,none⟩) (Kd.R_types HO_12.out BK385.out (by decide)) (fun _ hk => hk.2) (.int .i64 ((Qaa t375 (ji34)).f0))) (fun _ hk => hk.2) (.int .i64 ((Qaa t375 (ji34)).f1))) (fun _ hk => hk.2) (.int .i64 ((Qaa t375 (ji34)).f2))) (fun _ hk => trivial)⟩,⟨kk BK374⟩,⟨bp (bp (bp (kk BK385) 3) 4) 5⟩,⟨bw HB⟩⟩
       case rest =>
        clear HC32
        obtain ⟨kq,x386003_31,x386004_31,x386005_31,HA,HJ31,HO_12,BK374,BK385,HB⟩:=hcut
        cases kq with
        | zero => exact absurd HA.out (by simp [r4_Replace.j3])
        | succ kj31 =>
         have H:=HA.out
         clear HA
         simp only [r4_Replace.j3] at H
         have H':=Aside0.mk H
         clear H
         go_wp2
         go_loopg [16] kj31 (fun kq v16 w' => ∃ (x16_5 : Int) (x386007_5 : List (SElem)) (u386007 : Value),v16 = .int .i64 x16_5 ∧ Aside0 (r4_Replace.l0 kq l0 a2 a3 t375 x16_5 a1 (wrap64 (t384 + 1)) 1 x386003_31 x386004_31 x386005_31 a4 x386007_5 0 0 0 = some (r1,r2,r3,r4,r5,r6,r7,r8,r9,r10,r11,r12)) ∧ Aside0 (kq ≤ kj31) ∧ Aside0 (Kd.R Qaq 43 w' w.heap.size (fun k_ => some k_ ≠ (u386007 : Value).ownBlock) v376 t375) ∧ Aside0 (Kd.R Qaq 43 w' w.heap.size (fun k_ => some k_ ≠ (v376 : Value).ownBlock) u386007 x386007_5) ∧ Aside0 (w'.heap[gb374]? = some (.cells #[.int .i64 0, .int .i64 0, .int .i64 0, .int .i64 0, .int .i64 0, .int .i64 0, .string (⟨#[]⟩ : ByteArray),(.slice none 0 0), .int .i64 0, .int .i64 0, .int .i64 0] 55 (0,0))) ∧ Aside0 (w'.heap[gb385]? = some (.cells #[.int .i64 a1, .int .i64 (wrap64 (t384 + 1)), .int .i64 1, .int .i64 x386003_31, .int .i64 x386004_31, .int .i64 x386005_31, .string a4,u386007, .int .i64 0, .int .i64 0, .int .i64 0] 55 (0,0))) ∧ Aside0 (Below w.heap.size w w'))
         case atStart => exact ⟨(a2),(([] : List (SElem))),(.slice none 0 0),rf,H',⟨Nat.le_refl _⟩,⟨by (with_reducible repeat (first | apply Kd.R_alloc | apply Kd.R_drewN | apply Kd.R_drew)); exact Kd.R_mono HO_12.out (fun _ hk => (by simp [Value.ownBlock]))⟩,⟨by first | exact Kd.R_nil _ _ _ _ _ | exact Kd.N_nil _ _ _ _ _ | exact Kd.V_nil _ _ _ _ _ | exact Kd.Q_nil _ _ _ _ _ | exact Kd.S_nil _ _ _ _ _⟩,⟨kk BK374⟩,⟨kk BK385⟩,⟨bw HB⟩⟩
         case round =>
          clear H'
          obtain ⟨x16_5,x386007_5,u386007,rfl,HA,HK5,HO_12,HO_386007,BK374,BK385,HB⟩:=hrel
          cases gk with
          | zero => exact absurd HA.out (by simp [r4_Replace.l0])
          | succ k5 =>
           have H:=HA.out
           clear HA
           simp only [r4_Replace.l0] at H
           by_cases c40 : x16_5 < (wrap64 (a2 + a3)); rotate_left
           ·rw [if_neg c40] at H
            have c40b0:=decide_eq_false c40
            clear c40
            obtain ⟨t391,A50,H⟩:=bE H
            obtain ⟨t394,A51,H⟩:=bE H
            by_cases c52 : t394 = true
            ·subst c52
             rw [if_pos rfl] at H
             simp only [Option.some.injEq,Prod.mk.injEq] at H
             obtain ⟨rfl,rfl,rfl,rfl,rfl,rfl,rfl,rfl,rfl,rfl,rfl,rfl⟩:=H
             have hnb53:=NB385_374.out
             have hnc53:=NB374_385.out
             obtain ⟨_,_,_,_,_,_,_,_,_,_,_,_,_,_,_,_,_,_,_,_,_,_⟩:=kc11 BK385
             obtain ⟨Ao55,co55,eo55⟩:=Kd.R_slice HO_386007.out
             subst eo55
             go_wp2_with (first | ((with_reducible refine Qab (f:=36) rfl ?_); refine gl (some 88) Tryd.func36 #[.slice A0 l0.length c0, .agg #[.int .i64 a1, .int .i64 (wrap64 (t384 + 1)), .int .i64 1, .int .i64 x386003_31, .int .i64 x386004_31, .int .i64 x386005_31, .string a4, .slice Ao55 x386007_5.length co55, .int .i64 0, .int .i64 0, .int .i64 0]] (h := ?_); (with_reducible refine (r4_Behind.calls k5 _ _ l0 a1 (wrap64 (t384 + 1)) 1 x386003_31 x386004_31 x386005_31 a4 _ _ x386007_5 0 0 0 t391 _ ?side1 ?side2 ?side3 ?side4 A50.out).mono ?_); (case side1 => exact cb HR0 HB); (case side2 => exact HC0.out); (case side3 => exact cr HO_386007); (case side4 => exact (Kd.R_reads' HO_386007.out).2.1); rintro e w56 ⟨v392,rfl,ho0,hb⟩; refine ⟨_,rfl, ?_⟩; have HO393:=Aside0.mk (Kd.S_lower (Kd.S_newB (Kd.S_newB (Kd.S_new' (Kd.S_new' ho0 (Kd.R_lt (rk HO_12))) (Kd.R_lt (rk HO_386007))) (kk BK374)) (kk BK385)) (Qai (bw HB))); replace HO_12:=rb HO_12 hb; replace HO_386007:=rb HO_386007 hb; replace BK374:=bl BK374 hb; replace BK385:=bl BK385 hb; replace HB:=bs HB hb; clear hb; clear ho0; obtain ⟨Ao57,co57,eo57⟩:=Kd.S_slice HO393.out; subst eo57) | ((with_reducible refine Qab (f:=15) rfl ?_); refine gl (some 89) Tryd.func15 #[.slice Ao57 t391.length co57] (h := ?_); (with_reducible refine (r4_Row.calls k5 _ _ t391 true _ ?side1 ?side2 ?side3 A51.out).mono ?_); (case side1 => exact cs HO393); (case side2 => exact (Kd.S_reads' HO393.out).2.1); (case side3 => exact (hT.below (bw HB))); rintro e w58 ⟨rfl,hb⟩; refine ⟨_,rfl, ?_⟩; replace HO_12:=rb HO_12 hb; replace HO_386007:=rb HO_386007 hb; replace HO393:=sb HO393 hb; replace BK374:=bl BK374 hb; replace BK385:=bl BK385 hb; replace HB:=bs HB hb; clear hb; obtain ⟨_,_,_,_,_,_,_,_,_,_,_,_,_,_,_,_,_,_,_,_,_,_⟩:=kc11 BK385; obtain ⟨_,_,_,_,_,_,_,_,_,_,_,_,_,_,_,_,_,_,_,_,_,_⟩:=kc11 BK374))
             refine bodyPost_ret (Qch rfl _ _ gb374 55 #[.int .i64 a1, .int .i64 (wrap64 (t384 + 1)), .int .i64 1, .int .i64 x386003_31, .int .i64 x386004_31, .int .i64 x386005_31, .string a4, .slice Ao55 x386007_5.length co55, .int .i64 0, .int .i64 0, .int .i64 0] (0,0) _ rfl (bp11 (kk BK374)) Tryd.underlying55 rfl (by kernel_rfl)) rfl ?_
             exact ⟨_,re,by (with_reducible repeat (first | apply Kd.R_alloc | apply Kd.R_drewN | apply Kd.R_drew)); exact Kd.R_mono (rf11 (Kd.R_types HO_386007.out BK374.out (by decide))) (fun _ hk => trivial),bw HB⟩
            replace c52:=Bool.eq_false_iff.mpr c52
            subst c52
            rw [if_neg nft] at H
            simp only [Option.some.injEq,Prod.mk.injEq] at H
            obtain ⟨rfl,rfl,rfl,rfl,rfl,rfl,rfl,rfl,rfl,rfl,rfl,rfl⟩:=H
            have hnb61:=NB385_374.out
            have hnc61:=NB374_385.out
            obtain ⟨_,_,_,_,_,_,_,_,_,_,_,_,_,_,_,_,_,_,_,_,_,_⟩:=kc11 BK385
            obtain ⟨Ao63,co63,eo63⟩:=Kd.R_slice HO_386007.out
            subst eo63
            go_wp2_with (first | ((with_reducible refine Qab (f:=36) rfl ?_); refine gl (some 88) Tryd.func36 #[.slice A0 l0.length c0, .agg #[.int .i64 a1, .int .i64 (wrap64 (t384 + 1)), .int .i64 1, .int .i64 x386003_31, .int .i64 x386004_31, .int .i64 x386005_31, .string a4, .slice Ao63 x386007_5.length co63, .int .i64 0, .int .i64 0, .int .i64 0]] (h := ?_); (with_reducible refine (r4_Behind.calls k5 _ _ l0 a1 (wrap64 (t384 + 1)) 1 x386003_31 x386004_31 x386005_31 a4 _ _ x386007_5 0 0 0 t391 _ ?side1 ?side2 ?side3 ?side4 A50.out).mono ?_); (case side1 => exact cb HR0 HB); (case side2 => exact HC0.out); (case side3 => exact cr HO_386007); (case side4 => exact (Kd.R_reads' HO_386007.out).2.1); rintro e w64 ⟨v392,rfl,ho0,hb⟩; refine ⟨_,rfl, ?_⟩; have HO393:=Aside0.mk (Kd.S_lower (Kd.S_newB (Kd.S_newB (Kd.S_new' (Kd.S_new' ho0 (Kd.R_lt (rk HO_12))) (Kd.R_lt (rk HO_386007))) (kk BK374)) (kk BK385)) (Qai (bw HB))); replace HO_12:=rb HO_12 hb; replace HO_386007:=rb HO_386007 hb; replace BK374:=bl BK374 hb; replace BK385:=bl BK385 hb; replace HB:=bs HB hb; clear hb; clear ho0; obtain ⟨Ao65,co65,eo65⟩:=Kd.S_slice HO393.out; subst eo65) | ((with_reducible refine Qab (f:=15) rfl ?_); refine gl (some 89) Tryd.func15 #[.slice Ao65 t391.length co65] (h := ?_); (with_reducible refine (r4_Row.calls k5 _ _ t391 false _ ?side1 ?side2 ?side3 A51.out).mono ?_); (case side1 => exact cs HO393); (case side2 => exact (Kd.S_reads' HO393.out).2.1); (case side3 => exact (hT.below (bw HB))); rintro e w66 ⟨rfl,hb⟩; refine ⟨_,rfl, ?_⟩; replace HO_12:=rb HO_12 hb; replace HO_386007:=rb HO_386007 hb; replace HO393:=sb HO393 hb; replace BK374:=bl BK374 hb; replace BK385:=bl BK385 hb; replace HB:=bs HB hb; clear hb; obtain ⟨_,_,_,_,_,_,_,_,_,_,_,_,_,_,_,_,_,_,_,_,_,_⟩:=kc11 BK374))
            refine bodyPost_ret (Qch rfl _ _ gb374 55 #[.int .i64 0, .int .i64 0, .int .i64 0, .int .i64 0, .int .i64 0, .int .i64 0, .string (⟨#[]⟩ : ByteArray), .slice none 0 0, .int .i64 0, .int .i64 0, .int .i64 0] (0,0) _ rfl (bp11 (kk BK374)) Tryd.underlying55 rfl (by kernel_rfl)) rfl ?_
            exact ⟨_,re,by first | exact Kd.R_nil _ _ _ _ _ | exact Kd.N_nil _ _ _ _ _ | exact Kd.V_nil _ _ _ _ _ | exact Kd.Q_nil _ _ _ _ _ | exact Kd.S_nil _ _ _ _ _,bw HB⟩
           rw [if_pos c40] at H
           have c40b0:=decide_eq_true c40
           clear c40
           by_cases c41 : 0 ≤ x16_5; rotate_left
           ·rw [if_neg c41] at H
            exact absurd H (by simp)
           rw [if_pos c41] at H
           have c41b0:=decide_eq_true c41
           clear c41
           by_cases c42 : x16_5 < (t375.length : Int); rotate_left
           ·rw [if_neg c42] at H
            exact absurd H (by simp)
           rw [if_pos c42] at H
           have c42b0:=decide_eq_true c42
           clear c42
           obtain ⟨t388,A43,H⟩:=bE H
           have H':=Aside0.mk H
           clear H
           try go_wp2
           have n0_:=Aside0.mk (Kd.R_drew HO_12.out)
           have n1_:=Aside0.mk (Kd.R_drew HO_386007.out)
           have n2_:=Aside0.mk (Qan BK374.out)
           have n3_:=Aside0.mk (Qan BK385.out)
           have n4_:=Aside0.mk (Qaf HB.out)
           clear HO_12
           clear HO_386007
           clear BK374
           clear BK385
           clear HB
           have HO_12:=n0_
           have HO_386007:=n1_
           have BK374:=n2_
           have BK385:=n3_
           have HB:=n4_
           clear n0_ n1_ n2_ n3_ n4_
           obtain ⟨Ao45,co45,eo45⟩:=Kd.R_slice HO_12.out
           (first | subst eo45 | (injection eo45 with f1_ f2_ f3_; have f4_:=f1_.symm; have f5_:=f3_.symm; clear f1_ f2_ f3_; subst f4_; subst f5_))
           have p387 : 0 ≤ (x16_5 : Int):=od
           have q387 : x16_5 < (t375.length : Int):=od
           obtain ⟨ad387,e387,hx387_0,hx387_1,hx387_2⟩:=Qba (Kd.R_reads' HO_12.out).2.2 x16_5 p387 q387
           cases e387
           replace p387:=eq_true p387
           replace q387:=eq_true q387
           obtain ⟨Ao46,co46,eo46⟩:=Kd.R_slice HO_386007.out
           (first | subst eo46 | (injection eo46 with f1_ f2_ f3_; have f4_:=f1_.symm; have f5_:=f3_.symm; clear f1_ f2_ f3_; subst f4_; subst f5_))
           refine start_ (n:=9) (S:=fun w' => w'.cell? ⟨gb385,0,none⟩ = some (.int .i64 a1) ∧ w'.cell? ⟨gb385,1,none⟩ = some (.int .i64 (wrap64 (t384 + 1))) ∧ w'.cell? ⟨gb385,2,none⟩ = some (.int .i64 1) ∧ w'.cell? ⟨gb385,3,none⟩ = some (.int .i64 x386003_31) ∧ w'.cell? ⟨gb385,4,none⟩ = some (.int .i64 x386004_31) ∧ w'.cell? ⟨gb385,5,none⟩ = some (.int .i64 x386005_31) ∧ w'.cell? ⟨gb385,6,none⟩ = some (.string a4) ∧ w'.cell? ⟨gb385,7,none⟩ = some (.slice Ao46 x386007_5.length co46) ∧ w'.cell? ⟨gb385,8,none⟩ = some (.int .i64 0) ∧ w'.cell? ⟨gb385,9,none⟩ = some (.int .i64 0) ∧ w'.cell? ⟨gb385,10,none⟩ = some (.int .i64 0) ∧ w'.cell? (ad387.add ((x16_5).toNat * 3)) = some (.int .i64 ((Qaa t375 x16_5).f0)) ∧ w'.cell? ⟨(ad387.add ((x16_5).toNat * 3)).block,(ad387.add ((x16_5).toNat * 3)).off + 1,none⟩ = some (.int .i64 ((Qaa t375 x16_5).f1)) ∧ w'.cell? ⟨(ad387.add ((x16_5).toNat * 3)).block,(ad387.add ((x16_5).toNat * 3)).off + 2,none⟩ = some (.int .i64 ((Qaa t375 x16_5).f2))) (ds:=[8]) #[false,false,false,false,false,false,false,false,false] (by kernel_rfl) rfl rfl (b11 BK385 ⟨hx387_0,hx387_1,hx387_2⟩) (fun hHeld => ?_); refine Qas r4_Replace.tab13 r4_Replace.bits13 (fun HT_ HW_ => ?_)
           generalize wr.drew = w44 at HO_12 HO_386007 BK374 BK385 HB hx387_0 hx387_1 hx387_2 hHeld ⊢
           refine Qca (i:=0) (N:=some 78) (v := ?_) (a' := ?_) #[true,false,false,false,false,false,false,false,false] rfl rfl (Qbg HT_.out (by kernel_rfl)) (fun _ _ _ h => h) (Or.inl ⟨by rfl, ?_⟩) ?_ ?_
           rotate_left
           ·intro w'
            go_simp
            with_reducible rfl
           rotate_left
           ·simp only [Act.put,List.setIfInBounds_toArray,List.set_cons_zero,List.set_cons_succ,Qaw,Qay]
            rfl
           refine Qca (i:=2) (N:=some 80) (v := ?_) (a' := ?_) #[true,false,true,false,false,false,false,false,false] rfl rfl (Qbg HT_.out (by kernel_rfl)) (fun _ _ _ h => h) (Or.inl ⟨by rfl, ?_⟩) ?_ ?_
           rotate_left
           ·intro w'
            go_simp
            with_reducible rfl
           rotate_left
           ·simp only [Act.put,List.setIfInBounds_toArray,List.set_cons_zero,List.set_cons_succ,Qaw,Qay]
            rfl
           refine Qca (i:=3) (N:=some 81) (v := ?_) (a' := ?_) #[true,false,true,true,false,false,false,false,false] rfl rfl (Qbg HT_.out (by kernel_rfl)) (fun _ _ _ h => h) (Or.inl ⟨by rfl, ?_⟩) ?_ ?_
           rotate_left
           ·intro w'
            go_simp
            with_reducible rfl
           rotate_left
           ·simp only [Act.put,List.setIfInBounds_toArray,List.set_cons_zero,List.set_cons_succ,Qaw,Qay]
            rfl
           refine Qca (i:=4) (N:=some 82) (v := ?_) (a' := ?_) #[true,false,true,true,true,false,false,false,false] rfl rfl (Qbg HT_.out (by kernel_rfl)) (fun _ _ _ h => h) (Or.inl ⟨by rfl, ?_⟩) ?_ ?_
           rotate_left
           ·intro w'
            go_simp
            with_reducible rfl
           rotate_left
           ·simp only [Act.put,List.setIfInBounds_toArray,List.set_cons_zero,List.set_cons_succ,Qaw,Qay]
            rfl
           refine take_ (i:=1) (N:=some 79) (v := ?_) (a' := ?_) #[true,true,true,true,true,false,false,false,false] rfl rfl (take_ofW HT_.out HW_.out (by kernel_rfl)) (fun _ _ _ h => h) (Or.inl ⟨by rfl, ?_⟩) hHeld ?_ ?_
           rotate_left
           ·rintro w' ⟨s0,s1,s2,s3,s4,s5,s6,s7,s8,s9,s10,s11,s12,s13⟩
            go_simp
            with_reducible rfl
           rotate_left
           ·simp only [Act.put,List.setIfInBounds_toArray,List.set_cons_zero,List.set_cons_succ,Qaw,Qay]
            rfl
           refine take_ (i:=5) (N:=some 83) (v := ?_) (a' := ?_) #[true,true,true,true,true,true,false,false,false] rfl rfl (take_ofW HT_.out HW_.out (by kernel_rfl)) (fun _ _ _ h => h) (Or.inl ⟨by rfl, ?_⟩) hHeld ?_ ?_
           rotate_left
           ·rintro w' ⟨s0,s1,s2,s3,s4,s5,s6,s7,s8,s9,s10,s11,s12,s13⟩
            go_simp
            with_reducible rfl
           rotate_left
           ·simp only [Act.put,List.setIfInBounds_toArray,List.set_cons_zero,List.set_cons_succ,Qaw,Qay]
            rfl
           refine one_ (i:=6) (N:=some 84) #[true,true,true,true,true,true,true,false,false] rfl rfl (one_of HT_.out (by kernel_rfl)) (by decide) (fun K hK => ?_)
           refine gS Tryd.func79 #[.slice Ao46 x386007_5.length co46, .agg #[.int .i64 ((Qaa t375 x16_5).f0), .int .i64 ((Qaa t375 x16_5).f1), .int .i64 ((Qaa t375 x16_5).f2)]] (h := ?_)
           with_reducible refine (r4_put.calls _ _ x386007_5 ((Qaa t375 x16_5).f0) ((Qaa t375 x16_5).f1) ((Qaa t375 x16_5).f2) t388 _ ?side1 ?side2 A43.out).mono ?_
           (case side1 => exact cr HO_386007)
           (case side2 => exact (Kd.R_reads' HO_386007.out).2.1)
           rintro e w47 ⟨v389,rfl,ho0,hb⟩
           have HS11_:=(hb.cell (World.block_lt_of_cell? _ _ (hHeld.2.2.2.2.2.2.2.2.2.2.2.1))).trans (hHeld.2.2.2.2.2.2.2.2.2.2.2.1)
           have HS12_:=(hb.cell (World.block_lt_of_cell? _ _ (hHeld.2.2.2.2.2.2.2.2.2.2.2.2.1))).trans (hHeld.2.2.2.2.2.2.2.2.2.2.2.2.1)
           have HS13_:=(hb.cell (World.block_lt_of_cell? _ _ (hHeld.2.2.2.2.2.2.2.2.2.2.2.2.2))).trans (hHeld.2.2.2.2.2.2.2.2.2.2.2.2.2)
           refine ⟨_,rfl, ?_⟩
           have n0_:=Aside0.mk (Kd.R_elder' (rk HO_12) (Kd.R_base ho0) hb)
           have n1_:=Aside0.mk (Kd.R_elder' (rk HO_386007) (Kd.R_base ho0) hb)
           have n2_:=Aside0.mk (Kd.R_lower (Kd.R_new' (Kd.R_new' ho0 (Kd.R_lt (rk HO_12))) (Kd.R_lt (rk HO_386007))) (Qai (bw HB)))
           have n3_:=bl BK374 hb
           have n4_:=bl BK385 hb
           have n5_:=bs HB hb
           clear HO_12
           clear HO_386007
           clear BK374
           clear BK385
           clear HB
           have HO_12:=n0_
           have HO_386007:=n1_
           have HO390:=n2_
           have BK374:=n3_
           have BK385:=n4_
           have HB:=n5_
           clear n0_ n1_ n2_ n3_ n4_ n5_
           (try clear hb)
           (try clear hb2)
           (try clear hk)
           (try clear hi)
           (try clear ho0)
           obtain ⟨Ao48,co48,eo48⟩:=Kd.R_slice HO390.out
           (first | subst eo48 | (injection eo48 with f1_ f2_ f3_; have f4_:=f1_.symm; have f5_:=f3_.symm; clear f1_ f2_ f3_; subst f4_; subst f5_))
           refine hK.out _ _ (b11 BK385 ⟨HS11_,HS12_,HS13_⟩) (fun hHeld => ?_)
           clear hK K
           refine norm_ (a' := ?_) ?_ ?_
           rotate_left
           ·show Act.put _ (some 84) _ = _
            simp only [Act.put,List.setIfInBounds_toArray,List.set_cons_zero,List.set_cons_succ,Qaw,Qay]
            rfl
           refine Qca (i:=7) (N:=some 85) (v := ?_) (a' := ?_) #[true,true,true,true,true,true,true,true,false] rfl rfl (Qbg HT_.out (by kernel_rfl)) (fun _ _ _ h => h) (Or.inl ⟨by rfl, ?_⟩) ?_ ?_
           rotate_left
           ·intro w'
            go_simp
            with_reducible rfl
           rotate_left
           ·simp only [Act.put,List.setIfInBounds_toArray,List.set_cons_zero,List.set_cons_succ,Qaw,Qay]
            rfl
           refine last_ (i:=8) (N:=none) #[true,true,true,true,true,true,true,true,true] rfl rfl (one_of HT_.out (by kernel_rfl)) (by decide) (fun K hK => ?_)
           have hs49 : w47.cell? ⟨gb385,7,none⟩ = some (.slice Ao46 x386007_5.length co46):=bc BK385 7
           have hfs49:=bf BK385 7
           have hns49_0:=NB374_385.out
           have hms49_0:=NB385_374.out
           refine skip_ (w1 := ?_) (by rfl) rfl ?_ ?_
           rotate_left
           ·go_simp
            rfl
           refine hK.out _ _ ?_
           clear hK K
           refine done_ (done_of HT_.out (by kernel_rfl)) ?_
           try go_wp2
           go_roundg k5
           case measure => have:=HJ7.out; have:=HJ21.out; have:=HJ26.out; have:=HJ31.out; have:=HK5.out; omega
           case rel => exact ⟨(wrap64 (x16_5 + 1)),(t388),(.slice Ao48 t388.length co48),rf,H',⟨by have:=HJ7.out; have:=HJ21.out; have:=HJ26.out; have:=HJ31.out; have:=HK5.out; omega⟩,⟨by (with_reducible repeat (first | apply Kd.R_alloc | apply Kd.R_drewN | apply Kd.R_drew)); exact Kd.R_mono (Kd.R_far (p:=⟨gb385,7,none⟩) (Kd.R_types HO_12.out BK385.out (by decide)) (fun _ hk => hk.2) (.slice Ao48 t388.length co48)) (fun _ hk => hk.1.2)⟩,⟨by (with_reducible repeat (first | apply Kd.R_alloc | apply Kd.R_drewN | apply Kd.R_drew)); exact Kd.R_mono (Kd.R_far (p:=⟨gb385,7,none⟩) (Kd.R_types HO390.out BK385.out (by decide)) (fun _ hk => hk.2) (.slice Ao48 t388.length co48)) (fun _ hk => hk.1.1.2)⟩,⟨kk BK374⟩,⟨bp (kk BK385) 7⟩,⟨bw HB⟩⟩
end
section
attribute [local go_sem] Qbp Qbn Qby Qbx Qbc Qbb Qbo Qbm
attribute [local go_sem high] eqAElem
def tree_Written.f (l0 : List (SOp)) (a1_0 : Int) (a1_1 : Int) (a1_2 : Int) : Option (Bool):=(tree_Find.f l0 a1_0 a1_1).bind fun t396 => (if t396 ≥ 0 then (if a1_2 ≥ 0 then (if 0 ≤ t396 then (if t396 < (l0.length : Int) then ((op_Size.f ((Qad l0 t396).f0) ((Qad l0 t396).f1) ((Qad l0 t396).f2) ((Qad l0 t396).f3.f0) ((Qad l0 t396).f3.f1) ((Qad l0 t396).f3.f2) ((Qad l0 t396).f4) ((Qad l0 t396).f5) ((Qad l0 t396).f6) ((Qad l0 t396).f7) ((Qad l0 t396).f8)).bind fun t398 => (some (decide (a1_2 < t398)))) else (none)) else (none)) else (some false)) else (some false))
def tree_Written.T2 : Bool × List (List Nat × List Nat):=(true,[([],[]),([0],[0]),([1],[1]),([2],[2]),([3,2],[2,3]),([4,2],[2,4]),([2,5],[2,5]),([6,2],[6]),([7],[7]),([8,7],[7,8]),([7],[7]),([7],[7]),([10,11,7],[7,10,11]),([12,7],[7,12]),([13,7,7],[7,13]),([9,14,7],[7,9,14]),([7,15],[7,15]),([16,14,0,1,2,3,4,5,6,7,8,9,10,11,12,13,14,15,16],[16])])
def tree_Written.B2 : List Nat:=[0,1,3,7,15,31,63,127,255,511,255,255,3327,7423,15615,32767,65535,131071]
theorem tree_Written.tab2 : rtab .any (Qcu Tryd.f63 2) = tree_Written.T2:=by kernel_rfl
theorem tree_Written.bits2 : Qax tree_Written.T2.2 tree_Written.B2 = true:=by kernel_rfl
theorem tree_Written.calls (A0 : Option Addr) (c0 : Nat) (l0 : List (SOp)) (a1_0 : Int) (a1_1 : Int) (a1_2 : Int) (r : Bool) (w : World) (hr0 : Kd.C kOp w A0 l0.length l0) (hc0 : l0.length ≤ c0) (h : tree_Written.f l0 a1_0 a1_1 a1_2 = some r) :
  Calls Tryd.prog 63 #[.slice A0 l0.length c0, .agg #[.int .i64 a1_0, .int .i64 a1_1, .int .i64 a1_2]] w fun e w' => e = .returned (.bool r) ∧ Below w.heap.size w w':=by
 have hu43:=Tryd.underlying43
 have hu55:=Tryd.underlying55
 have HR0:=Aside0.mk hr0
 have HC0:=Aside0.mk hc0
 clear hr0 hc0
 have HB:=Aside0.mk (Below.refl w.heap.size w)
 unfold tree_Written.f at h; have H:=h
 clear h
 obtain ⟨t396,A3,H⟩:=bE H
 by_cases c4 : t396 ≥ 0; rotate_left
 ·rw [if_neg c4] at H
  have c4b0:=decide_eq_false c4
  clear c4
  obtain rfl:=Option.some.inj H
  go_enter Tryd.func63,Tryd.ntmps63
  try go_wp2_with (first | ((with_reducible refine Qae (N:=3) rfl ?_); refine bx 3 #[.int .i64 a1_0, .int .i64 a1_1, .int .i64 a1_2] 43 (h := ?_); intro gb395 hg w18 hbox hb; have BK395:=Aside0.mk (hbox); have GW395:=bz HB hg; have GE395:=bz HB hg; replace HB:=bs HB hb; clear hb hbox hg; obtain ⟨_,_,_,_,_,_⟩:=kc3 BK395) | ((with_reducible refine Qab (f:=103) rfl ?_); refine gl (some 11) Tryd.func103 #[.slice A0 l0.length c0, .int .i64 a1_0, .int .i64 a1_1] (h := ?_); (with_reducible refine (tree_Find.calls _ _ l0 a1_0 a1_1 t396 _ ?side1 ?side2 A3.out).mono ?_); (case side1 => exact cb HR0 HB); (case side2 => exact HC0.out); rintro e w20 ⟨rfl,hb⟩; refine ⟨_,rfl, ?_⟩; replace BK395:=bl BK395 hb; replace HB:=bs HB hb; clear hb))
  have n0_:=Aside0.mk (Qan BK395.out)
  have n1_:=Aside0.mk (Qaf HB.out)
  clear BK395
  clear HB
  have BK395:=n0_
  have HB:=n1_
  clear n0_ n1_
  refine stP (fun w' => True) 18 trivial (h:=fun hHeld => ?_); refine Qas tree_Written.tab2 tree_Written.bits2 (fun HT_ HW_ => ?_)
  generalize w20.drew = w21 at BK395 HB hHeld ⊢
  refine pu HT_ 0 12 1 (h := ?_)
  refine pu HT_ 1 13 3 (h := ?_)
  refine pu HT_ 2 14 7 (h := ?_)
  refine off HT_ 3 15 15 (h := ?_)
  refine off HT_ 4 16 31 (h := ?_)
  refine off HT_ 5 17 63 (h := ?_)
  refine pu HT_ 6 18 127 (h := ?_)
  refine pu HT_ 7 19 255 (h := ?_)
  refine off HT_ 8 20 511 (h := ?_)
  refine off HT_ 9 21 1023 (h := ?_)
  refine off HT_ 10 22 2047 (h := ?_)
  refine off HT_ 11 23 4095 (h := ?_)
  refine off HT_ 12 24 8191 (h := ?_)
  refine off HT_ 13 25 16383 (h := ?_)
  refine off HT_ 14 26 32767 (h := ?_)
  refine off HT_ 15 27 65535 (h := ?_)
  refine pu HT_ 16 28 131071 (h := ?_)
  refine pu HT_ 17 4 262143 (h := ?_)
  refine dn HT_ (h := ?_)
  try go_wp2
  go_ret
  exact ⟨re,bw HB⟩
 rw [if_pos c4] at H
 have c4b0:=decide_eq_true c4
 clear c4
 by_cases c5 : a1_2 ≥ 0; rotate_left
 ·rw [if_neg c5] at H
  have c5b0:=decide_eq_false c5
  clear c5
  obtain rfl:=Option.some.inj H
  go_enter Tryd.func63,Tryd.ntmps63
  try go_wp2_with (first | ((with_reducible refine Qae (N:=3) rfl ?_); refine bx 3 #[.int .i64 a1_0, .int .i64 a1_1, .int .i64 a1_2] 43 (h := ?_); intro gb395 hg w14 hbox hb; have BK395:=Aside0.mk (hbox); have GW395:=bz HB hg; have GE395:=bz HB hg; replace HB:=bs HB hb; clear hb hbox hg; obtain ⟨_,_,_,_,_,_⟩:=kc3 BK395) | ((with_reducible refine Qab (f:=103) rfl ?_); refine gl (some 11) Tryd.func103 #[.slice A0 l0.length c0, .int .i64 a1_0, .int .i64 a1_1] (h := ?_); (with_reducible refine (tree_Find.calls _ _ l0 a1_0 a1_1 t396 _ ?side1 ?side2 A3.out).mono ?_); (case side1 => exact cb HR0 HB); (case side2 => exact HC0.out); rintro e w16 ⟨rfl,hb⟩; refine ⟨_,rfl, ?_⟩; replace BK395:=bl BK395 hb; replace HB:=bs HB hb; clear hb))
  have n0_:=Aside0.mk (Qan BK395.out)
  have n1_:=Aside0.mk (Qaf HB.out)
  clear BK395
  clear HB
  have BK395:=n0_
  have HB:=n1_
  clear n0_ n1_
  refine stP (fun w' => E3 w' gb395 (.int .i64 a1_0) (.int .i64 a1_1) (.int .i64 a1_2)) 18 (e3 BK395) (h:=fun hHeld => ?_); refine Qas tree_Written.tab2 tree_Written.bits2 (fun HT_ HW_ => ?_)
  generalize w16.drew = w17 at BK395 HB hHeld ⊢
  refine pu HT_ 0 12 1 (h := ?_)
  refine pu HT_ 1 13 3 (h := ?_)
  refine pu HT_ 2 14 7 (h := ?_)
  refine pu HT_ 3 15 15 (h := ?_)
  refine tk HT_ HW_ hHeld 4 16 31 (h := ?_)
  refine pu HT_ 5 17 63 (h := ?_)
  refine pu HT_ 6 18 127 (h := ?_)
  refine pu HT_ 7 19 255 (h := ?_)
  refine off HT_ 8 20 511 (h := ?_)
  refine off HT_ 9 21 1023 (h := ?_)
  refine off HT_ 10 22 2047 (h := ?_)
  refine off HT_ 11 23 4095 (h := ?_)
  refine off HT_ 12 24 8191 (h := ?_)
  refine off HT_ 13 25 16383 (h := ?_)
  refine off HT_ 14 26 32767 (h := ?_)
  refine off HT_ 15 27 65535 (h := ?_)
  refine pu HT_ 16 28 131071 (h := ?_)
  refine pu HT_ 17 4 262143 (h := ?_)
  refine dn HT_ (h := ?_)
  try go_wp2
  go_ret
  exact ⟨re,bw HB⟩
 rw [if_pos c5] at H
 have c5b0:=decide_eq_true c5
 clear c5
 by_cases c6 : 0 ≤ t396; rotate_left
 ·rw [if_neg c6] at H
  exact absurd H (by simp)
 rw [if_pos c6] at H
 have c6b0:=decide_eq_true c6
 clear c6
 by_cases c7 : t396 < (l0.length : Int); rotate_left
 ·rw [if_neg c7] at H
  exact absurd H (by simp)
 rw [if_pos c7] at H
 have c7b0:=decide_eq_true c7
 clear c7
 obtain ⟨t398,A8,H⟩:=bE H
 obtain rfl:=Option.some.inj H
 go_enter Tryd.func63,Tryd.ntmps63
 try go_wp2_with (first | ((with_reducible refine Qae (N:=3) rfl ?_); refine bx 3 #[.int .i64 a1_0, .int .i64 a1_1, .int .i64 a1_2] 43 (h := ?_); intro gb395 hg w9 hbox hb; have BK395:=Aside0.mk (hbox); have GW395:=bz HB hg; have GE395:=bz HB hg; replace HB:=bs HB hb; clear hb hbox hg; obtain ⟨_,_,_,_,_,_⟩:=kc3 BK395) | ((with_reducible refine Qab (f:=103) rfl ?_); refine gl (some 11) Tryd.func103 #[.slice A0 l0.length c0, .int .i64 a1_0, .int .i64 a1_1] (h := ?_); (with_reducible refine (tree_Find.calls _ _ l0 a1_0 a1_1 t396 _ ?side1 ?side2 A3.out).mono ?_); (case side1 => exact cb HR0 HB); (case side2 => exact HC0.out); rintro e w11 ⟨rfl,hb⟩; refine ⟨_,rfl, ?_⟩; replace BK395:=bl BK395 hb; replace HB:=bs HB hb; clear hb))
 have n0_:=Aside0.mk (Qan BK395.out)
 have n1_:=Aside0.mk (Qaf HB.out)
 clear BK395
 clear HB
 have BK395:=n0_
 have HB:=n1_
 clear n0_ n1_
 have p397 : 0 ≤ (t396 : Int):=od
 have q397 : t396 < (l0.length : Int):=od
 obtain ⟨ad397,A397_7,c397_7,e397,hx397_0,hx397_1,hx397_2,hx397_3,hx397_4,hx397_5,hx397_6,hx397_7,hx397_8,hx397_9,hx397_10,hl397_7,hi397_7⟩:=Qck HR0.out t396 p397 q397
 have hw397_10:=hx397_10
 have hw397_9:=hx397_9
 have hw397_8:=hx397_8
 have hw397_7:=hx397_7
 have hw397_6:=hx397_6
 have hw397_5:=hx397_5
 have hw397_4:=hx397_4
 have hw397_3:=hx397_3
 have hw397_2:=hx397_2
 have hw397_1:=hx397_1
 have hw397_0:=hx397_0
 cases e397
 replace hx397_0:=cl HB hx397_0
 replace hx397_1:=cl HB hx397_1
 replace hx397_2:=cl HB hx397_2
 replace hx397_3:=cl HB hx397_3
 replace hx397_4:=cl HB hx397_4
 replace hx397_5:=cl HB hx397_5
 replace hx397_6:=cl HB hx397_6
 replace hx397_7:=cl HB hx397_7
 replace hx397_8:=cl HB hx397_8
 replace hx397_9:=cl HB hx397_9
 replace hx397_10:=cl HB hx397_10
 have HR397_7:=Aside0.mk hi397_7
 have HC397_7:=Aside0.mk hl397_7
 clear hi397_7 hl397_7
 replace p397:=eq_true p397
 replace q397:=eq_true q397
 refine stP (fun w' => B3 w' gb395 (.int .i64 a1_0) (.int .i64 a1_1) (.int .i64 a1_2) (Q11 w' (ad397.add ((t396).toNat * 11)) (Qad l0 t396) A397_7 c397_7)) 18 (b3 BK395 ⟨(cW HB hw397_0),(cW HB hw397_1),(cW HB hw397_2),(cW HB hw397_3),(cW HB hw397_4),(cW HB hw397_5),(cW HB hw397_6),(cW HB hw397_7),(cW HB hw397_8),(cW HB hw397_9),(cW HB hw397_10)⟩) (h:=fun hHeld => ?_); refine Qas tree_Written.tab2 tree_Written.bits2 (fun HT_ HW_ => ?_)
 generalize w11.drew = w12 at BK395 HB HR397_7 hx397_0 hx397_1 hx397_10 hx397_2 hx397_3 hx397_4 hx397_5 hx397_6 hx397_7 hx397_8 hx397_9 hHeld ⊢
 refine pu HT_ 0 12 1 (h := ?_)
 refine pu HT_ 1 13 3 (h := ?_)
 refine pu HT_ 2 14 7 (h := ?_)
 refine pu HT_ 3 15 15 (h := ?_)
 refine tk HT_ HW_ hHeld 4 16 31 (h := ?_)
 refine pu HT_ 5 17 63 (h := ?_)
 refine pu HT_ 6 18 127 (h := ?_)
 refine pu HT_ 7 19 255 (h := ?_)
 refine pu HT_ 8 20 511 (h := ?_)
 refine pu HT_ 10 22 1535 (h := ?_)
 refine pu HT_ 11 23 3583 (h := ?_)
 refine pu HT_ 12 24 7679 (h := ?_)
 refine tk HT_ HW_ hHeld 9 21 8191 (h := ?_)
 refine tk HT_ HW_ hHeld 13 25 16383 (h := ?_)
 refine on HT_ 14 (some 26) 32767 (h:=fun K hK => ?_)
 refine gS Tryd.func95 #[.agg #[.int .i64 ((Qad l0 t396).f0), .int .i64 ((Qad l0 t396).f1), .int .i64 ((Qad l0 t396).f2), .int .i64 ((Qad l0 t396).f3.f0), .int .i64 ((Qad l0 t396).f3.f1), .int .i64 ((Qad l0 t396).f3.f2), .string ((Qad l0 t396).f4), .slice A397_7 ((Qad l0 t396).f5).length c397_7, .int .i64 ((Qad l0 t396).f6), .int .i64 ((Qad l0 t396).f7), .int .i64 ((Qad l0 t396).f8)]] (h := ?_)
 with_reducible refine (op_Size.calls ((Qad l0 t396).f0) ((Qad l0 t396).f1) ((Qad l0 t396).f2) ((Qad l0 t396).f3.f0) ((Qad l0 t396).f3.f1) ((Qad l0 t396).f3.f2) ((Qad l0 t396).f4) _ _ ((Qad l0 t396).f5) ((Qad l0 t396).f6) ((Qad l0 t396).f7) ((Qad l0 t396).f8) t398 _ ?side1 ?side2 A8.out).mono ?_
 (case side1 => exact cb HR397_7 HB)
 (case side2 => exact HC397_7.out)
 rintro e w13 ⟨rfl,hb⟩
 refine ⟨_,rfl, ?_⟩
 have n0_:=bl BK395 hb
 have n1_:=bs HB hb
 clear BK395
 clear HB
 have BK395:=n0_
 have HB:=n1_
 clear n0_ n1_
 (try clear hb)
 (try clear hb2)
 (try clear hk)
 (try clear hi)
 refine hK.out _ _ (b3 BK395 ⟨(cW HB hw397_0),(cW HB hw397_1),(cW HB hw397_2),(cW HB hw397_3),(cW HB hw397_4),(cW HB hw397_5),(cW HB hw397_6),(cW HB hw397_7),(cW HB hw397_8),(cW HB hw397_9),(cW HB hw397_10)⟩) (fun hHeld => ?_)
 clear hK K
 refine nn 26 (h := ?_)
 refine pu HT_ 15 27 65535 (h := ?_)
 refine pu HT_ 16 28 131071 (h := ?_)
 refine pu HT_ 17 4 262143 (h := ?_)
 refine dn HT_ (h := ?_)
 try go_wp2
 go_ret
 exact ⟨re,bw HB⟩
def caret_asked.f (l0 : List (SOp)) (a1_0 : Int) (a1_1 : Int) (a1_2 : Int) : Option (Int):=(tree_May.f l0).bind fun t400 => (if t400 = true then (if (!(a1_0 == 0) || (!(a1_1 == 0) || (!(a1_2 == 0)))) = true then ((tree_Written.f l0 a1_0 a1_1 a1_2).bind fun t401 => (if t401 = true then (some 0) else (some 3))) else (some 0)) else (some 1))
theorem caret_asked.calls (A0 : Option Addr) (c0 : Nat) (l0 : List (SOp)) (a1_0 : Int) (a1_1 : Int) (a1_2 : Int) (r : Int) (w : World) (hr0 : Kd.C kOp w A0 l0.length l0) (hc0 : l0.length ≤ c0) (h : caret_asked.f l0 a1_0 a1_1 a1_2 = some r) :
  Calls Tryd.prog 80 #[.slice A0 l0.length c0, .agg #[.int .i64 a1_0, .int .i64 a1_1, .int .i64 a1_2]] w fun e w' => e = .returned (.int .i64 r) ∧ Below w.heap.size w w':=by
 have hu43:=Tryd.underlying43
 have HR0:=Aside0.mk hr0
 have HC0:=Aside0.mk hc0
 clear hr0 hc0
 have HB:=Aside0.mk (Below.refl w.heap.size w)
 unfold caret_asked.f at h; have H:=h
 clear h
 obtain ⟨t400,A3,H⟩:=bE H
 by_cases c4 : t400 = true; rotate_left
 ·replace c4:=Bool.eq_false_iff.mpr c4
  subst c4
  rw [if_neg nft] at H
  obtain rfl:=Option.some.inj H
  go_enter Tryd.func80,Tryd.ntmps80
  go_wp2_with (first | ((with_reducible refine Qae (N:=3) rfl ?_); refine bx 3 #[.int .i64 a1_0, .int .i64 a1_1, .int .i64 a1_2] 43 (h := ?_); intro gb399 hg w19 hbox hb; have BK399:=Aside0.mk (hbox); have GW399:=bz HB hg; have GE399:=bz HB hg; replace HB:=bs HB hb; clear hb hbox hg) | ((with_reducible refine Qab (f:=60) rfl ?_); refine gl (some 7) Tryd.func60 #[.slice A0 l0.length c0] (h := ?_); (with_reducible refine (tree_May.calls _ _ l0 false _ ?side1 ?side2 A3.out).mono ?_); (case side1 => exact cb HR0 HB); (case side2 => exact HC0.out); rintro e w20 ⟨rfl,hb⟩; refine ⟨_,rfl, ?_⟩; replace BK399:=bl BK399 hb; replace HB:=bs HB hb; clear hb))
  go_ret
  exact ⟨re,bw HB⟩
 subst c4
 rw [if_pos rfl] at H
 by_cases c5 : (!(a1_0 == 0) || (!(a1_1 == 0) || (!(a1_2 == 0)))) = true; rotate_left
 ·rw [if_neg c5] at H
  have c5b0 : (!(a1_0 == 0) || (!(a1_1 == 0) || (!(a1_2 == 0)))) = false:=by simpa using c5
  clear c5
  obtain rfl:=Option.some.inj H
  go_enter Tryd.func80,Tryd.ntmps80
  go_wp2_with (first | ((with_reducible refine Qae (N:=3) rfl ?_); refine bx 3 #[.int .i64 a1_0, .int .i64 a1_1, .int .i64 a1_2] 43 (h := ?_); intro gb399 hg w16 hbox hb; have BK399:=Aside0.mk (hbox); have GW399:=bz HB hg; have GE399:=bz HB hg; replace HB:=bs HB hb; clear hb hbox hg) | ((with_reducible refine Qab (f:=60) rfl ?_); refine gl (some 7) Tryd.func60 #[.slice A0 l0.length c0] (h := ?_); (with_reducible refine (tree_May.calls _ _ l0 true _ ?side1 ?side2 A3.out).mono ?_); (case side1 => exact cb HR0 HB); (case side2 => exact HC0.out); rintro e w17 ⟨rfl,hb⟩; refine ⟨_,rfl, ?_⟩; replace BK399:=bl BK399 hb; replace HB:=bs HB hb; clear hb; obtain ⟨_,_,_,_,_,_⟩:=kc3 BK399))
  go_ret
  exact ⟨re,bw HB⟩
 rw [if_pos c5] at H
 have c5b0 : (!(a1_0 == 0) || (!(a1_1 == 0) || (!(a1_2 == 0)))) = true:=c5
 clear c5
 obtain ⟨t401,A6,H⟩:=bE H
 by_cases c7 : t401 = true
 ·subst c7
  rw [if_pos rfl] at H
  obtain rfl:=Option.some.inj H
  go_enter Tryd.func80,Tryd.ntmps80
  go_wp2_with (first | ((with_reducible refine Qae (N:=3) rfl ?_); refine bx 3 #[.int .i64 a1_0, .int .i64 a1_1, .int .i64 a1_2] 43 (h := ?_); intro gb399 hg w8 hbox hb; have BK399:=Aside0.mk (hbox); have GW399:=bz HB hg; have GE399:=bz HB hg; replace HB:=bs HB hb; clear hb hbox hg) | ((with_reducible refine Qab (f:=60) rfl ?_); refine gl (some 7) Tryd.func60 #[.slice A0 l0.length c0] (h := ?_); (with_reducible refine (tree_May.calls _ _ l0 true _ ?side1 ?side2 A3.out).mono ?_); (case side1 => exact cb HR0 HB); (case side2 => exact HC0.out); rintro e w9 ⟨rfl,hb⟩; refine ⟨_,rfl, ?_⟩; replace BK399:=bl BK399 hb; replace HB:=bs HB hb; clear hb; obtain ⟨_,_,_,_,_,_⟩:=kc3 BK399) | (go_at_call 63; (with_reducible refine (tree_Written.calls _ _ l0 a1_0 a1_1 a1_2 true _ ?side1 ?side2 A6.out).mono ?_); (case side1 => exact cb HR0 HB); (case side2 => exact HC0.out); rintro e w11 ⟨rfl,hb⟩; replace BK399:=bl BK399 hb; replace HB:=bs HB hb; clear hb))
  go_ret
  exact ⟨re,bw HB⟩
 replace c7:=Bool.eq_false_iff.mpr c7
 subst c7
 rw [if_neg nft] at H
 obtain rfl:=Option.some.inj H
 go_enter Tryd.func80,Tryd.ntmps80
 go_wp2_with (first | ((with_reducible refine Qae (N:=3) rfl ?_); refine bx 3 #[.int .i64 a1_0, .int .i64 a1_1, .int .i64 a1_2] 43 (h := ?_); intro gb399 hg w12 hbox hb; have BK399:=Aside0.mk (hbox); have GW399:=bz HB hg; have GE399:=bz HB hg; replace HB:=bs HB hb; clear hb hbox hg) | ((with_reducible refine Qab (f:=60) rfl ?_); refine gl (some 7) Tryd.func60 #[.slice A0 l0.length c0] (h := ?_); (with_reducible refine (tree_May.calls _ _ l0 true _ ?side1 ?side2 A3.out).mono ?_); (case side1 => exact cb HR0 HB); (case side2 => exact HC0.out); rintro e w13 ⟨rfl,hb⟩; refine ⟨_,rfl, ?_⟩; replace BK399:=bl BK399 hb; replace HB:=bs HB hb; clear hb; obtain ⟨_,_,_,_,_,_⟩:=kc3 BK399) | (go_at_call 63; (with_reducible refine (tree_Written.calls _ _ l0 a1_0 a1_1 a1_2 false _ ?side1 ?side2 A6.out).mono ?_); (case side1 => exact cb HR0 HB); (case side2 => exact HC0.out); rintro e w15 ⟨rfl,hb⟩; replace BK399:=bl BK399 hb; replace HB:=bs HB hb; clear hb))
 go_ret
 exact ⟨re,bw HB⟩
end
section
theorem doc_Seen_f {L : List SOp} (hs : smalls L = true) (h : RowOk L) : doc_Seen.f L = some (Qbh L):=by unfold doc_Seen.f; exact if_pos ⟨hs,(Qdi L).2 h⟩
theorem seen_len {L : List SOp} (h : RowOk L) : (Qbh L).length ≤ 200:=Nat.le_trans (List.length_filter_le _ _) (by rw [(Qdd h).2]; exact h.sums.2)
end
section
theorem cntR_app (l : List SOp) (o : SOp) (s q : Int) : cntR (l ++ [o]) s q = cntStep s q (cntR l s q) o:=by unfold cntR; rw [List.foldl_append]; rfl
theorem any_same {α : Type} : ∀ (ms : List α) (f g : α → Bool),(∀ o ∈ ms,f o = g o) → ms.any f = ms.any g
 | [],_,_,_ => rfl
 | o :: ms,f,g,h => by rw [List.any_cons,List.any_cons,h o List.mem_cons_self,any_same ms f g (fun x hx => h x (List.mem_cons_of_mem _ hx))]
theorem any_no {α : Type} (ms : List α) (f : α → Bool) (h : ∀ o ∈ ms,f o = false) : ms.any f = false:=by
 rw [any_same ms f (fun _ => false) h]; simp
theorem workE_cnt {L M : List SOp} {o : SOp} (h : cntR M o.f0 o.f1 = cntR L o.f0 o.f1) : Qbk M o = Qbk L o:=by unfold Qbk; rw [h]
theorem workE_tog (m : List SOp) {t : SOp} (h2 : t.f2 = 2) : Qbk m t = false:=by unfold Qbk; rw [h2]; rfl
theorem tog_seen {l ts : List SOp} (ho : ordL (l ++ ts) = ordL l) (h2 : ∀ t ∈ ts,t.f2 = 2) (hw : ∀ o ∈ l,Qbk (l ++ ts) o = Qbk l o) : Qbh (l ++ ts) = Qbh l:=by
 unfold Qbh
 rw [ho]
 refine List.filter_congr fun e _ => ?_
 have key : ∀ f : SOp → Bool,((l ++ ts).any fun o => Qbk (l ++ ts) o && f o) = (l.any fun o => Qbk l o && f o):=by
  intro f
  rw [List.any_append,any_no ts _ (fun t ht => by rw [workE_tog _ (h2 t ht)]; rfl),Bool.or_false]
  exact any_same l _ _ (fun o ho => by rw [hw o ho])
 unfold goneE thereE
 rw [key,key]
theorem tog_ord {l : List SOp} {t : SOp} (hn : NextOk l t) (h2 : t.f2 = 2) : ordL (l ++ [t]) = ordL l:=by
 rw [ordL_app]
 have h0:=(Qco hn.ok).2 h2
 have hc : Qbd t = []:=List.eq_nil_of_length_eq_zero (by rw [Qdf,h0])
 rcases Qcp hn.ok with ⟨h1,_⟩ | ⟨_,ht⟩
 ·omega
 ·unfold Qce at ht
  simp only [Bool.and_eq_true] at ht
  unfold insO
  rw [if_pos ht.1.1.2,hc,List.nil_append]
end
section
def idxE (l : List SElem) (e : SElem) : Int:=Qbf (fun i => decide (Qaa l (i : Int) = e)) l.length l.length 0
theorem eqE_iff (x : SElem) (a b c : Int) : (x.f0 == a && (x.f1 == b && (x.f2 == c))) = decide (x = ⟨a,b,c⟩):=by
 rw [Bool.eq_iff_iff]
 simp only [Bool.and_eq_true,beq_iff_eq,decide_eq_true_eq]
 exact ⟨fun h => SElem.ext3 h.1 h.2.1 h.2.2,fun h => by subst h; exact ⟨rfl,rfl,rfl⟩⟩
theorem At_loop (l : List SElem) (hl : l.length ≤ 1000000000) (a b c : Int) : ∀ d i,i + d = l.length → Ev (fun k => r0_At.l0 k l (i : Int) a b c) (Qbf (fun i => decide (Qaa l (i : Int) = ⟨a,b,c⟩)) l.length d i)
 | 0,i,h => Ev.step (f:=fun _ => some (-1)) (fun k => by simp only [r0_At.l0]; rw [if_neg (by omega)]) (Ev.now _)
 | d + 1,i,h => by
  have ih:=At_loop l hl a b c d (i + 1) (by omega)
  unfold Qbf
  rw [if_pos (show i < l.length by omega)]
  by_cases he : Qaa l (i : Int) = ⟨a,b,c⟩
  ·rw [if_pos (by simp [he])]
   refine Ev.step (f:=fun _ => some (i : Int)) (fun k => ?_) (Ev.now _)
   simp only [r0_At.l0,eqE_iff]
   rw [if_pos (by omega),if_pos (by omega),if_pos (by simp [he])]
  ·rw [if_neg (by simp [he])]
   refine Ev.step (fun k => ?_) ih
   simp only [r0_At.l0,eqE_iff]
   rw [if_pos (by omega),if_pos (by omega),if_neg (by simp [he]),Qdh (show i < l.length by omega) (by omega)]
theorem At_ev (l : List SElem) (hl : l.length ≤ 1000000000) (e : SElem) : Ev (fun k => r0_At.f k l e.f0 e.f1 e.f2) (idxE l e) :=
 At_loop l hl e.f0 e.f1 e.f2 l.length 0 (Nat.zero_add _)
theorem idxE_cases (l : List SElem) (e : SElem) : (∃ i,∃ h : i < l.length,l[i] = e ∧ (∀ j (hj : j < i),l[j]'(by omega) ≠ e) ∧ idxE l e = (i : Int)) ∨ (e ∉ l ∧ idxE l e = -1):=by
 unfold idxE
 rcases firstAt_cases (fun i => decide (Qaa l (i : Int) = e)) l.length with ⟨i,h1,h2,h3,h4⟩ | ⟨h1,h2⟩
 ·refine .inl ⟨i,h1, ?_,fun j hj => ?_,h4⟩
  ·rw [Qat _ _ h1] at h2; simpa using h2
  ·have:=h3 j hj
   rw [Qat _ _ (by omega)] at this; simpa using this
 ·refine .inr ⟨fun hm => ?_,h2⟩
  obtain ⟨i,hi,rfl⟩:=List.getElem_of_mem hm
  have:=h1 i hi
  rw [Qat _ _ hi] at this; simp at this
theorem idxE_nonneg (l : List SElem) (e : SElem) : 0 ≤ idxE l e ↔ e ∈ l:=by
 rcases idxE_cases l e with ⟨i,h,rfl,_,e'⟩ | ⟨hn,e'⟩
 ·rw [e']; exact ⟨fun _ => List.getElem_mem h,fun _ => by omega⟩
 ·rw [e']; exact ⟨fun h => by omega,fun h => absurd h hn⟩
end
section
def uptoR (l : List SOp) (e : SElem) : List SElem:=(Qbh l).filter fun x => decide (x ∈ (ordL l).take (idxE (ordL l) e + 1).toNat)
theorem take_idx {l : List SElem} {i : Nat} (hi : i < l.length) (hn : l.Nodup) : idxE l l[i] = (i : Int):=by
 rcases idxE_cases l l[i] with ⟨j,hj,he,_,e⟩ | ⟨hno,_⟩
 ·rw [e]; have:=(List.getElem_inj hn).1 he; omega
 ·exact absurd (List.getElem_mem hi) hno
theorem filter_upto (O : List SElem) (hn : O.Nodup) (p : SElem → Bool) {j : Nat} (hj : j < (O.filter p).length) :
  (O.filter p).filter (fun x => decide (x ∈ O.take (idxE O (O.filter p)[j] + 1).toNat)) = (O.filter p).take (j + 1):=by
 have hm:=List.getElem_mem hj
 have hx:=(List.mem_filter.1 hm)
 obtain ⟨i,hi,ex⟩:=List.getElem_of_mem hx.1
 generalize hxe : (O.filter p)[j] = x at hm hx ex ⊢
 have e1 : (idxE O x + 1).toNat = i + 1:=by rw [← ex,take_idx hi hn]; omega
 rw [e1]
 have hO : O = O.take (i + 1) ++ O.drop (i + 1):=(List.take_append_drop _ _).symm
 have ht : O.take (i + 1) = O.take i ++ [x]:=by rw [List.take_succ_eq_append_getElem hi,ex]
 have hnd:=hn
 rw [hO] at hnd
 have hdis:=(List.nodup_append.1 hnd).2.2
 have hf : O.filter p = (O.take (i + 1)).filter p ++ (O.drop (i + 1)).filter p:=by rw [← List.filter_append,← hO]
 have hlen : ((O.take (i + 1)).filter p).length = j + 1:=by
  have h1 : (O.take (i + 1)).filter p = (O.take i).filter p ++ [x]:=by rw [ht,List.filter_append]; congr 1; rw [List.filter_cons,if_pos hx.2]; rfl
  have h2 : ((O.take i).filter p).length < (O.filter p).length:=by rw [hf,h1,List.length_append,List.length_append,List.length_singleton]; omega
  have h3 : (O.filter p)[((O.take i).filter p).length] = x:=by
   have : (O.filter p)[((O.take i).filter p).length]? = some x:=by rw [hf,h1,List.append_assoc,List.getElem?_append_right (Nat.le_refl _),Nat.sub_self]; rfl
   rw [List.getElem?_eq_getElem h2] at this
   exact Option.some.inj this
  have h4:=(List.getElem_inj (hn.filter p)).1 (h3.trans hxe.symm)
  rw [h1,List.length_append,List.length_singleton,h4]
 have ha : ((O.take (i + 1)).filter p).filter (fun y => decide (y ∈ O.take (i + 1))) = (O.take (i + 1)).filter p:=List.filter_eq_self.2 fun y hy => decide_eq_true ((List.mem_filter.1 hy).1)
 have hb : ((O.drop (i + 1)).filter p).filter (fun y => decide (y ∈ O.take (i + 1))) = []:=List.filter_eq_nil_iff.2 fun y hy => by
  rw [decide_eq_true_eq]
  exact fun hy2 => hdis y hy2 y ((List.mem_filter.1 hy).1) rfl
 rw [hf,List.filter_append,ha,hb,List.append_nil,← hlen,List.take_append_of_le_length (Nat.le_refl _),List.take_length]
theorem upto_at {L : List SOp} (h : RowOk L) {j : Nat} (hj : j < (Qbh L).length) : uptoR L (Qbh L)[j] = (Qbh L).take (j + 1):=filter_upto (ordL L) (Qdd h).1 _ hj
theorem begin_not {L : List SOp} (h : RowOk L) {e : SElem} (he : Qam e = true) : e ∉ ordL L:=by
 intro hm
 obtain ⟨p,hp,e0,_,_,_⟩:=(mem_ordL h e).1 hm
 have:=(opOk_pos (h.oks p hp)).1
 unfold Qam at he
 simp only [Bool.and_eq_true,beq_iff_eq] at he
 omega
theorem upto_none {L : List SOp} {e : SElem} (he : e ∉ ordL L) : uptoR L e = []:=by
 unfold uptoR
 rcases idxE_cases (ordL L) e with ⟨i,hi,hh,_,_⟩ | ⟨_,e1⟩
 ·exact absurd (by rw [← hh]; exact List.getElem_mem hi) he
 ·rw [e1]
  show List.filter (fun x => decide (x ∈ (ordL L).take 0)) _ = _
  simp
theorem upto_tog {L ts : List SOp} (ho : ordL (L ++ ts) = ordL L) (hs : Qbh (L ++ ts) = Qbh L) (e : SElem) : uptoR (L ++ ts) e = uptoR L e:=by
 unfold uptoR; rw [ho,hs]
theorem written_tog {L : List SOp} {t : SOp} (h : RowOk L) (hn : NextOk L t) (h2 : t.f2 = 2) (e : SElem) : Qcc (L ++ [t]) e = Qcc L e:=by
 have hr:=RowOk.snoc h hn
 rw [Bool.eq_iff_iff,mem_written hr,mem_written h,tog_ord hn h2]
theorem cnt_other {L : List SOp} {o : SOp} (h1 : o.f2 ≠ 2) (s q : Int) : cntR (L ++ [o]) s q = cntR L s q:=by
 rw [cntR_app]; unfold cntStep; rw [if_neg (fun hh => h1 hh.1)]
theorem cnt_fresh {L : List SOp} (h : RowOk L) : ∀ {s q : Int},(∀ p ∈ L,¬ (p.f0 = s ∧ p.f1 = q)) → cntR L s q = 0:=by
 induction h with
 | nil => intro s q _; rfl
 | snoc h1 h2 ih =>
  rename_i l o
  intro s q hf
  rw [cntR_app,ih (fun p hp => hf p (List.mem_append_left _ hp))]
  unfold cntStep
  rw [if_neg]
  rintro ⟨k2,e6,e7,_⟩
  obtain ⟨p,hp,_,e0,e1⟩:=h2.tog k2
  exact hf p (List.mem_append_left _ hp) ⟨by rw [e0,e6],by rw [e1,e7]⟩
theorem del_ord {L : List SOp} {o : SOp} (hn : NextOk L o) (h0 : Qal o = 0) (hb : Qam o.f3 = true) : ordL (L ++ [o]) = ordL L:=by
 rw [ordL_app]
 have hc : Qbd o = []:=List.eq_nil_of_length_eq_zero (by rw [Qdf,h0])
 unfold insO
 rw [if_pos hb,hc,List.nil_append]
theorem del_seen {L : List SOp} {o : SOp} (h : RowOk L) (hn : NextOk L o) (h1 : o.f2 = 1) (h0 : Qal o = 0) (hb : Qam o.f3 = true) {x : SElem} (hg : o.f5 = [x]) : Qbh (L ++ [o]) = (Qbh L).filter fun e => !decide (e = x):=by
 have hc : Qbd o = []:=List.eq_nil_of_length_eq_zero (by rw [Qdf,h0])
 have hw : ∀ p,Qbk (L ++ [o]) p = Qbk L p:=fun p => workE_cnt (cnt_other (by omega) _ _)
 have hwo : Qbk (L ++ [o]) o = true:=by
  unfold Qbk
  rw [cnt_other (by omega),cnt_fresh h (hn.fresh h),h1]; rfl
 unfold Qbh
 rw [del_ord hn h0 hb,List.filter_filter]
 refine List.filter_congr fun e _ => ?_
 have hgo : goneE (L ++ [o]) e = (goneE L e || decide (e = x)):=by
  unfold goneE
  rw [List.any_append,any_same L _ (fun p => Qbk L p && decide (e ∈ p.f5)) (fun p _ => by rw [hw])]
  congr 1
  rw [List.any_cons,List.any_nil,Bool.or_false,hwo,hg,Bool.true_and]
  simp
 have hth : thereE (L ++ [o]) e = thereE L e:=by
  unfold thereE
  rw [List.any_append,any_same L _ (fun p => Qbk L p && decide (e ∈ Qbd p)) (fun p _ => by rw [hw]),List.any_cons,List.any_nil,hc]
  simp
 rw [hgo,hth]
 cases goneE L e <;> cases thereE L e <;> cases decide (e = x) <;> rfl
theorem filter_ne_take (v : List SElem) (hn : v.Nodup) {k : Nat} (hk : k < v.length) : ∀ a,a ≤ v.length → ((v.take a).filter fun e => !decide (e = v[k])).length = if k < a then a - 1 else a
 | 0,_ => rfl
 | a + 1,ha => by
  have ih:=filter_ne_take v hn hk a (by omega)
  rw [List.take_succ_eq_append_getElem (by omega),List.filter_append,List.length_append,ih]
  by_cases e : a = k
  ·subst e
   have : ([v[a]].filter fun x => !decide (x = v[a])) = []:=by simp
   rw [this,if_neg (by omega),if_pos (by omega)]; rfl
  ·have hne : v[a] ≠ v[k]:=fun hh => e ((List.getElem_inj hn).1 hh)
   have : ([v[a]].filter fun x => !decide (x = v[k])) = [v[a]]:=by simp [hne]
   rw [this]
   by_cases hka : k < a
   ·rw [if_pos hka,if_pos (by omega)]; show a - 1 + 1 = _; omega
   ·rw [if_neg hka,if_neg (by omega)]; rfl
theorem del_upto {L : List SOp} {o : SOp} (h : RowOk L) (hn : NextOk L o) (h1 : o.f2 = 1) (h0 : Qal o = 0) (hb : Qam o.f3 = true) {k : Nat} (hk : k < (Qbh L).length) (hg : o.f5 = [(Qbh L)[k]]) {j : Nat} (hj : j < (Qbh L).length) :
  (uptoR (L ++ [o]) (Qbh L)[j]).length = if k < j + 1 then j else j + 1:=by
 have hu:=upto_at h hj
 have e : uptoR (L ++ [o]) (Qbh L)[j] = ((Qbh L).take (j + 1)).filter fun e => !decide (e = (Qbh L)[k]):=by
  rw [← hu]
  unfold uptoR
  rw [del_seen h hn h1 h0 hb hg,del_ord hn h0 hb,List.filter_filter,List.filter_filter]
  exact List.filter_congr fun e _ => Bool.and_comm _ _
 rw [e,filter_ne_take _ (seen_nodup h) hk _ (by omega)]
 rfl
end
section
theorem Index_loop (l : List SElem) (hl : l.length ≤ 1000000000) (a b c : Int) : ∀ d i,i + d = l.length → Ev (fun k => api_Elem_64.l0 k l (l.length : Int) (i : Int) a b c) (Qbf (fun i => decide (Qaa l (i : Int) = ⟨a,b,c⟩)) l.length d i)
 | 0,i,h => Ev.step (f:=fun _ => some (-1)) (fun k => by simp only [api_Elem_64.l0]; rw [if_neg (by omega)]) (Ev.now _)
 | d + 1,i,h => by
  have ih:=Index_loop l hl a b c d (i + 1) (by omega)
  have hq : (a == (Qaa l (i : Int)).f0 && (b == (Qaa l (i : Int)).f1 && (c == (Qaa l (i : Int)).f2))) = decide (Qaa l (i : Int) = ⟨a,b,c⟩):=by
   rw [← eqE_iff,Bool.beq_comm,Bool.beq_comm (a:=b),Bool.beq_comm (a:=c)]
  unfold Qbf
  rw [if_pos (show i < l.length by omega)]
  by_cases he : Qaa l (i : Int) = ⟨a,b,c⟩
  ·rw [if_pos (by simp [he])]
   refine Ev.step (f:=fun _ => some (i : Int)) (fun k => ?_) (Ev.now _)
   simp only [api_Elem_64.l0,hq]
   rw [if_pos (by omega),if_pos (by omega),if_pos (by omega),if_pos (by simp [he])]
  ·rw [if_neg (by simp [he])]
   refine Ev.step (fun k => ?_) ih
   simp only [api_Elem_64.l0,hq]
   rw [if_pos (by omega),if_pos (by omega),if_pos (by omega),if_neg (by simp [he]),Qdh (show i < l.length by omega) (by omega)]
theorem Index_ev (l : List SElem) (hl : l.length ≤ 1000000000) (e : SElem) : Ev (fun k => api_Elem_64.f k l e.f0 e.f1 e.f2) (idxE l e):=Index_loop l hl e.f0 e.f1 e.f2 l.length 0 (Nat.zero_add _)
end
section
theorem index_calls (A : Option Addr) (c : Nat) (l : List SElem) (e : SElem) (w : World) (hl : l.length ≤ 1000000000) (hr : Kd.C Qaq w A l.length l) (hc : l.length ≤ c) :
  Calls Tryd.prog 64 #[.slice A l.length c,elV e] w fun r w' => r = .returned (.int .i64 (idxE l e)) ∧ Below w.heap.size w w':=by
 obtain ⟨k,hk⟩:=Ev.rounds (Index_ev l hl e)
 exact api_Elem_64.calls k A c l e.f0 e.f1 e.f2 (idxE l e) w hr hc hk
theorem contains_calls (A : Option Addr) (c : Nat) (l : List SElem) (e : SElem) (w : World) (hl : l.length ≤ 1000000000) (hr : Kd.C Qaq w A l.length l) (hc : l.length ≤ c) :
  Calls Tryd.prog 115 #[.slice A l.length c,elV e] w fun r w' => r = .returned (.bool (decide (e ∈ l))) ∧ Below w.heap.size w w':=by
 have hd : decide (e ∈ l) = decide (idxE l e ≥ 0):=by
  rw [Bool.eq_iff_iff,decide_eq_true_eq,decide_eq_true_eq]; exact (idxE_nonneg l e).symm
 rw [hd]
 obtain ⟨k,hk⟩:=Ev.rounds (Index_ev l hl e)
 exact api_Elem_115.calls k A c l e.f0 e.f1 e.f2 (decide (idxE l e ≥ 0)) w hr hc (by
  unfold api_Elem_115.f
  rw [show api_Elem_64.f k l e.f0 e.f1 e.f2 = some (idxE l e) from hk]; rfl)
theorem upto1_calls (g : Nat) (A : Option Addr) (n c : Nat) (l : List SElem) (x : SElem) (W : World) (h1 : W.cell? ⟨g,0,none⟩ = some (.slice A n c)) (hn : l.length = n) (hl : n ≤ 1000000000) (hr : Kd.C Qaq W A n l) (hc : n ≤ c) :
  Calls Tryd.prog 114 #[elV x, .pointer (some ⟨g,0,none⟩)] W fun e w' => e = .returned (.bool (!decide (x ∈ l))) ∧ Below W.heap.size W w':=by
 subst hn
 have hal : Below W.heap.size W (W.alloc (.cells #[.int .i64 x.f0, .int .i64 x.f1, .int .i64 x.f2] 43)):=Qag (Below.refl _ _) _
 have HCT:=Aside0.mk (contains_calls A c l x _ hl (Kd.C_below hr hal) hc)
 have HAL:=Aside0.mk hal
 have d1:=Qac hal h1
 unfold elV at HCT ⊢
 clear hr hc hl hal h1
 go_enter Tryd.func114,Tryd.ntmps114
 go_wp2_with fail
 refine HCT.out.mono ?_
 rintro e w2 ⟨rfl,hb2⟩
 have HB2:=Aside0.mk (Qav HAL.out hb2)
 clear HCT hb2
 go_wp2
 go_ret
 exact ⟨rfl,HB2.out⟩
def caret_Upto.f (l0 : List (SOp)) (a1_0 : Int) (a1_1 : Int) (a1_2 : Int) : Option (List SElem):=if smalls l0 = true ∧ mayB l0 = true then some (uptoR l0 ⟨a1_0,a1_1,a1_2⟩) else none
theorem caret_Upto.calls (A0 : Option Addr) (c0 : Nat) (l0 : List (SOp)) (a1_0 : Int) (a1_1 : Int) (a1_2 : Int) (r : List (SElem)) (w : World) (hr0 : Kd.C kOp w A0 l0.length l0) (hc0 : l0.length ≤ c0) (h : caret_Upto.f l0 a1_0 a1_1 a1_2 = some r) :
  Calls Tryd.prog 81 #[.slice A0 l0.length c0, .agg #[.int .i64 a1_0, .int .i64 a1_1, .int .i64 a1_2]] w fun e w' => ∃ v0_ : Value,e = .returned (v0_) ∧ Kd.R Qaq 43 w' w.heap.size (fun _ => True) v0_ r ∧ Below w.heap.size w w':=by
 unfold caret_Upto.f at h
 split at h
 case isFalse => cases h
 rename_i hsm
 obtain ⟨hs,hm⟩:=hsm
 obtain rfl:=Option.some.inj h
 have hrow:=(Qdi l0).1 hm
 have hal : Below w.heap.size w (w.alloc (.cells #[.int .i64 a1_0, .int .i64 a1_1, .int .i64 a1_2] 43)):=Qag (Below.refl _ _) _
 have HBX:=Aside0.mk hal
 have hb0 : (w.alloc (.cells #[.int .i64 a1_0, .int .i64 a1_1, .int .i64 a1_2] 43)).cell? ⟨w.heap.size,0,none⟩ = some (.int .i64 a1_0):=by simp
 have hb1 : (w.alloc (.cells #[.int .i64 a1_0, .int .i64 a1_1, .int .i64 a1_2] 43)).cell? ⟨w.heap.size,1,none⟩ = some (.int .i64 a1_1):=by simp
 have hb2 : (w.alloc (.cells #[.int .i64 a1_0, .int .i64 a1_1, .int .i64 a1_2] 43)).cell? ⟨w.heap.size,2,none⟩ = some (.int .i64 a1_2):=by simp
 have HSZ:=Aside0.mk (show (w.alloc (.cells #[.int .i64 a1_0, .int .i64 a1_1, .int .i64 a1_2] 43)).heap.size = w.heap.size + 1 by simp)
 have HALL:=Aside0.mk (tree_All.calls A0 c0 l0 (ordL l0) _ (Kd.C_below hr0 hal) hc0 (tree_All_f hs hrow))
 have HSEEN:=Aside0.mk (fun (W : World) (hb : Below w.heap.size w W) => doc_Seen.calls A0 c0 l0 (Qbh l0) W (Kd.C_below hr0 hb) hc0 (doc_Seen_f hs hrow))
 have HROW:=Aside0.mk hrow
 have hlen : (ordL l0).length ≤ 200:=by rw [(Qdd hrow).2]; exact hrow.sums.2
 have HUP:=Aside0.mk (show uptoR l0 ⟨a1_0,a1_1,a1_2⟩ = (Qbh l0).filter fun x => !!decide (x ∈ (ordL l0).take (idxE (ordL l0) ⟨a1_0,a1_1,a1_2⟩ + 1).toNat) by unfold uptoR; simp)
 have HIX:=Aside0.mk (idxE_cases (ordL l0) ⟨a1_0,a1_1,a1_2⟩)
 have HLEN:=Aside0.mk hlen
 have hslen:=Nat.le_trans (List.length_filter_le _ _ : (Qbh l0).length ≤ (ordL l0).length) hlen
 have HSL:=Aside0.mk hslen
 clear hr0 hc0 h hm hs hrow hlen hslen hal
 go_enter Tryd.func81,Tryd.ntmps81
 go_wp2_with fail
 refine HALL.out.mono ?_
 rintro e wA ⟨vA,rfl,hRA,hbA⟩
 obtain ⟨AA,cA,rfl⟩:=Kd.R_slice hRA
 obtain ⟨_,hcA,hCA⟩:=Kd.R_reads' hRA
 replace hb0:=Qac hbA hb0
 replace hb1:=Qac hbA hb1
 replace hb2:=Qac hbA hb2
 have HIC:=Aside0.mk (index_calls AA cA (ordL l0) ⟨a1_0,a1_1,a1_2⟩ wA (by have:=HLEN.out; omega) hCA hcA)
 have HCA:=Aside0.mk hCA
 have HBA:=Aside0.mk (Qav HBX.out hbA)
 have HRA:=Aside0.mk (Kd.R_mono (Kd.R_bound hRA) (ok':=fun k => k < wA.heap.size) (fun k hk => hk.2.2.1))
 clear hRA hbA hCA HALL
 simp only [elV] at HIC
 generalize hix : idxE (ordL l0) ⟨a1_0,a1_1,a1_2⟩ = ix at HIC HUP HIX
 go_wp2_with fail
 refine HIC.out.mono ?_
 rintro e wI ⟨rfl,hbI⟩
 have HBI:=Aside0.mk (Qav HBA.out hbI)
 have HAI:=Aside0.mk hbI
 obtain ⟨n,hn,hw,hnt⟩ : ∃ n : Nat,n ≤ (ordL l0).length ∧ wrap64 (ix + 1) = (n : Int) ∧ (ix + 1).toNat = n:=by
  have:=HLEN.out
  rcases HIX.out with ⟨i,hi,_,_,e⟩ | ⟨_,e⟩
  ·rw [e]; exact ⟨i + 1,by omega,by rw [Qaj (by omega) (by omega)]; omega,by omega⟩
  ·rw [e]; exact ⟨0,by omega,by rw [Qaj (by omega) (by omega)]; rfl,rfl⟩
 rw [hnt] at HUP
 clear HIC HIX hbI hix hb0 hb1 hb2 hnt
 have hn0 : (0 : Int) ≤ (n : Int):=by omega
 have hnc : (n : Int) ≤ (cA : Int):=by omega
 have hnc' : ¬ (cA : Int) < (n : Int):=by omega
 rcases AA with _ | ad
 ·have hz : (ordL l0).length = 0:=by
   rcases Nat.eq_zero_or_pos (ordL l0).length with h | h
   ·exact h
   ·obtain ⟨_,h',_⟩:=HCA.out.2.2 h
    cases h'
  obtain rfl : n = 0:=by omega
  have hO : ordL l0 = []:=List.eq_nil_of_length_eq_zero hz
  have HUP2:=HUP.out
  rw [hO,List.take_zero] at HUP2
  have HUP2:=Aside0.mk HUP2
  have hal2 : Below wI.heap.size wI (wI.alloc (.cells #[.slice none 0 cA] 23)):=Qag (Below.refl _ _) _
  have HAL2:=Aside0.mk hal2
  have HBW:=Aside0.mk (Qav HBI.out hal2)
  have HC:=Aside0.mk (show (wI.alloc (.cells #[.slice none 0 cA] 23)).cell? ⟨wI.heap.size,0,none⟩ = some (.slice none 0 cA) by simp)
  have HZ:=Aside0.mk (show (wI.alloc (.cells #[.slice none 0 cA] 23)).heap.size = wI.heap.size + 1 by simp)
  clear hal2
  go_wp2_with fail
  generalize (wI.alloc (.cells #[.slice none 0 cA] 23)) = wJ at HAL2 HBW HC HZ ⊢
  refine (HSEEN.out _ HBW.out).mono ?_
  rintro e wS ⟨vS,rfl,hRS,hbS⟩
  obtain ⟨AS,cS,rfl⟩:=Kd.R_slice hRS
  have hown:=Kd.R_base hRS
  have hszI:=HAI.out.size
  have hszJ:=HZ.out
  have hszS:=hbS.size
  have hls : (Qbh l0).length ≤ 1000000000:=by have:=HSL.out; unfold Qbh; omega
  have hD:=DeleteFuncElem 114 #[.pointer (some ⟨wI.heap.size,0,none⟩)] wJ.heap.size cS AS (Qbh l0) (fun x => !decide (x ∈ ([] : List SElem))) wS
   (enters_at Tryd.func114 (by kernel_rfl) rfl) hls hRS (fun W x hx hg => by
    have k1:=Qap hg (fun e => by have:=hown _ e.symm; simp only at this; omega) (Qac hbS HC.out)
    exact upto1_calls _ none 0 cA ([] : List SElem) x W k1 rfl (by omega) ⟨rfl,Nat.zero_le _,fun h => absurd h (by decide)⟩ (Nat.zero_le _))
  have HD:=Aside0.mk hD
  have HBA2:=Aside0.mk (Qav HBW.out hbS)
  have HOWN:=Aside0.mk hown
  have HS1:=Aside0.mk (And.intro hszI (And.intro hszJ hszS))
  clear hD hRS hbS hown hszI hszJ hszS
  go_wp2_with fail
  refine HD.out.mono ?_
  rintro e w2 ⟨v,rfl,hRv,hgv⟩
  have HRV:=Aside0.mk hRv
  have HGV:=Aside0.mk hgv
  clear hRv hgv
  go_wp2
  go_ret
  have hz:=HBW.out.size
  refine ⟨_,rfl,by rw [HUP2.out]; exact Kd.R_lower HRV.out hz,pw_below_grown HBA2.out _ HBA2.out.size HGV.out (fun k hk => by have:=HOWN.out k hk; omega)⟩
 ·have hal2 : Below wI.heap.size wI (wI.alloc (.cells #[.slice (some ad) n cA] 23)):=Qag (Below.refl _ _) _
  have HAL2:=Aside0.mk hal2
  have HBW:=Aside0.mk (Qav HBI.out hal2)
  have HC:=Aside0.mk (show (wI.alloc (.cells #[.slice (some ad) n cA] 23)).cell? ⟨wI.heap.size,0,none⟩ = some (.slice (some ad) n cA) by simp)
  have HZ:=Aside0.mk (show (wI.alloc (.cells #[.slice (some ad) n cA] 23)).heap.size = wI.heap.size + 1 by simp)
  clear hal2
  go_wp2_with fail
  generalize (wI.alloc (.cells #[.slice (some ad) n cA] 23)) = wJ at HAL2 HBW HC HZ ⊢
  refine (HSEEN.out _ HBW.out).mono ?_
  rintro e wS ⟨vS,rfl,hRS,hbS⟩
  obtain ⟨AS,cS,rfl⟩:=Kd.R_slice hRS
  have hown:=Kd.R_base hRS
  have hszI:=HAI.out.size
  have hszJ:=HZ.out
  have hszS:=hbS.size
  have hls : (Qbh l0).length ≤ 1000000000:=by have:=HSL.out; unfold Qbh; omega
  have hD:=DeleteFuncElem 114 #[.pointer (some ⟨wI.heap.size,0,none⟩)] wJ.heap.size cS AS (Qbh l0) (fun x => !decide (x ∈ (ordL l0).take n)) wS
   (enters_at Tryd.func114 (by kernel_rfl) rfl) hls hRS (fun W x hx hg => by
    have k1:=Qap hg (fun e => by have:=hown _ e.symm; simp only at this; omega) (Qac hbS HC.out)
    have hRW:=Kd.R_step HRA.out (w1:=W) (fun k ho hlt => ((hg.block k (by omega) (fun e => by have:=hown _ e.symm; omega)).trans (hbS.block k (by omega))).trans ((HAL2.out.block k (by omega)).trans (HAI.out.block k hlt)))
    have hln : ((ordL l0).take n).length = n:=by rw [List.length_take]; omega
    have hC:=Kd.C_take (Kd.R_reads' hRW).2.2 hn
    rw [hln] at hC
    exact upto1_calls _ _ n _ _ x W k1 hln (by have:=HLEN.out; omega) hC (by omega))
  have HD:=Aside0.mk hD
  have HBA2:=Aside0.mk (Qav HBW.out hbS)
  have HOWN:=Aside0.mk hown
  have HS1:=Aside0.mk (And.intro hszI (And.intro hszJ hszS))
  clear hD hRS hbS hown hszI hszJ hszS
  go_wp2_with fail
  refine HD.out.mono ?_
  rintro e w2 ⟨v,rfl,hRv,hgv⟩
  have HRV:=Aside0.mk hRv
  have HGV:=Aside0.mk hgv
  clear hRv hgv
  go_wp2
  go_ret
  have hz:=HBW.out.size
  refine ⟨_,rfl,by rw [HUP.out]; exact Kd.R_lower HRV.out hz,pw_below_grown HBA2.out _ HBA2.out.size HGV.out (fun k hk => by have:=HOWN.out k hk; omega)⟩
end
section
attribute [local go_sem] Qbp Qbn Qby Qbx Qbc Qbb Qbo Qbm
attribute [local go_sem high] eqAElem
def caret_Place.f (l0 : List (SOp)) (a1_0 : Int) (a1_1 : Int) (a1_2 : Int) : Option (Int × Int):=(caret_asked.f l0 a1_0 a1_1 a1_2).bind fun t403 => (if t403 = 0 then ((caret_Upto.f l0 a1_0 a1_1 a1_2).bind fun t404 => (some ((t404.length : Int),0))) else (some (0,t403)))
theorem caret_Place.calls (A0 : Option Addr) (c0 : Nat) (l0 : List (SOp)) (a1_0 : Int) (a1_1 : Int) (a1_2 : Int) (r1 : Int) (r2 : Int) (w : World) (hr0 : Kd.C kOp w A0 l0.length l0) (hc0 : l0.length ≤ c0) (h : caret_Place.f l0 a1_0 a1_1 a1_2 = some (r1,r2)) :
  Calls Tryd.prog 35 #[.slice A0 l0.length c0, .agg #[.int .i64 a1_0, .int .i64 a1_1, .int .i64 a1_2]] w fun e w' => e = .returned (.tuple #[.int .i64 r1, .int .i64 r2]) ∧ Below w.heap.size w w':=by
 have hu43:=Tryd.underlying43
 have HR0:=Aside0.mk hr0
 have HC0:=Aside0.mk hc0
 clear hr0 hc0
 have HB:=Aside0.mk (Below.refl w.heap.size w)
 unfold caret_Place.f at h; have H:=h
 clear h
 obtain ⟨t403,A3,H⟩:=bE H
 by_cases c4 : t403 = 0; rotate_left
 ·rw [if_neg c4] at H
  obtain ⟨c4b0,c4b1⟩:=bF c4
  simp only [Option.some.injEq,Prod.mk.injEq] at H
  obtain ⟨rfl,rfl⟩:=H
  go_enter Tryd.func35,Tryd.ntmps35
  go_wp2_with (first | ((with_reducible refine Qae (N:=3) rfl ?_); refine bx 3 #[.int .i64 a1_0, .int .i64 a1_1, .int .i64 a1_2] 43 (h := ?_); intro gb402 hg w12 hbox hb; have BK402:=Aside0.mk (hbox); have GW402:=bz HB hg; have GE402:=bz HB hg; replace HB:=bs HB hb; clear hb hbox hg; obtain ⟨_,_,_,_,_,_⟩:=kc3 BK402) | ((with_reducible refine Qab (f:=80) rfl ?_); refine gl (some 9) Tryd.func80 #[.slice A0 l0.length c0, .agg #[.int .i64 a1_0, .int .i64 a1_1, .int .i64 a1_2]] (h := ?_); (with_reducible refine (caret_asked.calls _ _ l0 a1_0 a1_1 a1_2 t403 _ ?side1 ?side2 A3.out).mono ?_); (case side1 => exact cb HR0 HB); (case side2 => exact HC0.out); rintro e w14 ⟨rfl,hb⟩; refine ⟨_,rfl, ?_⟩; replace BK402:=bl BK402 hb; replace HB:=bs HB hb; clear hb))
  go_ret2
  exact ⟨re,bw HB⟩
 rw [if_pos c4] at H
 obtain ⟨c4b0,c4b1⟩:=bT c4
 clear c4
 obtain ⟨t404,A5,H⟩:=bE H
 simp only [Option.some.injEq,Prod.mk.injEq] at H
 obtain ⟨rfl,rfl⟩:=H
 go_enter Tryd.func35,Tryd.ntmps35
 go_wp2_with (first | ((with_reducible refine Qae (N:=3) rfl ?_); refine bx 3 #[.int .i64 a1_0, .int .i64 a1_1, .int .i64 a1_2] 43 (h := ?_); intro gb402 hg w6 hbox hb; have BK402:=Aside0.mk (hbox); have GW402:=bz HB hg; have GE402:=bz HB hg; replace HB:=bs HB hb; clear hb hbox hg; obtain ⟨_,_,_,_,_,_⟩:=kc3 BK402) | ((with_reducible refine Qab (f:=80) rfl ?_); refine gl (some 9) Tryd.func80 #[.slice A0 l0.length c0, .agg #[.int .i64 a1_0, .int .i64 a1_1, .int .i64 a1_2]] (h := ?_); (with_reducible refine (caret_asked.calls _ _ l0 a1_0 a1_1 a1_2 t403 _ ?side1 ?side2 A3.out).mono ?_); (case side1 => exact cb HR0 HB); (case side2 => exact HC0.out); rintro e w8 ⟨rfl,hb⟩; refine ⟨_,rfl, ?_⟩; replace BK402:=bl BK402 hb; replace HB:=bs HB hb; clear hb; obtain ⟨_,_,_,_,_,_⟩:=kc3 BK402) | ((with_reducible refine Qab (f:=81) rfl ?_); refine gl (some 15) Tryd.func81 #[.slice A0 l0.length c0, .agg #[.int .i64 a1_0, .int .i64 a1_1, .int .i64 a1_2]] (h := ?_); (with_reducible refine (caret_Upto.calls _ _ l0 a1_0 a1_1 a1_2 t404 _ ?side1 ?side2 A5.out).mono ?_); (case side1 => exact cb HR0 HB); (case side2 => exact HC0.out); rintro e w10 ⟨v405,rfl,ho0,hb⟩; refine ⟨_,rfl, ?_⟩; have HO406:=Aside0.mk (Kd.R_lower (Kd.R_newB ho0 (kk BK402)) (Qai (bw HB))); replace BK402:=bl BK402 hb; replace HB:=bs HB hb; clear hb; clear ho0; obtain ⟨Ao11,co11,eo11⟩:=Kd.R_slice HO406.out; subst eo11))
 go_ret2
 exact ⟨re,bw HB⟩
def w11_wakes.f (k : Nat)  : Option (Bool):=(some (([(⟨1,1,1,(⟨0,0,0⟩ : SElem),(⟨#[97,98]⟩ : ByteArray),([] : List (SElem)),0,0,0⟩ : SOp)] : List (SOp)) : List (SOp))).bind fun y407 => ((caret_Set.f k y407 0).bind fun bt410 => ((caret_Place.f y407 1 1 1).bind fun bt415 => ((w11_num.f bt410.2.2.2).bind fun t417 => (if t417 = 0 then ((w11_num.f bt415.2).bind fun t418 => (if t418 = 0 then (if (bt410.1 == 0 && (bt410.2.1 == 0 && (bt410.2.2.1 == 0))) = true then (some (bt415.1 == 2)) else (some false)) else (some false))) else (some false)))))
theorem w11_wakes.mono : ∀ k,LeO (w11_wakes.f k ) (w11_wakes.f (k + 1) ):=by
 intro  k
 unfold w11_wakes.f
 repeat' first
   | (with_reducible exact caret_Set.mono _ _ _)
   | (with_reducible exact LeO.refl _)
   | (with_reducible exact LeO.none _)
   | (with_reducible refine LeO.ite ?_ ?_)
   | (with_reducible refine LeO.bind ?_ (fun _ => ?_))
   | exact caret_Set.mono _ _ _
   | exact LeO.none _
   | refine LeO.ite ?_ ?_
   | refine LeO.bind ?_ (fun _ => ?_)
theorem w11_wakes.calls (k : Nat)  (r : Bool) (w : World) (h : w11_wakes.f k  = some r) :
  Calls Tryd.prog 37 #[] w fun e w' => e = .returned (.bool r) ∧ Below w.heap.size w w':=by
 have hu55:=Tryd.underlying55
 have hu43:=Tryd.underlying43
 have HB:=Aside0.mk (Below.refl w.heap.size w)
 unfold w11_wakes.f at h; have H:=h
 clear h
 obtain ⟨y407,hy407⟩ : ∃ y_ : List (SOp),y_ = (([(⟨1,1,1,(⟨0,0,0⟩ : SElem),(⟨#[97,98]⟩ : ByteArray),([] : List (SElem)),0,0,0⟩ : SOp)] : List (SOp))):=⟨_,rfl⟩
 first | rw [Option.bind_some,← hy407] at H | rw [← hy407] at H
 have Ny407:=Aside0.mk hy407
 clear hy407
 obtain ⟨⟨t410,t411,t412,t413⟩,A1,H⟩:=bE H
 try dsimp only at H
 obtain ⟨⟨t415,t416⟩,A2,H⟩:=bE H
 try dsimp only at H
 obtain ⟨t417,A3,H⟩:=bE H
 by_cases c4 : t417 = 0; rotate_left
 ·rw [if_neg c4] at H
  obtain ⟨c4b0,c4b1⟩:=bF c4
  obtain rfl:=Option.some.inj H
  go_enter Tryd.func37,Tryd.ntmps37
  go_wp2_with (first | ((with_reducible refine Qae (N:=7) rfl ?_); refine Kd.S_lit kOp _ 55 ?hg (N:=7) ?hd (xs:=([(⟨1,1,1,(⟨0,0,0⟩ : SElem),(⟨#[97,98]⟩ : ByteArray),([] : List (SElem)),0,0,0⟩ : SOp)] : List (SOp))) (inner:=[.int .i64 1, .int .i64 1, .int .i64 1, .int .i64 0, .int .i64 0, .int .i64 0, .string (⟨#[97,98]⟩ : ByteArray), .slice none 0 0, .int .i64 0, .int .i64 0, .int .i64 0]) (ok:=fun _ => True) (okp:=fun _ => True) ?hr ?hp (fun _ hk => hk) trivial (Below.refl _ _) (Nat.le_refl _) (by simp) ?_; (case hd => rfl); (case hg => rfl); (case hr => first | (go_simp; done) | (go_simp; rfl)); (case hp => exact (Reps.front (show Kd.M kOp _ _ _ (⟨1,1,1,(⟨0,0,0⟩ : SElem),(⟨#[97,98]⟩ : ByteArray),([] : List (SElem)),0,0,0⟩ : SOp) [.int .i64 1, .int .i64 1, .int .i64 1, .int .i64 0, .int .i64 0, .int .i64 0, .string (⟨#[97,98]⟩ : ByteArray), .slice none 0 0, .int .i64 0, .int .i64 0, .int .i64 0] from (kOp_mkM _ _ _ (⟨1,1,1,(⟨0,0,0⟩ : SElem),(⟨#[97,98]⟩ : ByteArray),([] : List (SElem)),0,0,0⟩ : SOp) (Kd.R_nil _ _ _ _ _))) rfl (Reps.none _ _) rfl)); intro v408 w31 ho32 hb hg_ hnew_; clear hg_ hnew_; (first | rw [← Ny407.out] at ho32 | (simp only [Int.reduceToNat] at ho32; rw [← Ny407.out] at ho32)); have HO409:=Aside0.mk (Kd.S_lower ho32 (Qai (bw HB))); replace HB:=bs HB hb; clear hb ho32; obtain ⟨Ao33,co33,eo33⟩:=Kd.S_slice HO409.out; subst eo33) | ((with_reducible refine Qab (f:=32) rfl ?_); refine gl (some 10) Tryd.func32 #[.slice Ao33 y407.length co33, .int .i64 0] (h := ?_); (with_reducible refine (caret_Set.calls k _ _ y407 0 t410 t411 t412 t413 _ ?side1 ?side2 A1.out).mono ?_); (case side1 => exact cs HO409); (case side2 => exact (Kd.S_reads' HO409.out).2.1); rintro e w34 ⟨rfl,hb⟩; refine ⟨_,rfl, ?_⟩; replace HO409:=sb HO409 hb; replace HB:=bs HB hb; clear hb) | ((with_reducible refine Qae (N:=2) rfl ?_); refine bx 2 #[.int .i64 0, .int .i64 0, .int .i64 0] 43 (h := ?_); intro gb414 hg w35 hbox hb; have BK414:=Aside0.mk (hbox); have GW414:=bz HB hg; have GE414:=bz HB hg; replace HO409:=Aside0.mk (Kd.S_below (Kd.S_elderB (sk HO409) gb414 (Nat.le_of_eq hg.symm)) hb); replace HB:=bs HB hb; clear hb hbox hg; obtain ⟨_,_,_,_,_,_⟩:=kc3 BK414) | ((with_reducible refine Qab (f:=35) rfl ?_); refine gl (some 16) Tryd.func35 #[.slice Ao33 y407.length co33, .agg #[.int .i64 1, .int .i64 1, .int .i64 1]] (h := ?_); (with_reducible refine (caret_Place.calls _ _ y407 1 1 1 t415 t416 _ ?side1 ?side2 A2.out).mono ?_); (case side1 => refine (Kd.S_reads' (e:=55) (base:=w.heap.size) (ok:=fun k_ => (True ∧ k_ ≠ gb414)) (n:=y407.length) (c:=co33) ?_).2.2; exact (by (with_reducible repeat (first | apply Kd.S_alloc | apply Kd.S_drewN | apply Kd.S_drew)); exact (Kd.S_mono (Kd.S_far (p:=⟨gb414,2,none⟩) (Kd.S_far (p:=⟨gb414,1,none⟩) (Kd.S_far (p:=⟨gb414,0,none⟩) (Kd.S_mono HO409.out (fun k_ hk => (⟨hk,hk.2⟩ : _ ∧ k_ ≠ gb414))) (fun _ hk => hk.2) (.int .i64 t410)) (fun _ hk => hk.2) (.int .i64 t411)) (fun _ hk => hk.2) (.int .i64 t412)) (fun _ h_ => h_.1)))); (case side2 => exact (Kd.S_reads' HO409.out).2.1); rintro e w37 ⟨rfl,hb⟩; refine ⟨_,rfl, ?_⟩; replace HO409:=Aside0.mk (Kd.S_below (by (with_reducible repeat (first | apply Kd.S_alloc | apply Kd.S_drewN | apply Kd.S_drew)); exact (Kd.S_mono (Kd.S_far (p:=⟨gb414,2,none⟩) (Kd.S_far (p:=⟨gb414,1,none⟩) (Kd.S_far (p:=⟨gb414,0,none⟩) (Kd.S_mono HO409.out (fun k_ hk => (⟨hk,hk.2⟩ : _ ∧ k_ ≠ gb414))) (fun _ hk => hk.2) (.int .i64 t410)) (fun _ hk => hk.2) (.int .i64 t411)) (fun _ hk => hk.2) (.int .i64 t412)) (fun _ h_ => h_.1))) hb); replace BK414:=Aside0.mk (Qbl (g:=gb414) (o:=.cells #[.int .i64 t410, .int .i64 t411, .int .i64 t412] 43 (0,0)) (bp (bp (bp (kk BK414) 0) 1) 2) hb); replace HB:=bs HB hb; clear hb) | ((with_reducible refine Qab (f:=33) rfl ?_); refine gl (some 20) Tryd.func33 #[.int .i64 t413] (h := ?_); (with_reducible refine (w11_num.calls t413 t417 _ A3.out).mono ?_); rintro e w' ⟨rfl,⟨nd,rfl⟩⟩; refine ⟨_,rfl, ?_⟩))
  go_ret
  exact ⟨re,bw HB⟩
 rw [if_pos c4] at H
 obtain ⟨c4b0,c4b1⟩:=bT c4
 clear c4
 obtain ⟨t418,A5,H⟩:=bE H
 by_cases c6 : t418 = 0; rotate_left
 ·rw [if_neg c6] at H
  obtain ⟨c6b0,c6b1⟩:=bF c6
  obtain rfl:=Option.some.inj H
  go_enter Tryd.func37,Tryd.ntmps37
  go_wp2_with (first | ((with_reducible refine Qae (N:=7) rfl ?_); refine Kd.S_lit kOp _ 55 ?hg (N:=7) ?hd (xs:=([(⟨1,1,1,(⟨0,0,0⟩ : SElem),(⟨#[97,98]⟩ : ByteArray),([] : List (SElem)),0,0,0⟩ : SOp)] : List (SOp))) (inner:=[.int .i64 1, .int .i64 1, .int .i64 1, .int .i64 0, .int .i64 0, .int .i64 0, .string (⟨#[97,98]⟩ : ByteArray), .slice none 0 0, .int .i64 0, .int .i64 0, .int .i64 0]) (ok:=fun _ => True) (okp:=fun _ => True) ?hr ?hp (fun _ hk => hk) trivial (Below.refl _ _) (Nat.le_refl _) (by simp) ?_; (case hd => rfl); (case hg => rfl); (case hr => first | (go_simp; done) | (go_simp; rfl)); (case hp => exact (Reps.front (show Kd.M kOp _ _ _ (⟨1,1,1,(⟨0,0,0⟩ : SElem),(⟨#[97,98]⟩ : ByteArray),([] : List (SElem)),0,0,0⟩ : SOp) [.int .i64 1, .int .i64 1, .int .i64 1, .int .i64 0, .int .i64 0, .int .i64 0, .string (⟨#[97,98]⟩ : ByteArray), .slice none 0 0, .int .i64 0, .int .i64 0, .int .i64 0] from (kOp_mkM _ _ _ (⟨1,1,1,(⟨0,0,0⟩ : SElem),(⟨#[97,98]⟩ : ByteArray),([] : List (SElem)),0,0,0⟩ : SOp) (Kd.R_nil _ _ _ _ _))) rfl (Reps.none _ _) rfl)); intro v408 w24 ho25 hb hg_ hnew_; clear hg_ hnew_; (first | rw [← Ny407.out] at ho25 | (simp only [Int.reduceToNat] at ho25; rw [← Ny407.out] at ho25)); have HO409:=Aside0.mk (Kd.S_lower ho25 (Qai (bw HB))); replace HB:=bs HB hb; clear hb ho25; obtain ⟨Ao26,co26,eo26⟩:=Kd.S_slice HO409.out; subst eo26) | ((with_reducible refine Qab (f:=32) rfl ?_); refine gl (some 10) Tryd.func32 #[.slice Ao26 y407.length co26, .int .i64 0] (h := ?_); (with_reducible refine (caret_Set.calls k _ _ y407 0 t410 t411 t412 t413 _ ?side1 ?side2 A1.out).mono ?_); (case side1 => exact cs HO409); (case side2 => exact (Kd.S_reads' HO409.out).2.1); rintro e w27 ⟨rfl,hb⟩; refine ⟨_,rfl, ?_⟩; replace HO409:=sb HO409 hb; replace HB:=bs HB hb; clear hb) | ((with_reducible refine Qae (N:=2) rfl ?_); refine bx 2 #[.int .i64 0, .int .i64 0, .int .i64 0] 43 (h := ?_); intro gb414 hg w28 hbox hb; have BK414:=Aside0.mk (hbox); have GW414:=bz HB hg; have GE414:=bz HB hg; replace HO409:=Aside0.mk (Kd.S_below (Kd.S_elderB (sk HO409) gb414 (Nat.le_of_eq hg.symm)) hb); replace HB:=bs HB hb; clear hb hbox hg; obtain ⟨_,_,_,_,_,_⟩:=kc3 BK414) | ((with_reducible refine Qab (f:=35) rfl ?_); refine gl (some 16) Tryd.func35 #[.slice Ao26 y407.length co26, .agg #[.int .i64 1, .int .i64 1, .int .i64 1]] (h := ?_); (with_reducible refine (caret_Place.calls _ _ y407 1 1 1 t415 t416 _ ?side1 ?side2 A2.out).mono ?_); (case side1 => refine (Kd.S_reads' (e:=55) (base:=w.heap.size) (ok:=fun k_ => (True ∧ k_ ≠ gb414)) (n:=y407.length) (c:=co26) ?_).2.2; exact (by (with_reducible repeat (first | apply Kd.S_alloc | apply Kd.S_drewN | apply Kd.S_drew)); exact (Kd.S_mono (Kd.S_far (p:=⟨gb414,2,none⟩) (Kd.S_far (p:=⟨gb414,1,none⟩) (Kd.S_far (p:=⟨gb414,0,none⟩) (Kd.S_mono HO409.out (fun k_ hk => (⟨hk,hk.2⟩ : _ ∧ k_ ≠ gb414))) (fun _ hk => hk.2) (.int .i64 t410)) (fun _ hk => hk.2) (.int .i64 t411)) (fun _ hk => hk.2) (.int .i64 t412)) (fun _ h_ => h_.1)))); (case side2 => exact (Kd.S_reads' HO409.out).2.1); rintro e w30 ⟨rfl,hb⟩; refine ⟨_,rfl, ?_⟩; replace HO409:=Aside0.mk (Kd.S_below (by (with_reducible repeat (first | apply Kd.S_alloc | apply Kd.S_drewN | apply Kd.S_drew)); exact (Kd.S_mono (Kd.S_far (p:=⟨gb414,2,none⟩) (Kd.S_far (p:=⟨gb414,1,none⟩) (Kd.S_far (p:=⟨gb414,0,none⟩) (Kd.S_mono HO409.out (fun k_ hk => (⟨hk,hk.2⟩ : _ ∧ k_ ≠ gb414))) (fun _ hk => hk.2) (.int .i64 t410)) (fun _ hk => hk.2) (.int .i64 t411)) (fun _ hk => hk.2) (.int .i64 t412)) (fun _ h_ => h_.1))) hb); replace BK414:=Aside0.mk (Qbl (g:=gb414) (o:=.cells #[.int .i64 t410, .int .i64 t411, .int .i64 t412] 43 (0,0)) (bp (bp (bp (kk BK414) 0) 1) 2) hb); replace HB:=bs HB hb; clear hb) | ((with_reducible refine Qab (f:=33) rfl ?_); refine gl (some 20) Tryd.func33 #[.int .i64 t413] (h := ?_); (with_reducible refine (w11_num.calls t413 t417 _ A3.out).mono ?_); rintro e w' ⟨rfl,⟨nd,rfl⟩⟩; refine ⟨_,rfl, ?_⟩) | (go_at_call 33; (with_reducible refine (w11_num.calls t416 t418 _ A5.out).mono ?_); rintro e w' ⟨rfl,⟨nd,rfl⟩⟩))
  go_ret
  exact ⟨re,bw HB⟩
 rw [if_pos c6] at H
 obtain ⟨c6b0,c6b1⟩:=bT c6
 clear c6
 by_cases c7 : (t410 == 0 && (t411 == 0 && (t412 == 0))) = true
 ·rw [if_pos c7] at H
  have c7b0 : (t410 == 0 && (t411 == 0 && (t412 == 0))) = true:=c7
  (try (have c7b1 : decide (t410 = 0 && (t411 == 0 && (t412 == 0))) = true:=by simpa using c7))
  (try (have c7b2 : (t410 == 0 && (t411 == 0 && (t412 == 0))) = true:=by simpa using c7))
  clear c7
  obtain rfl:=Option.some.inj H
  go_enter Tryd.func37,Tryd.ntmps37
  go_wp2_with (first | ((with_reducible refine Qae (N:=7) rfl ?_); refine Kd.S_lit kOp _ 55 ?hg (N:=7) ?hd (xs:=([(⟨1,1,1,(⟨0,0,0⟩ : SElem),(⟨#[97,98]⟩ : ByteArray),([] : List (SElem)),0,0,0⟩ : SOp)] : List (SOp))) (inner:=[.int .i64 1, .int .i64 1, .int .i64 1, .int .i64 0, .int .i64 0, .int .i64 0, .string (⟨#[97,98]⟩ : ByteArray), .slice none 0 0, .int .i64 0, .int .i64 0, .int .i64 0]) (ok:=fun _ => True) (okp:=fun _ => True) ?hr ?hp (fun _ hk => hk) trivial (Below.refl _ _) (Nat.le_refl _) (by simp) ?_; (case hd => rfl); (case hg => rfl); (case hr => first | (go_simp; done) | (go_simp; rfl)); (case hp => exact (Reps.front (show Kd.M kOp _ _ _ (⟨1,1,1,(⟨0,0,0⟩ : SElem),(⟨#[97,98]⟩ : ByteArray),([] : List (SElem)),0,0,0⟩ : SOp) [.int .i64 1, .int .i64 1, .int .i64 1, .int .i64 0, .int .i64 0, .int .i64 0, .string (⟨#[97,98]⟩ : ByteArray), .slice none 0 0, .int .i64 0, .int .i64 0, .int .i64 0] from (kOp_mkM _ _ _ (⟨1,1,1,(⟨0,0,0⟩ : SElem),(⟨#[97,98]⟩ : ByteArray),([] : List (SElem)),0,0,0⟩ : SOp) (Kd.R_nil _ _ _ _ _))) rfl (Reps.none _ _) rfl)); intro v408 w8 ho9 hb hg_ hnew_; clear hg_ hnew_; (first | rw [← Ny407.out] at ho9 | (simp only [Int.reduceToNat] at ho9; rw [← Ny407.out] at ho9)); have HO409:=Aside0.mk (Kd.S_lower ho9 (Qai (bw HB))); replace HB:=bs HB hb; clear hb ho9; obtain ⟨Ao10,co10,eo10⟩:=Kd.S_slice HO409.out; subst eo10) | ((with_reducible refine Qab (f:=32) rfl ?_); refine gl (some 10) Tryd.func32 #[.slice Ao10 y407.length co10, .int .i64 0] (h := ?_); (with_reducible refine (caret_Set.calls k _ _ y407 0 t410 t411 t412 t413 _ ?side1 ?side2 A1.out).mono ?_); (case side1 => exact cs HO409); (case side2 => exact (Kd.S_reads' HO409.out).2.1); rintro e w11 ⟨rfl,hb⟩; refine ⟨_,rfl, ?_⟩; replace HO409:=sb HO409 hb; replace HB:=bs HB hb; clear hb) | ((with_reducible refine Qae (N:=2) rfl ?_); refine bx 2 #[.int .i64 0, .int .i64 0, .int .i64 0] 43 (h := ?_); intro gb414 hg w12 hbox hb; have BK414:=Aside0.mk (hbox); have GW414:=bz HB hg; have GE414:=bz HB hg; replace HO409:=Aside0.mk (Kd.S_below (Kd.S_elderB (sk HO409) gb414 (Nat.le_of_eq hg.symm)) hb); replace HB:=bs HB hb; clear hb hbox hg; obtain ⟨_,_,_,_,_,_⟩:=kc3 BK414) | ((with_reducible refine Qab (f:=35) rfl ?_); refine gl (some 16) Tryd.func35 #[.slice Ao10 y407.length co10, .agg #[.int .i64 1, .int .i64 1, .int .i64 1]] (h := ?_); (with_reducible refine (caret_Place.calls _ _ y407 1 1 1 t415 t416 _ ?side1 ?side2 A2.out).mono ?_); (case side1 => refine (Kd.S_reads' (e:=55) (base:=w.heap.size) (ok:=fun k_ => (True ∧ k_ ≠ gb414)) (n:=y407.length) (c:=co10) ?_).2.2; exact (by (with_reducible repeat (first | apply Kd.S_alloc | apply Kd.S_drewN | apply Kd.S_drew)); exact (Kd.S_mono (Kd.S_far (p:=⟨gb414,2,none⟩) (Kd.S_far (p:=⟨gb414,1,none⟩) (Kd.S_far (p:=⟨gb414,0,none⟩) (Kd.S_mono HO409.out (fun k_ hk => (⟨hk,hk.2⟩ : _ ∧ k_ ≠ gb414))) (fun _ hk => hk.2) (.int .i64 t410)) (fun _ hk => hk.2) (.int .i64 t411)) (fun _ hk => hk.2) (.int .i64 t412)) (fun _ h_ => h_.1)))); (case side2 => exact (Kd.S_reads' HO409.out).2.1); rintro e w14 ⟨rfl,hb⟩; refine ⟨_,rfl, ?_⟩; replace HO409:=Aside0.mk (Kd.S_below (by (with_reducible repeat (first | apply Kd.S_alloc | apply Kd.S_drewN | apply Kd.S_drew)); exact (Kd.S_mono (Kd.S_far (p:=⟨gb414,2,none⟩) (Kd.S_far (p:=⟨gb414,1,none⟩) (Kd.S_far (p:=⟨gb414,0,none⟩) (Kd.S_mono HO409.out (fun k_ hk => (⟨hk,hk.2⟩ : _ ∧ k_ ≠ gb414))) (fun _ hk => hk.2) (.int .i64 t410)) (fun _ hk => hk.2) (.int .i64 t411)) (fun _ hk => hk.2) (.int .i64 t412)) (fun _ h_ => h_.1))) hb); replace BK414:=Aside0.mk (Qbl (g:=gb414) (o:=.cells #[.int .i64 t410, .int .i64 t411, .int .i64 t412] 43 (0,0)) (bp (bp (bp (kk BK414) 0) 1) 2) hb); replace HB:=bs HB hb; clear hb) | ((with_reducible refine Qab (f:=33) rfl ?_); refine gl (some 20) Tryd.func33 #[.int .i64 t413] (h := ?_); (with_reducible refine (w11_num.calls t413 t417 _ A3.out).mono ?_); rintro e w' ⟨rfl,⟨nd,rfl⟩⟩; refine ⟨_,rfl, ?_⟩) | (go_at_call 33; (with_reducible refine (w11_num.calls t416 t418 _ A5.out).mono ?_); rintro e w' ⟨rfl,⟨nd,rfl⟩⟩; obtain ⟨_,_,_,_,_,_⟩:=kc3 BK414))
  go_ret
  exact ⟨re,bw HB⟩
 rw [if_neg c7] at H
 have c7b0 : (t410 == 0 && (t411 == 0 && (t412 == 0))) = false:=by simpa using c7
 (try (have c7b1 : decide (t410 = 0 && (t411 == 0 && (t412 == 0))) = false:=by simpa using c7))
 (try (have c7b2 : (t410 == 0 && (t411 == 0 && (t412 == 0))) = false:=by simpa using c7))
 (try (have c7b3 : ¬ (t410 = 0 && (t411 == 0 && (t412 == 0))):=by simpa using c7))
 clear c7
 obtain rfl:=Option.some.inj H
 go_enter Tryd.func37,Tryd.ntmps37
 go_wp2_with (first | ((with_reducible refine Qae (N:=7) rfl ?_); refine Kd.S_lit kOp _ 55 ?hg (N:=7) ?hd (xs:=([(⟨1,1,1,(⟨0,0,0⟩ : SElem),(⟨#[97,98]⟩ : ByteArray),([] : List (SElem)),0,0,0⟩ : SOp)] : List (SOp))) (inner:=[.int .i64 1, .int .i64 1, .int .i64 1, .int .i64 0, .int .i64 0, .int .i64 0, .string (⟨#[97,98]⟩ : ByteArray), .slice none 0 0, .int .i64 0, .int .i64 0, .int .i64 0]) (ok:=fun _ => True) (okp:=fun _ => True) ?hr ?hp (fun _ hk => hk) trivial (Below.refl _ _) (Nat.le_refl _) (by simp) ?_; (case hd => rfl); (case hg => rfl); (case hr => first | (go_simp; done) | (go_simp; rfl)); (case hp => exact (Reps.front (show Kd.M kOp _ _ _ (⟨1,1,1,(⟨0,0,0⟩ : SElem),(⟨#[97,98]⟩ : ByteArray),([] : List (SElem)),0,0,0⟩ : SOp) [.int .i64 1, .int .i64 1, .int .i64 1, .int .i64 0, .int .i64 0, .int .i64 0, .string (⟨#[97,98]⟩ : ByteArray), .slice none 0 0, .int .i64 0, .int .i64 0, .int .i64 0] from (kOp_mkM _ _ _ (⟨1,1,1,(⟨0,0,0⟩ : SElem),(⟨#[97,98]⟩ : ByteArray),([] : List (SElem)),0,0,0⟩ : SOp) (Kd.R_nil _ _ _ _ _))) rfl (Reps.none _ _) rfl)); intro v408 w16 ho17 hb hg_ hnew_; clear hg_ hnew_; (first | rw [← Ny407.out] at ho17 | (simp only [Int.reduceToNat] at ho17; rw [← Ny407.out] at ho17)); have HO409:=Aside0.mk (Kd.S_lower ho17 (Qai (bw HB))); replace HB:=bs HB hb; clear hb ho17; obtain ⟨Ao18,co18,eo18⟩:=Kd.S_slice HO409.out; subst eo18) | ((with_reducible refine Qab (f:=32) rfl ?_); refine gl (some 10) Tryd.func32 #[.slice Ao18 y407.length co18, .int .i64 0] (h := ?_); (with_reducible refine (caret_Set.calls k _ _ y407 0 t410 t411 t412 t413 _ ?side1 ?side2 A1.out).mono ?_); (case side1 => exact cs HO409); (case side2 => exact (Kd.S_reads' HO409.out).2.1); rintro e w19 ⟨rfl,hb⟩; refine ⟨_,rfl, ?_⟩; replace HO409:=sb HO409 hb; replace HB:=bs HB hb; clear hb) | ((with_reducible refine Qae (N:=2) rfl ?_); refine bx 2 #[.int .i64 0, .int .i64 0, .int .i64 0] 43 (h := ?_); intro gb414 hg w20 hbox hb; have BK414:=Aside0.mk (hbox); have GW414:=bz HB hg; have GE414:=bz HB hg; replace HO409:=Aside0.mk (Kd.S_below (Kd.S_elderB (sk HO409) gb414 (Nat.le_of_eq hg.symm)) hb); replace HB:=bs HB hb; clear hb hbox hg; obtain ⟨_,_,_,_,_,_⟩:=kc3 BK414) | ((with_reducible refine Qab (f:=35) rfl ?_); refine gl (some 16) Tryd.func35 #[.slice Ao18 y407.length co18, .agg #[.int .i64 1, .int .i64 1, .int .i64 1]] (h := ?_); (with_reducible refine (caret_Place.calls _ _ y407 1 1 1 t415 t416 _ ?side1 ?side2 A2.out).mono ?_); (case side1 => refine (Kd.S_reads' (e:=55) (base:=w.heap.size) (ok:=fun k_ => (True ∧ k_ ≠ gb414)) (n:=y407.length) (c:=co18) ?_).2.2; exact (by (with_reducible repeat (first | apply Kd.S_alloc | apply Kd.S_drewN | apply Kd.S_drew)); exact (Kd.S_mono (Kd.S_far (p:=⟨gb414,2,none⟩) (Kd.S_far (p:=⟨gb414,1,none⟩) (Kd.S_far (p:=⟨gb414,0,none⟩) (Kd.S_mono HO409.out (fun k_ hk => (⟨hk,hk.2⟩ : _ ∧ k_ ≠ gb414))) (fun _ hk => hk.2) (.int .i64 t410)) (fun _ hk => hk.2) (.int .i64 t411)) (fun _ hk => hk.2) (.int .i64 t412)) (fun _ h_ => h_.1)))); (case side2 => exact (Kd.S_reads' HO409.out).2.1); rintro e w22 ⟨rfl,hb⟩; refine ⟨_,rfl, ?_⟩; replace HO409:=Aside0.mk (Kd.S_below (by (with_reducible repeat (first | apply Kd.S_alloc | apply Kd.S_drewN | apply Kd.S_drew)); exact (Kd.S_mono (Kd.S_far (p:=⟨gb414,2,none⟩) (Kd.S_far (p:=⟨gb414,1,none⟩) (Kd.S_far (p:=⟨gb414,0,none⟩) (Kd.S_mono HO409.out (fun k_ hk => (⟨hk,hk.2⟩ : _ ∧ k_ ≠ gb414))) (fun _ hk => hk.2) (.int .i64 t410)) (fun _ hk => hk.2) (.int .i64 t411)) (fun _ hk => hk.2) (.int .i64 t412)) (fun _ h_ => h_.1))) hb); replace BK414:=Aside0.mk (Qbl (g:=gb414) (o:=.cells #[.int .i64 t410, .int .i64 t411, .int .i64 t412] 43 (0,0)) (bp (bp (bp (kk BK414) 0) 1) 2) hb); replace HB:=bs HB hb; clear hb) | ((with_reducible refine Qab (f:=33) rfl ?_); refine gl (some 20) Tryd.func33 #[.int .i64 t413] (h := ?_); (with_reducible refine (w11_num.calls t413 t417 _ A3.out).mono ?_); rintro e w' ⟨rfl,⟨nd,rfl⟩⟩; refine ⟨_,rfl, ?_⟩) | (go_at_call 33; (with_reducible refine (w11_num.calls t416 t418 _ A5.out).mono ?_); rintro e w' ⟨rfl,⟨nd,rfl⟩⟩; obtain ⟨_,_,_,_,_,_⟩:=kc3 BK414))
 go_ret
 exact ⟨re,bw HB⟩
end
end Go.Proofs.YtonoaflfobajcaaDoor.L
end
