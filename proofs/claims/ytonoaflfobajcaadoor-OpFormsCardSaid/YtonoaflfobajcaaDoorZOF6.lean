/- Part 6 of the proof that for every argument the law OpForms answers true: ops of each form, with each part spoilt by itself, may be, or not, as the page says: by ops made here. -/
import Derived.Test.YtonoaflfobajcaaDoorZOF5
section
namespace Go.Proofs.YtonoaflfobajcaaDoor.L
open Go.RowKit Go.Proofs.YtonoaflfobajcaaDoorW.PrintWords Go.Proofs.YtonoaflfobajcaaDoorW.PrintLast Go.Proofs.YtonoaflfobajcaaDoorW.PrintMore
set_option linter.unusedVariables false
set_option linter.unusedSimpArgs false
set_option maxHeartbeats 40000000
set_option maxRecDepth 1000000
section
def Qbl (o : SOp) : List SElem:=if Qak o.f3 = true then [] else [z0 o.f3]
def Qca (l : List SElem) (g : List SElem) : List SElem:=g.foldl (fun l e => putL l (z0 e)) l
def Qcb (o : SOp) : List SElem:=if o.f2 = 2 then [⟨o.f6,o.f7,0⟩] else Qca (Qbl o) o.f5
def refNeedsF (o : SOp) : Option (List SElem):=if o.f5.length <= 900000 then some (Qcb o) else none
def r4_Needs.f (a0_0 : Int) (a0_1 : Int) (a0_2 : Int) (a0_3 : Int) (a0_4 : Int) (a0_5 : Int) (a0_6 : ByteArray) (l0_7 : List (SElem)) (a0_8 : Int) (a0_9 : Int) (a0_10 : Int) : Option ((List (SElem))):=refNeedsF ⟨a0_0,a0_1,a0_2,⟨a0_3,a0_4,a0_5⟩,a0_6,l0_7,a0_8,a0_9,a0_10⟩
theorem putL_len (e : SElem) : ∀ l : List SElem,(putL l e).length <= l.length + 1
 | [] => Nat.le_refl _
 | x :: r => by
  have:=putL_len e r
  unfold putL
  split
  ·simp only [List.length_cons]; omega
  ·split
   ·exact Nat.le_succ _
   ·simp only [List.length_cons]; omega
theorem refPuts_len (g : List SElem) : ∀ l : List SElem,(Qca l g).length <= l.length + g.length:=by
 induction g with
 | nil => intro l; exact Nat.le_refl _
 | cons e r ih =>
  intro l
  have h1:=ih (putL l (z0 e))
  have h2:=putL_len (z0 e) l
  show (Qca (putL l (z0 e)) r).length <= _
  simp only [List.length_cons]; omega
theorem refPuts_snoc (l : List SElem) (g : List SElem) {k : Nat} (hk : k < g.length) : Qca l (g.take (k + 1)) = putL (Qca l (g.take k)) (z0 (Qaa g (k : Int))):=by
 rw [List.take_succ_eq_append_getElem hk,Qaj _ _ hk]
 unfold Qca
 rw [List.foldl_append]
 rfl
theorem rbegin_f (e : SElem) : r4_Begin.f e.f0 e.f1 e.f2 = some (Qak e):=by
 unfold r4_Begin.f Qak
 rfl
theorem putAny {W : World} {base : Nat} {v : Value} {l : List SElem} (a b c : Int) (h : RE W base v l) (hb : base <= W.heap.size) (hl : l.length <= 1000000) :
  Calls Tryd.prog 79 #[v, .agg #[.int .i64 a, .int .i64 b, .int .i64 c]] W fun ex w' => ∃ v' : Value,ex = .returned v' /\ RE w' base v' (putL l ⟨a,b,c⟩) /\ Below W.heap.size W w':=by
 rcases Nat.eq_zero_or_pos l.length with h0 | h0
 ·obtain rfl : l = []:=List.eq_nil_of_length_eq_zero h0
  obtain ⟨A,c0,rfl⟩:=Kd.R_slice h
  refine (put_calls A c0 a b c W).mono ?_
  rintro e w' ⟨v',rfl,h1,h2⟩
  exact ⟨v',rfl,Kd.R_lower h1 hb,h2⟩
 ·obtain ⟨g,c0,rfl,_⟩:=Kd.R_form h h0
  exact putN_calls a b c h hb hl
theorem RE_lit (w1 : World) (x : SElem) {base g : Nat} (hg : w1.heap.size = g) (hb : base <= w1.heap.size) : RE (w1.alloc (.cells #[.int .i64 x.f0, .int .i64 x.f1, .int .i64 x.f2] 43)) base (.slice (some ⟨g,0,none⟩) 1 1) [x]:=by
 subst hg
 exact ⟨fun _ _ => trivial,[.int .i64 x.f0, .int .i64 x.f1, .int .i64 x.f2],⟨rfl, .inr ⟨w1.heap.size,1,_,rfl,hb,heap_alloc_new w1 _,Nat.le_refl _,by unfold maxLen; omega,rfl,rfl⟩⟩,Reps.c3 (Qan _ _ _ x) (Reps.none _ _)⟩
theorem RNeeds_calls (o : SOp) (A7 : Option Addr) (c7 : Nat) (w : World) (hr7 : Kd.C Qam w A7 o.f5.length o.f5) (hc7 : o.f5.length <= c7) (hl : o.f5.length <= 900000) :
  Calls Tryd.prog 44 #[.agg (oCells o A7 c7).toArray] w fun e w' => ∃ v0_ : Value,e = .returned v0_ /\ RE w' w.heap.size v0_ (Qcb o) /\ Below w.heap.size w w':=by
 have HAL:=Zz.k (Qah (Below.refl w.heap.size w) (.cells (oCells o A7 c7).toArray 55))
 have HR7:=Zz.k hr7
 have HL:=Zz.k hl
 have HB:=Zz.k (O11.boxed w o A7 c7 55)
 obtain ⟨b0,b1,b2,b3,b4,b5,b6,b7,b8,b9,b10⟩:=HB.out
 have HSZ:=Zz.k (show w.heap.size + 1 <= (w.alloc (.cells (oCells o A7 c7).toArray 55)).heap.size by simp)
 clear hr7 hl
 by_cases h2 : o.f2 = 2
 ·have HN:=Zz.k (show Qcb o = [⟨o.f6,o.f7,0⟩] by unfold Qcb; rw [if_pos h2])
  go_enter Tryd.func44,Tryd.ntmps44
  go_wp2
  go_ret
  exact ⟨_,rfl,by rw [HN.out]; exact RE_lit _ ⟨o.f6,o.f7,0⟩ (by simp) HAL.out.size,Qah HAL.out _⟩
 ·have HN:=Zz.k (show Qcb o = Qca (Qbl o) o.f5 by unfold Qcb; rw [if_neg h2])
  go_enter Tryd.func44,Tryd.ntmps44
  go_wp2_with fail
  refine (r4_Begin.calls o.f3.f0 o.f3.f1 o.f3.f2 (Qak o.f3) _ (rbegin_f o.f3)).mono ?_
  rintro e w2 ⟨rfl,hb2⟩
  have HB2:=Zz.k (O11.below HB.out hb2)
  have HBW:=Zz.k (Qap HAL.out hb2)
  clear b0 b1 b2 b3 b4 b5 b6 b7 b8 b9 b10 HB HAL hb2 HSZ
  obtain ⟨x0,x1,x2,x3,x4,x5,x6,x7,x8,x9,x10⟩:=HB2.out
  have hfin : Qbl o = if Qak o.f3 = true then [] else [z0 o.f3]:=rfl
  have HFR:=Zz.k hfin
  clear hfin h2
  rcases Bool.eq_false_or_eq_true (Qak o.f3) with hbg | hbg
  case' inl =>
   rw [hbg]
   have HF:=Zz.k (show Qbl o = [] by rw [HFR.out,if_pos hbg])
   clear hbg HFR
   go_upto_region 6 with (fail)
   have hv0 : ∃ v0 : Value,v0 = .slice none 0 0:=⟨_,rfl⟩
   obtain ⟨v0,hv0⟩:=hv0
   have HRV:=Zz.k (show RE w2 w.heap.size v0 (Qbl o) by rw [HF.out,hv0]; exact Kd.R_nil _ _ _ _ _)
   rw [<- hv0]
   clear hv0 HF
  case' inr =>
   rw [hbg]
   have HF:=Zz.k (show Qbl o = [z0 o.f3] by rw [HFR.out,hbg]; rfl)
   clear hbg HFR
   have HP:=Zz.k (put_calls none 0 o.f3.f0 o.f3.f1 0 w2)
   go_wp2_with fail
   refine HP.out.mono ?_
   rintro e w3 ⟨v0,rfl,hR3,hb3⟩
   have HRV:=Zz.k (show RE w3 w.heap.size v0 (Qbl o) by rw [HF.out]; exact Kd.R_lower hR3 HBW.out.size)
   replace HB2:=Zz.k (O11.below HB2.out hb3)
   replace HBW:=Zz.k (Qap HBW.out hb3)
   clear x0 x1 x2 x3 x4 x5 x6 x7 x8 x9 x10 hR3 hb3 HP HF
   obtain ⟨x0,x1,x2,x3,x4,x5,x6,x7,x8,x9,x10⟩:=HB2.out
   go_upto_region 6 with (fail)
  all_goals
   clear x0 x1 x2 x3 x4 x5 x6 x7 x8 x9 x10
   go_wp2
   go_loopg [3,4] o.f5.length (fun gg s3 s4 wr => ∃ (k : Nat) (v : Value),k <= o.f5.length /\ o.f5.length - k <= gg /\ v = s3 /\ s4 = .int .i64 k /\ Zz (RE wr w.heap.size v (Qca (Qbl o) (o.f5.take k))) /\ Zz (O11 wr w.heap.size o A7 c7) /\ Zz (Below w.heap.size w wr))
   case atStart => exact ⟨0,_,by omega,by omega,rfl,rfl,⟨by rw [List.take_zero]; exact HRV.out⟩,HB2,HBW⟩
   case round =>
    clear HRV HB2 HBW
    obtain ⟨k,v,hk,hgk,rfl,rfl,HRV,HB2,HBW⟩:=hrel
    obtain ⟨x0,x1,x2,x3,x4,x5,x6,x7,x8,x9,x10⟩:=HB2.out
    have h0z : (0 : Int) <= (k : Int):=by omega
    by_cases hlt : k < o.f5.length
    ·obtain ⟨g1,rfl⟩ : ∃ g1,gk = g1 + 1:=⟨gk - 1,by omega⟩
     have hltz : (k : Int) < (o.f5.length : Int):=by omega
     obtain ⟨ad,rfl,y0,y1,y2⟩:=Qat (Kd.C_below HR7.out HBW.out) (k : Int) h0z hltz
     have HSN:=Zz.k (refPuts_snoc (Qbl o) o.f5 hlt)
     have HLN:=Zz.k (show (Qca (Qbl o) (o.f5.take k)).length <= 1000000 by
      have h1:=refPuts_len (o.f5.take k) (Qbl o)
      have h2 : (Qbl o).length <= 1:=by unfold Qbl; split <;> simp
      have h3:=HL.out
      rw [List.length_take] at h1
      omega)
     simp only [Int.toNat_natCast] at y0 y1 y2
     generalize hx : Qaa o.f5 (k : Int) = x at y0 y1 y2 HSN
     clear hx y2
     go_upto_region 9 with (fail)
     refine stR (S:=fun w' => O11 w' w.heap.size o (some ad) c7 /\ w'.cell? (ad.add (k * 3)) = some (.int .i64 x.f0) /\ w'.cell? ⟨(ad.add (k * 3)).block,(ad.add (k * 3)).off + 1,none⟩ = some (.int .i64 x.f1)) 16 t_r4_Needs.bits9 t_r4_Needs.tab9 (hS:=⟨⟨x0,x1,x2,x3,x4,x5,x6,x7,x8,x9,x10⟩,y0,y1⟩) (h:=fun hS HT HW => ?_)
     clear x0 x1 x2 x3 x4 x5 x6 x7 x8 x9 x10 y0 y1
     have HB1:=Zz.k (Qai HBW.out)
     have HR1:=Zz.k (Kd.R_drew HRV.out)
     clear HB2 HBW HRV
     generalize wr.drew = wd at HB1 HR1 hS ⊢
     refine pu HT 0 34 1 (h := ?_)
     refine pu HT 1 35 3 (h := ?_)
     refine tk HT HW hS 2 36 7 (h := ?_)
     refine pu HT 3 37 15 (h := ?_)
     refine pu HT 4 38 31 (h := ?_)
     refine pu HT 5 39 63 (h := ?_)
     refine tk HT HW hS 6 40 127 (h := ?_)
     refine pu HT 7 41 255 (h := ?_)
     refine tk HT HW hS 8 42 511 (h := ?_)
     refine pu HT 9 43 1023 (h := ?_)
     refine pu HT 10 44 2047 (h := ?_)
     refine pu HT 11 45 4095 (h := ?_)
     refine tk HT HW hS 12 46 8191 (h := ?_)
     refine pu HT 13 47 16383 (h := ?_)
     refine ca HT 14 (some 48) 32767 #[v, .agg #[.int .i64 x.f0, .int .i64 x.f1, .int .i64 0]] Tryd.func79 (h:=fun K hK => ?_)
     refine (putAny x.f0 x.f1 0 HR1.out HB1.out.size HLN.out).mono ?_
     rintro e w3 ⟨v',rfl,hR3,hb3⟩
     refine ⟨_,rfl, ?_⟩
     have hS3 : O11 w3 w.heap.size o (some ad) c7 /\ w3.cell? (ad.add (k * 3)) = some (.int .i64 x.f0) /\ w3.cell? ⟨(ad.add (k * 3)).block,(ad.add (k * 3)).off + 1,none⟩ = some (.int .i64 x.f1):=⟨O11.below hS.1 hb3,Qad hb3 hS.2.1,Qad hb3 hS.2.2⟩
     have HB3:=Zz.k (Qap HB1.out hb3)
     have HO3:=Zz.k hS3.1
     have HR3:=Zz.k (show RE w3 w.heap.size v' (Qca (Qbl o) (o.f5.take (k + 1))) by rw [HSN.out]; exact hR3)
     refine hK.out _ _ hS3 (fun hS => ?_)
     clear hK hS3 hR3 hb3 HB1 HR1
     refine nm (h := ?_)
     refine pu HT 15 3 65535 (h := ?_)
     refine dn HT (h := ?_)
     clear HT HW hS
     have hn6 : o.f5.length <= 1000000:=by have:=HL.out; omega
     go_wp2
     go_roundg g1
     case measure => omega
     case rel => exact ⟨k + 1,_,by omega,by omega,rfl,by go_num,HR3,HO3,HB3⟩
    ·have hkz : ¬ (k : Int) < (o.f5.length : Int):=by omega
     have HFI:=Zz.k (show Qcb o = Qca (Qbl o) (o.f5.take k) by rw [HN.out,List.take_of_length_le (by omega)])
     go_wp2
     go_ret
     exact ⟨_,rfl,by rw [HFI.out]; exact HRV.out,HBW.out⟩
theorem r4_Needs.calls (a0_0 : Int) (a0_1 : Int) (a0_2 : Int) (a0_3 : Int) (a0_4 : Int) (a0_5 : Int) (a0_6 : ByteArray) (A0_7 : Option Addr) (c0_7 : Nat) (l0_7 : List (SElem)) (a0_8 : Int) (a0_9 : Int) (a0_10 : Int) (r : List (SElem)) (w : World) (hr0_7 : Kd.C Qam w A0_7 l0_7.length l0_7) (hc0_7 : l0_7.length <= c0_7) (h : r4_Needs.f a0_0 a0_1 a0_2 a0_3 a0_4 a0_5 a0_6 l0_7 a0_8 a0_9 a0_10 = some r) :
  Calls Tryd.prog 44 #[.agg #[.int .i64 a0_0, .int .i64 a0_1, .int .i64 a0_2, .int .i64 a0_3, .int .i64 a0_4, .int .i64 a0_5, .string a0_6, .slice A0_7 l0_7.length c0_7, .int .i64 a0_8, .int .i64 a0_9, .int .i64 a0_10]] w fun e w' => ∃ v0_ : Value,e = .returned (v0_) /\ Kd.R Qam 43 w' w.heap.size (fun _ => True) v0_ r /\ Below w.heap.size w w':=by
 unfold r4_Needs.f refNeedsF at h
 split at h
 case isFalse => cases h
 rename_i hl
 obtain rfl:=Zo h
 exact RNeeds_calls ⟨a0_0,a0_1,a0_2,⟨a0_3,a0_4,a0_5⟩,a0_6,l0_7,a0_8,a0_9,a0_10⟩ A0_7 c0_7 w hr0_7 hc0_7 hl
end
section
attribute [local go_sem] Qbq Qbo Qcd Qcc Qba Qaz Qbp Qbn
theorem w4_OpForms.bxo {G : Prop} (h : Nonempty G) : G:=h.elim id
mutual
def w4_OpForms.l0 : Nat -> List (SOp) -> Int -> List (SOp) -> List (SElem) -> List Int -> Int -> Int -> Int -> Option (Bool)
 | 0,_,_,_,_,_,_,_,_ => none
 | k + 1,x4,x5,x255000,x255001,x255002,x256000,x256001,x256002 => if x5 < (x4.length : Int) then (w4_OpForms.l1 k x4 x5 0 x255000 x255001 x255002 x256000 x256001 x256002) else (if (x255002.length : Int) >= 0 then ((w4_wakes.f k).bind fun t265 => (some t265)) else (some false))
def w4_OpForms.l1 : Nat -> List (SOp) -> Int -> Int -> List (SOp) -> List (SElem) -> List Int -> Int -> Int -> Int -> Option (Bool)
 | 0,_,_,_,_,_,_,_,_,_ => none
 | k + 1,x4,x5,x6,x255000,x255001,x255002,x256000,x256001,x256002 => if x6 < 22 then (if 0 <= x5 then (if x5 < (x4.length : Int) then ((r0_CopyOp.f k ((Qau x4 x5).f0) ((Qau x4 x5).f1) ((Qau x4 x5).f2) ((Qau x4 x5).f3.f0) ((Qau x4 x5).f3.f1) ((Qau x4 x5).f3.f2) ((Qau x4 x5).f4) ((Qau x4 x5).f5) ((Qau x4 x5).f6) ((Qau x4 x5).f7) ((Qau x4 x5).f8)).bind fun bt267 => (if x6 = 1 then (w4_OpForms.j2 k x4 x5 x6 x255000 x255001 x255002 x256000 x256001 x256002 0 bt267.2.1 bt267.2.2.1 bt267.2.2.2.1 bt267.2.2.2.2.1 bt267.2.2.2.2.2.1 bt267.2.2.2.2.2.2.1 bt267.2.2.2.2.2.2.2.1 bt267.2.2.2.2.2.2.2.2.1 bt267.2.2.2.2.2.2.2.2.2.1 bt267.2.2.2.2.2.2.2.2.2.2) else (if x6 = 2 then (w4_OpForms.j2 k x4 x5 x6 x255000 x255001 x255002 x256000 x256001 x256002 9 bt267.2.1 bt267.2.2.1 bt267.2.2.2.1 bt267.2.2.2.2.1 bt267.2.2.2.2.2.1 bt267.2.2.2.2.2.2.1 bt267.2.2.2.2.2.2.2.1 bt267.2.2.2.2.2.2.2.2.1 bt267.2.2.2.2.2.2.2.2.2.1 bt267.2.2.2.2.2.2.2.2.2.2) else (if x6 = 3 then (w4_OpForms.j2 k x4 x5 x6 x255000 x255001 x255002 x256000 x256001 x256002 bt267.1 0 bt267.2.2.1 bt267.2.2.2.1 bt267.2.2.2.2.1 bt267.2.2.2.2.2.1 bt267.2.2.2.2.2.2.1 bt267.2.2.2.2.2.2.2.1 bt267.2.2.2.2.2.2.2.2.1 bt267.2.2.2.2.2.2.2.2.2.1 bt267.2.2.2.2.2.2.2.2.2.2) else (if x6 = 4 then (w4_OpForms.j2 k x4 x5 x6 x255000 x255001 x255002 x256000 x256001 x256002 bt267.1 268435457 bt267.2.2.1 bt267.2.2.2.1 bt267.2.2.2.2.1 bt267.2.2.2.2.2.1 bt267.2.2.2.2.2.2.1 bt267.2.2.2.2.2.2.2.1 bt267.2.2.2.2.2.2.2.2.1 bt267.2.2.2.2.2.2.2.2.2.1 bt267.2.2.2.2.2.2.2.2.2.2) else (if x6 = 5 then (w4_OpForms.j2 k x4 x5 x6 x255000 x255001 x255002 x256000 x256001 x256002 bt267.1 bt267.2.1 3 bt267.2.2.2.1 bt267.2.2.2.2.1 bt267.2.2.2.2.2.1 bt267.2.2.2.2.2.2.1 bt267.2.2.2.2.2.2.2.1 bt267.2.2.2.2.2.2.2.2.1 bt267.2.2.2.2.2.2.2.2.2.1 bt267.2.2.2.2.2.2.2.2.2.2) else (if x6 = 6 then (w4_OpForms.j2 k x4 x5 x6 x255000 x255001 x255002 x256000 x256001 x256002 bt267.1 bt267.2.1 0 bt267.2.2.2.1 bt267.2.2.2.2.1 bt267.2.2.2.2.2.1 bt267.2.2.2.2.2.2.1 bt267.2.2.2.2.2.2.2.1 bt267.2.2.2.2.2.2.2.2.1 bt267.2.2.2.2.2.2.2.2.2.1 bt267.2.2.2.2.2.2.2.2.2.2) else (if x6 = 7 then (w4_OpForms.j2 k x4 x5 x6 x255000 x255001 x255002 x256000 x256001 x256002 bt267.1 bt267.2.1 (wrap64 (3 - bt267.2.2.1)) bt267.2.2.2.1 bt267.2.2.2.2.1 bt267.2.2.2.2.2.1 bt267.2.2.2.2.2.2.1 bt267.2.2.2.2.2.2.2.1 bt267.2.2.2.2.2.2.2.2.1 bt267.2.2.2.2.2.2.2.2.2.1 bt267.2.2.2.2.2.2.2.2.2.2) else (if x6 = 8 then (w4_OpForms.j2 k x4 x5 x6 x255000 x255001 x255002 x256000 x256001 x256002 bt267.1 bt267.2.1 bt267.2.2.1 bt267.2.2.2.1 bt267.2.2.2.2.1 bt267.2.2.2.2.2.1 (⟨#[]⟩ : ByteArray) bt267.2.2.2.2.2.2.2.1 bt267.2.2.2.2.2.2.2.2.1 bt267.2.2.2.2.2.2.2.2.2.1 bt267.2.2.2.2.2.2.2.2.2.2) else (if x6 = 9 then (w4_OpForms.j2 k x4 x5 x6 x255000 x255001 x255002 x256000 x256001 x256002 bt267.1 bt267.2.1 bt267.2.2.1 bt267.2.2.2.1 bt267.2.2.2.2.1 bt267.2.2.2.2.2.1 (⟨#[128]⟩ : ByteArray) bt267.2.2.2.2.2.2.2.1 bt267.2.2.2.2.2.2.2.2.1 bt267.2.2.2.2.2.2.2.2.2.1 bt267.2.2.2.2.2.2.2.2.2.2) else (if x6 = 10 then (w4_OpForms.j2 k x4 x5 x6 x255000 x255001 x255002 x256000 x256001 x256002 bt267.1 bt267.2.1 bt267.2.2.1 bt267.2.2.2.1 bt267.2.2.2.2.1 bt267.2.2.2.2.2.1 (⟨#[48,49,50,51,52,53,54,55,56,57,97,98]⟩ : ByteArray) bt267.2.2.2.2.2.2.2.1 bt267.2.2.2.2.2.2.2.2.1 bt267.2.2.2.2.2.2.2.2.2.1 bt267.2.2.2.2.2.2.2.2.2.2) else (if x6 = 11 then (w4_OpForms.j2 k x4 x5 x6 x255000 x255001 x255002 x256000 x256001 x256002 bt267.1 bt267.2.1 bt267.2.2.1 bt267.2.2.2.1 bt267.2.2.2.2.1 bt267.2.2.2.2.2.1 (⟨#[48,49,50,51,52,53,54,55,56,57,97,98,99]⟩ : ByteArray) bt267.2.2.2.2.2.2.2.1 bt267.2.2.2.2.2.2.2.2.1 bt267.2.2.2.2.2.2.2.2.2.1 bt267.2.2.2.2.2.2.2.2.2.2) else (if x6 = 12 then (if bt267.2.2.2.2.2.2.2.1.length < 5864062014805 then (w4_OpForms.j2 k x4 x5 x6 x255000 x255001 x255002 x256000 x256001 x256002 bt267.1 bt267.2.1 bt267.2.2.1 bt267.2.2.2.1 bt267.2.2.2.2.1 bt267.2.2.2.2.2.1 bt267.2.2.2.2.2.2.1 (bt267.2.2.2.2.2.2.2.1 ++ [(⟨x256000,x256001,x256002⟩ : SElem)]) bt267.2.2.2.2.2.2.2.2.1 bt267.2.2.2.2.2.2.2.2.2.1 bt267.2.2.2.2.2.2.2.2.2.2) else (none)) else (if x6 = 13 then (if bt267.2.2.2.2.2.2.2.1.length < 5864062014805 then (w4_OpForms.j2 k x4 x5 x6 x255000 x255001 x255002 x256000 x256001 x256002 bt267.1 bt267.2.1 bt267.2.2.1 bt267.2.2.2.1 bt267.2.2.2.2.1 bt267.2.2.2.2.2.1 bt267.2.2.2.2.2.2.1 (bt267.2.2.2.2.2.2.2.1 ++ [(⟨0,0,0⟩ : SElem)]) bt267.2.2.2.2.2.2.2.2.1 bt267.2.2.2.2.2.2.2.2.2.1 bt267.2.2.2.2.2.2.2.2.2.2) else (none)) else (if x6 = 14 then (if bt267.2.2.2.2.2.2.2.1.length < 5864062014805 then (w4_OpForms.j2 k x4 x5 x6 x255000 x255001 x255002 x256000 x256001 x256002 bt267.1 bt267.2.1 bt267.2.2.1 bt267.2.2.2.1 bt267.2.2.2.2.1 bt267.2.2.2.2.2.1 bt267.2.2.2.2.2.2.1 (bt267.2.2.2.2.2.2.2.1 ++ [(⟨bt267.1,bt267.2.1,0⟩ : SElem)]) bt267.2.2.2.2.2.2.2.2.1 bt267.2.2.2.2.2.2.2.2.2.1 bt267.2.2.2.2.2.2.2.2.2.2) else (none)) else (if x6 = 15 then (if bt267.2.2.2.2.2.2.2.1.length < 5864062014805 then (w4_OpForms.j2 k x4 x5 x6 x255000 x255001 x255002 x256000 x256001 x256002 bt267.1 bt267.2.1 bt267.2.2.1 bt267.2.2.2.1 bt267.2.2.2.2.1 bt267.2.2.2.2.2.1 bt267.2.2.2.2.2.2.1 (bt267.2.2.2.2.2.2.2.1 ++ [(⟨8,5,12⟩ : SElem)]) bt267.2.2.2.2.2.2.2.2.1 bt267.2.2.2.2.2.2.2.2.2.1 bt267.2.2.2.2.2.2.2.2.2.2) else (none)) else (if x6 = 16 then (w4_OpForms.j2 k x4 x5 x6 x255000 x255001 x255002 x256000 x256001 x256002 bt267.1 bt267.2.1 bt267.2.2.1 bt267.1 bt267.2.1 0 bt267.2.2.2.2.2.2.1 bt267.2.2.2.2.2.2.2.1 bt267.2.2.2.2.2.2.2.2.1 bt267.2.2.2.2.2.2.2.2.2.1 bt267.2.2.2.2.2.2.2.2.2.2) else (if x6 = 17 then (w4_OpForms.j2 k x4 x5 x6 x255000 x255001 x255002 x256000 x256001 x256002 bt267.1 bt267.2.1 bt267.2.2.1 3 0 1 bt267.2.2.2.2.2.2.1 bt267.2.2.2.2.2.2.2.1 bt267.2.2.2.2.2.2.2.2.1 bt267.2.2.2.2.2.2.2.2.2.1 bt267.2.2.2.2.2.2.2.2.2.2) else (if x6 = 18 then (w4_OpForms.j2 k x4 x5 x6 x255000 x255001 x255002 x256000 x256001 x256002 bt267.1 bt267.2.1 bt267.2.2.1 bt267.2.2.2.1 bt267.2.2.2.2.1 bt267.2.2.2.2.2.1 bt267.2.2.2.2.2.2.1 bt267.2.2.2.2.2.2.2.1 bt267.1 bt267.2.1 bt267.2.2.2.2.2.2.2.2.2.2) else (if x6 = 19 then (w4_OpForms.j2 k x4 x5 x6 x255000 x255001 x255002 x256000 x256001 x256002 bt267.1 bt267.2.1 bt267.2.2.1 bt267.2.2.2.1 bt267.2.2.2.2.1 bt267.2.2.2.2.2.1 bt267.2.2.2.2.2.2.1 bt267.2.2.2.2.2.2.2.1 bt267.2.2.2.2.2.2.2.2.1 bt267.2.2.2.2.2.2.2.2.2.1 (-1)) else (if x6 = 20 then (w4_OpForms.j2 k x4 x5 x6 x255000 x255001 x255002 x256000 x256001 x256002 bt267.1 bt267.2.1 bt267.2.2.1 bt267.2.2.2.1 bt267.2.2.2.2.1 bt267.2.2.2.2.2.1 bt267.2.2.2.2.2.2.1 bt267.2.2.2.2.2.2.2.1 0 bt267.2.2.2.2.2.2.2.2.2.1 bt267.2.2.2.2.2.2.2.2.2.2) else (if x6 = 21 then (w4_OpForms.j2 k x4 x5 x6 x255000 x255001 x255002 x256000 x256001 x256002 bt267.1 bt267.2.1 bt267.2.2.1 bt267.2.2.2.1 bt267.2.2.2.2.1 bt267.2.2.2.2.2.1 bt267.2.2.2.2.2.2.1 bt267.2.2.2.2.2.2.2.1 bt267.2.2.2.2.2.2.2.2.1 268435456 bt267.2.2.2.2.2.2.2.2.2.2) else (w4_OpForms.j2 k x4 x5 x6 x255000 x255001 x255002 x256000 x256001 x256002 bt267.1 bt267.2.1 bt267.2.2.1 bt267.2.2.2.1 bt267.2.2.2.2.1 bt267.2.2.2.2.2.1 bt267.2.2.2.2.2.2.1 bt267.2.2.2.2.2.2.2.1 bt267.2.2.2.2.2.2.2.2.1 bt267.2.2.2.2.2.2.2.2.2.1 bt267.2.2.2.2.2.2.2.2.2.2))))))))))))))))))))))) else (none)) else (none)) else (w4_OpForms.l0 k x4 (wrap64 (x5 + 1)) x255000 x255001 x255002 x256000 x256001 x256002)
def w4_OpForms.j2 : Nat -> List (SOp) -> Int -> Int -> List (SOp) -> List (SElem) -> List Int -> Int -> Int -> Int -> Int -> Int -> Int -> Int -> Int -> Int -> ByteArray -> List (SElem) -> Int -> Int -> Int -> Option (Bool)
 | 0,_,_,_,_,_,_,_,_,_,_,_,_,_,_,_,_,_,_,_,_ => none
 | k + 1,x4,x5,x6,x255000,x255001,x255002,x256000,x256001,x256002,x281000,x281001,x281002,x281003,x281004,x281005,x281006,x281007,x281008,x281009,x281010 => (op_Needs.f x281000 x281001 x281002 x281003 x281004 x281005 x281006 x281007 x281008 x281009 x281010).bind fun bt293 => ((r4_Op.f k x281000 x281001 x281002 x281003 x281004 x281005 x281006 x281007 x281008 x281009 x281010).bind fun t297 => ((op_Check.f k x281000 x281001 x281002 x281003 x281004 x281005 x281006 x281007 x281008 x281009 x281010).bind fun t298 => ((w4_num.f t298).bind fun t299 => (if ((t299 == 0) != t297) = true then (w4_OpForms.j3 k x4 x5 x6 true x255000 x255001 x255002 x256000 x256001 x256002) else ((w4_num.f bt293.2).bind fun t300 => (if ((t300 == 0) != t297) = true then (w4_OpForms.j3 k x4 x5 x6 true x255000 x255001 x255002 x256000 x256001 x256002) else (if t297 = true then ((r4_Needs.f x281000 x281001 x281002 x281003 x281004 x281005 x281006 x281007 x281008 x281009 x281010).bind fun t301 => ((r0_EqElems.f k bt293.1 t301).bind fun t304 => (w4_OpForms.j3 k x4 x5 x6 (!t304) x255000 x255001 x255002 x256000 x256001 x256002))) else (w4_OpForms.j3 k x4 x5 x6 false x255000 x255001 x255002 x256000 x256001 x256002))))))))
def w4_OpForms.j3 : Nat -> List (SOp) -> Int -> Int -> Bool -> List (SOp) -> List (SElem) -> List Int -> Int -> Int -> Int -> Option (Bool)
 | 0,_,_,_,_,_,_,_,_,_,_ => none
 | k + 1,x4,x5,x6,x169,x255000,x255001,x255002,x256000,x256001,x256002 => if x169 = true then (some false) else (w4_OpForms.l1 k x4 x5 (wrap64 (x6 + 1)) x255000 x255001 x255002 x256000 x256001 x256002)
end
def w4_OpForms.f (k : Nat) (l0_0 : List (SOp)) (l0_1 : List (SElem)) (l0_2 : List Int) : Option (Bool):=w4_OpForms.l0 k (([(⟨1,1,1,(⟨0,0,0⟩ : SElem),(⟨#[97,98]⟩ : ByteArray),([] : List (SElem)),0,0,0⟩ : SOp),(⟨1,2,1,(⟨2,1,0⟩ : SElem),(⟨#[97]⟩ : ByteArray),(([(⟨2,1,0⟩ : SElem),(⟨2,1,1⟩ : SElem)] : List (SElem))),0,0,0⟩ : SOp),(⟨1,2,1,(⟨0,0,0⟩ : SElem),(⟨#[]⟩ : ByteArray),(([(⟨2,1,0⟩ : SElem)] : List (SElem))),0,0,0⟩ : SOp),(⟨1,3,2,(⟨0,0,0⟩ : SElem),(⟨#[]⟩ : ByteArray),([] : List (SElem)),2,1,4⟩ : SOp)] : List (SOp))) 0 l0_0 l0_1 l0_2 2 1 0
theorem w4_OpForms.calls (k : Nat) (A0_0 : Option Addr) (c0_0 : Nat) (l0_0 : List (SOp)) (A0_1 : Option Addr) (c0_1 : Nat) (l0_1 : List (SElem)) (A0_2 : Option Addr) (c0_2 : Nat) (l0_2 : List Int) (r : Bool) (w : World) (hr0_0 : Kd.C kOp w A0_0 l0_0.length l0_0) (hc0_0 : l0_0.length <= c0_0) (hr0_1 : Kd.C Qam w A0_1 l0_1.length l0_1) (hc0_1 : l0_1.length <= c0_1) (hr0_2 : Kd.C (Kd.int .i64) w A0_2 l0_2.length l0_2) (hc0_2 : l0_2.length <= c0_2) (hT : GT w) (h : w4_OpForms.f k l0_0 l0_1 l0_2 = some r) :
  Calls Tryd.prog 10 #[.agg #[.slice A0_0 l0_0.length c0_0, .slice A0_1 l0_1.length c0_1, .slice A0_2 l0_2.length c0_2]] w fun e w' => e = .returned (.bool r) /\ Below w.heap.size w w':=by
 have hu61:=Tryd.underlying61
 have hu43:=Tryd.underlying43
 have hu55:=Tryd.underlying55
 have HR0_0:=Zz.k hr0_0
 have HC0_0:=Zz.k hc0_0
 clear hr0_0 hc0_0
 have HR0_1:=Zz.k hr0_1
 have HC0_1:=Zz.k hc0_1
 clear hr0_1 hc0_1
 have HR0_2:=Zz.k hr0_2
 have HC0_2:=Zz.k hc0_2
 clear hr0_2 hc0_2
 have HB:=Zz.k (Below.refl w.heap.size w)
 unfold w4_OpForms.f at h; have H:=h
 clear h
 obtain ⟨y256,hy256⟩ : ∃ y_ : List (SElem),y_ = (([(⟨2,1,0⟩ : SElem),(⟨2,1,1⟩ : SElem)] : List (SElem))):=⟨_,rfl⟩
 first | rw [Option.bind_some,<- hy256] at H | rw [<- hy256] at H
 have Ny256:=Zz.k hy256
 clear hy256
 obtain ⟨y259,hy259⟩ : ∃ y_ : List (SElem),y_ = (([(⟨2,1,0⟩ : SElem)] : List (SElem))):=⟨_,rfl⟩
 first | rw [Option.bind_some,<- hy259] at H | rw [<- hy259] at H
 have Ny259:=Zz.k hy259
 clear hy259
 obtain ⟨y262,hy262⟩ : ∃ y_ : List (SOp),y_ = (([(⟨1,1,1,(⟨0,0,0⟩ : SElem),(⟨#[97,98]⟩ : ByteArray),([] : List (SElem)),0,0,0⟩ : SOp),(⟨1,2,1,(⟨2,1,0⟩ : SElem),(⟨#[97]⟩ : ByteArray),y256,0,0,0⟩ : SOp),(⟨1,2,1,(⟨0,0,0⟩ : SElem),(⟨#[]⟩ : ByteArray),y259,0,0,0⟩ : SOp),(⟨1,3,2,(⟨0,0,0⟩ : SElem),(⟨#[]⟩ : ByteArray),([] : List (SElem)),2,1,4⟩ : SOp)] : List (SOp))):=⟨_,rfl⟩
 first | rw [Option.bind_some,<- hy262] at H | rw [<- hy262] at H
 have Ny262:=Zz.k hy262
 clear hy262
 have H':=Zz.k H
 clear H
 go_enter Tryd.func10,Tryd.ntmps10
 go_wp2_with (first | ((with_reducible refine Qac (N:=1) rfl ?_); refine bx 1 #[.slice A0_0 l0_0.length c0_0, .slice A0_1 l0_1.length c0_1, .slice A0_2 l0_2.length c0_2] 61 (h := ?_); intro gb254 hg w2 hbox hb; have BK254:=Zz.k (hbox); have GW254:=bz HB hg; have GE254:=bz HB hg; replace HB:=bs HB hb; clear hb hbox hg) | ((with_reducible refine Qac (N:=3) rfl ?_); refine bx 3 #[.int .i64 0, .int .i64 0, .int .i64 0] 43 (h := ?_); intro gb255 hg w3 hbox hb; have BK255:=Zz.k (hbox); have GW255:=bz HB hg; have GE255:=bz HB hg; have NB254_255:=bn BK254 hg; have NB255_254:=bm BK254 hg; replace BK254:=bl BK254 hb; replace HB:=bs HB hb; clear hb hbox hg; have hnb4:=NB255_254.out; have hnc4:=NB254_255.out; obtain ⟨_,_,_,_,_,_⟩:=kc3 BK255) | ((with_reducible refine Qac (N:=16) rfl ?_); refine Kd.R_lit Qam _ 43 ?hg (N:=16) ?hd (xs:=([(⟨2,1,0⟩ : SElem),(⟨2,1,1⟩ : SElem)] : List (SElem))) (inner:=[.int .i64 2, .int .i64 1, .int .i64 0, .int .i64 2, .int .i64 1, .int .i64 1]) (ok:=fun _ => True) (okp:=fun _ => True) ?hr ?hp (fun _ hk => hk) trivial (Below.refl _ _) (Nat.le_refl _) (by simp) ?_; (case hd => rfl); (case hg => rfl); (case hr => first | (go_simp; done) | (go_simp; rfl)); (case hp => exact (Reps.c3 (show Kd.M Qam _ _ _ (⟨2,1,0⟩ : SElem) [.int .i64 2, .int .i64 1, .int .i64 0] from (Qan _ _ _ (⟨2,1,0⟩ : SElem) )) (Reps.c3 (show Kd.M Qam _ _ _ (⟨2,1,1⟩ : SElem) [.int .i64 2, .int .i64 1, .int .i64 1] from (Qan _ _ _ (⟨2,1,1⟩ : SElem) )) (Reps.none _ _)))); intro v257 w6 ho7 hb hg_ hnew_; clear hg_ hnew_; (first | rw [<- Ny256.out] at ho7 | (simp only [Int.reduceToNat] at ho7; rw [<- Ny256.out] at ho7)); have HO258:=Zz.k (Kd.R_lower (Kd.R_newB ho7 (g:=gb255) (o:=.cells #[.int .i64 2, .int .i64 1, .int .i64 0] 43 (0,0)) (bp (bp (bp (kk BK255) 0) 1) 2)) (Qao (bw HB))); replace BK254:=bl BK254 hb; replace BK255:=Zz.k (Qbh (g:=gb255) (o:=.cells #[.int .i64 2, .int .i64 1, .int .i64 0] 43 (0,0)) (bp (bp (bp (kk BK255) 0) 1) 2) hb); replace HB:=bs HB hb; clear hb ho7; obtain ⟨Ao8,co8,eo8⟩:=Kd.R_slice HO258.out; subst eo8; obtain ⟨_,_,_,_,_,_⟩:=kc3 BK255) | ((with_reducible refine Qac (N:=19) rfl ?_); refine Kd.R_lit Qam _ 43 ?hg (N:=19) ?hd (xs:=([(⟨2,1,0⟩ : SElem)] : List (SElem))) (inner:=[.int .i64 2, .int .i64 1, .int .i64 0]) (ok:=fun _ => True) (okp:=fun _ => True) ?hr ?hp (fun _ hk => hk) trivial (Below.refl _ _) (Nat.le_refl _) (by simp) ?_; (case hd => rfl); (case hg => rfl); (case hr => first | (go_simp; done) | (go_simp; rfl)); (case hp => exact (Reps.c3 (show Kd.M Qam _ _ _ (⟨2,1,0⟩ : SElem) [.int .i64 2, .int .i64 1, .int .i64 0] from (Qan _ _ _ (⟨2,1,0⟩ : SElem) )) (Reps.none _ _))); intro v260 w10 ho11 hb hg_ hnew_; clear hg_ hnew_; (first | rw [<- Ny259.out] at ho11 | (simp only [Int.reduceToNat] at ho11; rw [<- Ny259.out] at ho11)); have HO261:=Zz.k (Kd.R_lower (Kd.R_newB (Kd.R_new' ho11 (Kd.R_lt (rk HO258))) (kk BK255)) (Qao (bw HB))); replace HO258:=Zz.k (Kd.R_elder' (rk HO258) (Kd.R_base ho11) hb); replace BK254:=bl BK254 hb; replace BK255:=bl BK255 hb; replace HB:=bs HB hb; clear hb ho11; obtain ⟨Ao12,co12,eo12⟩:=Kd.R_slice HO261.out; subst eo12) | ((with_reducible refine Qac (N:=22) rfl ?_); refine Kd.N_lit kOp _ 55 ?hg (N':=22) ?hd (xs:=([(⟨1,1,1,(⟨0,0,0⟩ : SElem),(⟨#[97,98]⟩ : ByteArray),([] : List (SElem)),0,0,0⟩ : SOp),(⟨1,2,1,(⟨2,1,0⟩ : SElem),(⟨#[97]⟩ : ByteArray),y256,0,0,0⟩ : SOp),(⟨1,2,1,(⟨0,0,0⟩ : SElem),(⟨#[]⟩ : ByteArray),y259,0,0,0⟩ : SOp),(⟨1,3,2,(⟨0,0,0⟩ : SElem),(⟨#[]⟩ : ByteArray),([] : List (SElem)),2,1,4⟩ : SOp)] : List (SOp))) (inner:=[.int .i64 1, .int .i64 1, .int .i64 1, .int .i64 0, .int .i64 0, .int .i64 0, .string (⟨#[97,98]⟩ : ByteArray), .slice none 0 0, .int .i64 0, .int .i64 0, .int .i64 0, .int .i64 1, .int .i64 2, .int .i64 1, .int .i64 2, .int .i64 1, .int .i64 0, .string (⟨#[97]⟩ : ByteArray), .slice Ao8 y256.length co8, .int .i64 0, .int .i64 0, .int .i64 0, .int .i64 1, .int .i64 2, .int .i64 1, .int .i64 0, .int .i64 0, .int .i64 0, .string (⟨#[]⟩ : ByteArray), .slice Ao12 y259.length co12, .int .i64 0, .int .i64 0, .int .i64 0, .int .i64 1, .int .i64 3, .int .i64 2, .int .i64 0, .int .i64 0, .int .i64 0, .string (⟨#[]⟩ : ByteArray), .slice none 0 0, .int .i64 2, .int .i64 1, .int .i64 4]) (ok:=(fun k_ => k_ ≠ gb254 /\ k_ ≠ gb255)) (okp:=(fun k_ => k_ ≠ gb254 /\ k_ ≠ gb255)) ?hr ?hp (fun _ hk => hk) ((show ∀ k_,w10.heap.size <= k_ -> (fun k_ => k_ ≠ gb254 /\ k_ ≠ gb255) k_ from fun k_ hk => ⟨Kd.freshB (kk BK254) k_ hk,Kd.freshB (kk BK255) k_ hk⟩) _ (Nat.le_refl _)) (Below.refl _ _) (Nat.le_refl _) (by simp) ?_; (case hd => rfl); (case hg => rfl); (case hr => first | (go_simp; done) | (go_simp; rfl)); (case hp => exact (Reps.front (show Kd.FK kOp _ _ (⟨1,1,1,(⟨0,0,0⟩ : SElem),(⟨#[97,98]⟩ : ByteArray),([] : List (SElem)),0,0,0⟩ : SOp) [.int .i64 1, .int .i64 1, .int .i64 1, .int .i64 0, .int .i64 0, .int .i64 0, .string (⟨#[97,98]⟩ : ByteArray), .slice none 0 0, .int .i64 0, .int .i64 0, .int .i64 0] from (kOp_mkF _ _ (⟨1,1,1,(⟨0,0,0⟩ : SElem),(⟨#[97,98]⟩ : ByteArray),([] : List (SElem)),0,0,0⟩ : SOp) (Nat.le_refl _) (Kd.F_nil _ _ _))) rfl (Reps.front (show Kd.FK kOp _ _ (⟨1,2,1,(⟨2,1,0⟩ : SElem),(⟨#[97]⟩ : ByteArray),y256,0,0,0⟩ : SOp) [.int .i64 1, .int .i64 2, .int .i64 1, .int .i64 2, .int .i64 1, .int .i64 0, .string (⟨#[97]⟩ : ByteArray), .slice Ao8 y256.length co8, .int .i64 0, .int .i64 0, .int .i64 0] from (kOp_mkF _ _ (⟨1,2,1,(⟨2,1,0⟩ : SElem),(⟨#[97]⟩ : ByteArray),y256,0,0,0⟩ : SOp) (Kd.R_reads' (Kd.R_mono (ok':=(fun k_ => k_ ≠ gb254 /\ k_ ≠ gb255)) (Kd.R_types (HO258.out) BK254.out (by decide)) (fun k_ hk => ⟨hk.2,hk.1.1.2⟩))).2.1 (Kd.R_F (Kd.R_mono (ok':=(fun k_ => k_ ≠ gb254 /\ k_ ≠ gb255)) (Kd.R_types (HO258.out) BK254.out (by decide)) (fun k_ hk => ⟨hk.2,hk.1.1.2⟩))))) rfl (Reps.front (show Kd.FK kOp _ _ (⟨1,2,1,(⟨0,0,0⟩ : SElem),(⟨#[]⟩ : ByteArray),y259,0,0,0⟩ : SOp) [.int .i64 1, .int .i64 2, .int .i64 1, .int .i64 0, .int .i64 0, .int .i64 0, .string (⟨#[]⟩ : ByteArray), .slice Ao12 y259.length co12, .int .i64 0, .int .i64 0, .int .i64 0] from (kOp_mkF _ _ (⟨1,2,1,(⟨0,0,0⟩ : SElem),(⟨#[]⟩ : ByteArray),y259,0,0,0⟩ : SOp) (Kd.R_reads' (Kd.R_mono (ok':=(fun k_ => k_ ≠ gb254 /\ k_ ≠ gb255)) (Kd.R_types (HO261.out) BK254.out (by decide)) (fun k_ hk => ⟨hk.2,hk.1.2⟩))).2.1 (Kd.R_F (Kd.R_mono (ok':=(fun k_ => k_ ≠ gb254 /\ k_ ≠ gb255)) (Kd.R_types (HO261.out) BK254.out (by decide)) (fun k_ hk => ⟨hk.2,hk.1.2⟩))))) rfl (Reps.front (show Kd.FK kOp _ _ (⟨1,3,2,(⟨0,0,0⟩ : SElem),(⟨#[]⟩ : ByteArray),([] : List (SElem)),2,1,4⟩ : SOp) [.int .i64 1, .int .i64 3, .int .i64 2, .int .i64 0, .int .i64 0, .int .i64 0, .string (⟨#[]⟩ : ByteArray), .slice none 0 0, .int .i64 2, .int .i64 1, .int .i64 4] from (kOp_mkF _ _ (⟨1,3,2,(⟨0,0,0⟩ : SElem),(⟨#[]⟩ : ByteArray),([] : List (SElem)),2,1,4⟩ : SOp) (Nat.le_refl _) (Kd.F_nil _ _ _))) rfl (Reps.none _ _) rfl) rfl) rfl) rfl)); intro v263 w13 ho14 hb hg_ hnew_; clear hg_ hnew_; (first | rw [<- Ny262.out] at ho14 | (simp only [Int.reduceToNat] at ho14; rw [<- Ny262.out] at ho14)); have n0_:=Zz.k (Kd.N_lower ho14 (Qao (bw HB))); have n1_:=bl BK254 hb; have n2_:=bl BK255 hb; have n3_:=bs HB hb; clear BK254; clear BK255; clear HB; clear HO258; clear HO261; have HO264:=n0_; have BK254:=n1_; have BK255:=n2_; have HB:=n3_; clear n0_ n1_ n2_ n3_; clear hb ho14))
 go_loopg [5] k (fun kq v5 w' => ∃ (x5_1 : Int),v5 = .int .i64 x5_1 /\ Zz (w4_OpForms.l0 kq y262 x5_1 l0_0 l0_1 l0_2 2 1 0 = some r) /\ Zz (kq <= k) /\ Zz (Kd.N kOp 55 w' w.heap.size (fun k_ => k_ ≠ gb254 /\ k_ ≠ gb255) v263 y262) /\ Zz (w'.heap[gb254]? = some (.cells #[(.slice A0_0 l0_0.length c0_0),(.slice A0_1 l0_1.length c0_1),(.slice A0_2 l0_2.length c0_2)] 61 (0,0))) /\ Zz (w'.heap[gb255]? = some (.cells #[.int .i64 2, .int .i64 1, .int .i64 0] 43 (0,0))) /\ Zz (Below w.heap.size w w'))
 case atStart => exact ⟨(0),rf,H',⟨Nat.le_refl _⟩,⟨nk HO264⟩,⟨kk BK254⟩,⟨kk BK255⟩,⟨bw HB⟩⟩
 case round =>
  show (let G_ : Prop:=_; G_)
  intro G_
  exact (let_tmp i_ : Nonempty G_:=(((⟨by
  subst G_
  clear H'
  obtain ⟨x5_1,rfl,HA,HK1,HO_4,BK254,BK255,HB⟩:=hrel
  cases gk with
  | zero => exact absurd HA.out (by simp [w4_OpForms.l0])
  | succ k1 =>
   have H:=HA.out
   clear HA
   simp only [w4_OpForms.l0] at H
   by_cases c15 : x5_1 < (y262.length : Int); rotate_left
   ·rw [if_neg c15] at H
    have c15b0:=Ze c15
    clear c15
    by_cases c169 : (l0_2.length : Int) >= 0; rotate_left
    ·exact absurd (show (l0_2.length : Int) >= 0 by omega) c169
    show (let G_ : Prop:=_; G_)
    intro G_
    exact (let_tmp i_ : Nonempty G_:=(((⟨by
    subst G_
    rw [if_pos c169] at H
    have c169b0:=Zd c169
    have c169b1 : decide (0 <= l0_2.length) = true:=Zd (by omega)
    clear c169
    obtain ⟨t265,A170,H⟩:=bE H
    obtain rfl:=Zo H
    obtain ⟨Ao171,co171,eo171⟩:=Kd.N_slice HO_4.out
    subst eo171
    have hnb172:=NB254_255.out
    have hnc172:=NB255_254.out
    obtain ⟨_,_,_,_,_,_⟩:=kc3 BK254
    go_wp2_with (first | (go_at_call 45; (with_reducible refine (w4_wakes.calls k1  t265 _ A170.out).mono ?_); rintro e w174 ⟨rfl,hb⟩; replace HO_4:=nb HO_4 hb; replace BK254:=bl BK254 hb; replace BK255:=bl BK255 hb; replace HB:=bs HB hb; clear hb))
    go_ret
    exact ⟨re,bw HB⟩⟩ : Nonempty G_)) :); w4_OpForms.bxo (G:=G_) (inferInstanceAs (Nonempty G_)))
   show (let G_ : Prop:=_; G_)
   intro G_
   exact (let_tmp i_ : Nonempty G_:=(((⟨by
   subst G_
   rw [if_pos c15] at H
   have c15b0:=Zd c15
   clear c15
   have H':=Zz.k H
   clear H
   obtain ⟨Ao16,co16,eo16⟩:=Kd.N_slice HO_4.out
   subst eo16
   go_wp2
   go_loopg [6] k1 (fun kq v6 w' => ∃ (x6_2 : Int),v6 = .int .i64 x6_2 /\ Zz (w4_OpForms.l1 kq y262 x5_1 x6_2 l0_0 l0_1 l0_2 2 1 0 = some r) /\ Zz (kq <= k1) /\ Zz (Kd.N kOp 55 w' w.heap.size (fun k_ => k_ ≠ gb254 /\ k_ ≠ gb255) (.slice Ao16 y262.length co16) y262) /\ Zz (w'.heap[gb254]? = some (.cells #[(.slice A0_0 l0_0.length c0_0),(.slice A0_1 l0_1.length c0_1),(.slice A0_2 l0_2.length c0_2)] 61 (0,0))) /\ Zz (w'.heap[gb255]? = some (.cells #[.int .i64 2, .int .i64 1, .int .i64 0] 43 (0,0))) /\ Zz (Below w.heap.size w w'))
   case atStart => exact ⟨(0),rf,H',⟨Nat.le_refl _⟩,⟨nk HO_4⟩,⟨kk BK254⟩,⟨kk BK255⟩,⟨bw HB⟩⟩
   case round =>
    show (let G_ : Prop:=_; G_)
    intro G_
    exact (let_tmp i_ : Nonempty G_:=(((⟨by
    subst G_
    clear H'
    try clear c15b0
    obtain ⟨x6_2,rfl,HA,HK2,HO_4,BK254,BK255,HB⟩:=hrel
    cases gk with
    | zero => exact absurd HA.out (by simp [w4_OpForms.l1])
    | succ k2 =>
     have H:=HA.out
     clear HA
     simp only [w4_OpForms.l1] at H
     by_cases c17 : x6_2 < 22; rotate_left
     ·rw [if_neg c17] at H
      have c17b0:=Ze c17
      clear c17
      have H':=Zz.k H
      clear H
      go_wp2
      go_roundg k2
      case measure => have:=HK1.out; have:=HK2.out; omega
      case rel => exact ⟨(wrap64 (x5_1 + 1)),rf,H',⟨by have:=HK1.out; have:=HK2.out; omega⟩,⟨nk HO_4⟩,⟨kk BK254⟩,⟨kk BK255⟩,⟨bw HB⟩⟩
     show (let G_ : Prop:=_; G_)
     intro G_
     exact (let_tmp i_ : Nonempty G_:=(((⟨by
     subst G_
     rw [if_pos c17] at H
     have c17b0:=Zd c17
     clear c17
     by_cases c18 : 0 <= x5_1; rotate_left
     ·rw [if_neg c18] at H
      exact absurd H (by simp)
     show (let G_ : Prop:=_; G_)
     intro G_
     exact (let_tmp i_ : Nonempty G_:=(((⟨by
     subst G_
     rw [if_pos c18] at H
     have c18b0:=Zd c18
     clear c18
     by_cases c19 : x5_1 < (y262.length : Int); rotate_left
     ·rw [if_neg c19] at H
      exact absurd H (by simp)
     show (let G_ : Prop:=_; G_)
     intro G_
     exact (let_tmp i_ : Nonempty G_:=(((⟨by
     subst G_
     rw [if_pos c19] at H
     have c19b0:=Zd c19
     clear c19
     obtain ⟨⟨t267,t268,t269,t270,t271,t272,t273,t274,t277,t278,t279⟩,A20,H⟩:=bE H
     try dsimp only at H
     have HC21:=Zz.k H
     clear H
     have p266 : 0 <= (x5_1 : Int):=od
     have q266 : x5_1 < (y262.length : Int):=od
     obtain ⟨ad266,A266_7,c266_7,e266,hx266_0,hx266_1,hx266_2,hx266_3,hx266_4,hx266_5,hx266_6,hx266_7,hx266_8,hx266_9,hx266_10,hl266_7,hi266_7⟩:=at_Op (Kd.N_reads' HO_4.out).2.2 x5_1 p266 q266
     cases e266
     obtain ⟨ce266,hce266,hMe266,hcc266⟩:=Kd.N_get HO_4.out zOp x5_1 p266 (by first | exact q266 | exact od | (have e_:=(Kd.N_reads' HO_4.out).1; omega))
     obtain ⟨ua266_7,uc266_7,rfl,ul266_7,ge266_7⟩:=kOp_openF hMe266
     have hv266_7:=hcc266 7 _ rfl
     rw [Qbi _ _ 7 (by omega)] at hv266_7
     replace hv266_7:=Zo (hv266_7.symm.trans hx266_7)
     injection hv266_7 with hva_ hvn_ hvc_
     rw [hva_] at ge266_7
     rw [hvc_] at ul266_7
     have HL266_7:=Zz.k (show Kd.V Qam 43 _ w.heap.size _ _ ((Qau y262 x5_1).f5) from Kd.V_mk ul266_7 ge266_7)
     clear hva_ hvn_ hvc_ ge266_7 ul266_7
     clear hcc266 hce266
     have HR266_7:=Zz.k hi266_7
     have HC266_7:=Zz.k hl266_7
     clear hi266_7 hl266_7
     replace p266:=eq_true p266
     replace q266:=eq_true q266
     go_upto_block 4 with (first | ((with_reducible refine Qab (f:=39) rfl ?_); refine gl (some 37) Tryd.func39 #[.agg #[.int .i64 ((Qau y262 x5_1).f0), .int .i64 ((Qau y262 x5_1).f1), .int .i64 ((Qau y262 x5_1).f2), .int .i64 ((Qau y262 x5_1).f3.f0), .int .i64 ((Qau y262 x5_1).f3.f1), .int .i64 ((Qau y262 x5_1).f3.f2), .string ((Qau y262 x5_1).f4), .slice A266_7 ((Qau y262 x5_1).f5).length c266_7, .int .i64 ((Qau y262 x5_1).f6), .int .i64 ((Qau y262 x5_1).f7), .int .i64 ((Qau y262 x5_1).f8)]] (h := ?_); (with_reducible refine (r0_CopyOp.calls k2 ((Qau y262 x5_1).f0) ((Qau y262 x5_1).f1) ((Qau y262 x5_1).f2) ((Qau y262 x5_1).f3.f0) ((Qau y262 x5_1).f3.f1) ((Qau y262 x5_1).f3.f2) ((Qau y262 x5_1).f4) _ _ ((Qau y262 x5_1).f5) ((Qau y262 x5_1).f6) ((Qau y262 x5_1).f7) ((Qau y262 x5_1).f8) t267 t268 t269 t270 t271 t272 t273 t274 t277 t278 t279 _ ?side1 ?side2 A20.out).mono ?_); (case side1 => repeat (first | exact (ck HR266_7) | (with_reducible refine Kd.C_alloc ?_ _) | (with_reducible refine Kd.C_drewN ?_ _) | (with_reducible refine Kd.C_drew ?_))); (case side2 => exact HC266_7.out); rintro e w22 ⟨v275,rfl,ho0,hb⟩; refine ⟨_,rfl, ?_⟩; have HO276:=Zz.k (Kd.R_lower (Kd.R_newB ho0 (kk BK255)) (Qao (bw HB))); replace HO_4:=Zz.k (Kd.N_elder' (nk HO_4) (Kd.R_base ho0) hb); replace HL266_7:=Zz.k (Kd.V_elder' (by (with_reducible repeat (first | apply Kd.V_alloc | apply Kd.V_drewN | apply Kd.V_drew)); exact HL266_7.out) (Kd.R_base ho0) hb); replace BK254:=bl BK254 hb; replace BK255:=bl BK255 hb; replace HR266_7:=Zz.k (Kd.C_below (ck HR266_7) hb); replace HB:=bs HB hb; clear hb; clear ho0) | ((with_reducible refine Qac (N:=7) rfl ?_); refine bx 7 #[.int .i64 0, .int .i64 0, .int .i64 0, .int .i64 0, .int .i64 0, .int .i64 0, .string (⟨#[]⟩ : ByteArray), .slice none 0 0, .int .i64 0, .int .i64 0, .int .i64 0] 55 (h := ?_); intro gb280 hg w23 hbox hb; have BK280:=Zz.k (hbox); have GW280:=bz HB hg; have GE280:=bz HB hg; have NB254_280:=bn BK254 hg; have NB280_254:=bm BK254 hg; have NB255_280:=bn BK255 hg; have NB280_255:=bm BK255 hg; replace HO_4:=Zz.k (Kd.N_below (Kd.N_elderB (nk HO_4) gb280 (Nat.le_of_eq hg.symm)) hb); replace HL266_7:=Zz.k (Kd.V_below (Kd.V_elderB (by (with_reducible repeat (first | apply Kd.V_alloc | apply Kd.V_drewN | apply Kd.V_drew)); exact HL266_7.out) gb280 (Nat.le_of_eq hg.symm)) hb); replace HO276:=rb HO276 hb; replace BK254:=bl BK254 hb; replace BK255:=bl BK255 hb; replace HR266_7:=Zz.k (Kd.C_below (ck HR266_7) hb); replace HB:=bs HB hb; clear hb hbox hg; have hnb24:=NB280_254.out; have hnc24:=NB254_280.out; have hnb25:=NB280_255.out; have hnc25:=NB255_280.out; obtain ⟨_,_,_,_,_,_,_,_,_,_,_,_,_,_,_,_,_,_,_,_,_,_⟩:=kc11 BK280; obtain ⟨Ao27,co27,eo27⟩:=Kd.R_slice HO276.out; subst eo27))
     (try simp only [Act.put,List.setIfInBounds_toArray,List.set_cons_zero,List.set_cons_succ])
     go_cut [] (fun wc => ∃ (kq : Nat) (x281000_20 : Int) (x281001_20 : Int) (x281002_20 : Int) (x281003_20 : Int) (x281004_20 : Int) (x281005_20 : Int) (x281006_20 : ByteArray) (x281007_20 : List (SElem)) (x281008_20 : Int) (x281009_20 : Int) (x281010_20 : Int) (u281007 : Value),Zz (w4_OpForms.j2 kq y262 x5_1 x6_2 l0_0 l0_1 l0_2 2 1 0 x281000_20 x281001_20 x281002_20 x281003_20 x281004_20 x281005_20 x281006_20 x281007_20 x281008_20 x281009_20 x281010_20 = some r) /\ Zz (kq <= k2) /\ Zz (Kd.N kOp 55 wc w.heap.size (fun k_ => some k_ ≠ (u281007 : Value).ownBlock /\ k_ ≠ gb254 /\ k_ ≠ gb255 /\ k_ ≠ gb280) (.slice (some ad266) y262.length co16) y262) /\ Zz (Kd.R Qam 43 wc w.heap.size (fun k_ => k_ ≠ gb255) u281007 x281007_20) /\ Zz (wc.heap[gb254]? = some (.cells #[(.slice A0_0 l0_0.length c0_0),(.slice A0_1 l0_1.length c0_1),(.slice A0_2 l0_2.length c0_2)] 61 (0,0))) /\ Zz (wc.heap[gb255]? = some (.cells #[.int .i64 2, .int .i64 1, .int .i64 0] 43 (0,0))) /\ Zz (wc.heap[gb280]? = some (.cells #[.int .i64 x281000_20, .int .i64 x281001_20, .int .i64 x281002_20, .int .i64 x281003_20, .int .i64 x281004_20, .int .i64 x281005_20, .string x281006_20,u281007, .int .i64 x281008_20, .int .i64 x281009_20, .int .i64 x281010_20] 55 (0,0))) /\ Zz (Below w.heap.size w wc))
     case first =>
      have H:=HC21.out
      clear HC21
      by_cases c28 : x6_2 = 1
      ·show (let G_ : Prop:=_; G_)
       intro G_
       exact (let_tmp i_ : Nonempty G_:=(((⟨by
       subst G_
       rw [if_pos c28] at H
       obtain ⟨c28b0,c28b1⟩:=bT c28
       clear c28
       (first | rw [c28b0] | (simp only [i64_w,i32_w]; rw [c28b0]) | skip)
       have H':=Zz.k H
       clear H
       have hnb29:=NB280_254.out
       have hnc29:=NB254_280.out
       have hnb30:=NB280_255.out
       have hnc30:=NB255_280.out
       obtain ⟨_,_,_,_,_,_,_,_,_,_,_,_,_,_,_,_,_,_,_,_,_,_⟩:=kc11 BK280
       go_wp2
       go_meet
       case rel => exact ⟨_,(0),(t268),(t269),(t270),(t271),(t272),(t273),(t274),(t277),(t278),(t279),(.slice Ao27 t274.length co27),H',⟨by have:=HK1.out; have:=HK2.out; first | omega | exact Nat.le_refl _⟩,⟨by (with_reducible repeat (first | apply Kd.N_alloc | apply Kd.N_drewN | apply Kd.N_drew)); exact Kd.N_mono (Kd.N_far (p:=⟨gb280,0,none⟩) (Kd.N_far (p:=⟨gb280,10,none⟩) (Kd.N_far (p:=⟨gb280,9,none⟩) (Kd.N_far (p:=⟨gb280,8,none⟩) (Kd.N_far (p:=⟨gb280,7,none⟩) (Kd.N_far (p:=⟨gb280,6,none⟩) (Kd.N_far (p:=⟨gb280,5,none⟩) (Kd.N_far (p:=⟨gb280,4,none⟩) (Kd.N_far (p:=⟨gb280,3,none⟩) (Kd.N_far (p:=⟨gb280,2,none⟩) (Kd.N_far (p:=⟨gb280,1,none⟩) (Kd.N_far (p:=⟨gb280,0,none⟩) (Kd.N_mono HO_4.out (fun k_ hk => (⟨hk,hk.2⟩ : _ /\ k_ ≠ gb280))) (fun _ hk => hk.2) (.int .i64 t267)) (fun _ hk => hk.2) (.int .i64 t268)) (fun _ hk => hk.2) (.int .i64 t269)) (fun _ hk => hk.2) (.int .i64 t270)) (fun _ hk => hk.2) (.int .i64 t271)) (fun _ hk => hk.2) (.int .i64 t272)) (fun _ hk => hk.2) (.string t273)) (fun _ hk => hk.2) (.slice Ao27 t274.length co27)) (fun _ hk => hk.2) (.int .i64 t277)) (fun _ hk => hk.2) (.int .i64 t278)) (fun _ hk => hk.2) (.int .i64 t279)) (fun _ hk => hk.2) (.int .i64 0)) (fun _ hk => ⟨hk.1.1.2,⟨hk.1.1.1.1,⟨hk.1.1.1.2,hk.1.2⟩⟩⟩)⟩,⟨by (with_reducible repeat (first | apply Kd.R_alloc | apply Kd.R_drewN | apply Kd.R_drew)); exact Kd.R_mono (Kd.R_far (p:=⟨gb280,0,none⟩) (rf11 (Kd.R_types HO276.out BK280.out (by decide))) (fun _ hk => hk.2) (.int .i64 0)) (fun _ hk => hk.1.2)⟩,⟨kk BK254⟩,⟨kk BK255⟩,⟨bp (bp11 (kk BK280)) 0⟩,⟨bw HB⟩⟩⟩ : Nonempty G_)) :); w4_OpForms.bxo (G:=G_) (inferInstanceAs (Nonempty G_)))
      rw [if_neg c28] at H
      obtain ⟨c28b0,c28b1⟩:=bF c28
      (first | rw [c28b0] | (simp only [i64_w,i32_w]; rw [c28b0]) | skip)
      by_cases c32 : x6_2 = 2
      ·show (let G_ : Prop:=_; G_)
       intro G_
       exact (let_tmp i_ : Nonempty G_:=(((⟨by
       subst G_
       rw [if_pos c32] at H
       obtain ⟨c32b0,c32b1⟩:=bT c32
       clear c32
       have H':=Zz.k H
       clear H
       have hnb33:=NB280_254.out
       have hnc33:=NB254_280.out
       have hnb34:=NB280_255.out
       have hnc34:=NB255_280.out
       obtain ⟨_,_,_,_,_,_,_,_,_,_,_,_,_,_,_,_,_,_,_,_,_,_⟩:=kc11 BK280
       go_wp2
       go_meet
       case rel => exact ⟨_,(9),(t268),(t269),(t270),(t271),(t272),(t273),(t274),(t277),(t278),(t279),(.slice Ao27 t274.length co27),H',⟨by have:=HK1.out; have:=HK2.out; first | omega | exact Nat.le_refl _⟩,⟨by (with_reducible repeat (first | apply Kd.N_alloc | apply Kd.N_drewN | apply Kd.N_drew)); exact Kd.N_mono (Kd.N_far (p:=⟨gb280,0,none⟩) (Kd.N_far (p:=⟨gb280,10,none⟩) (Kd.N_far (p:=⟨gb280,9,none⟩) (Kd.N_far (p:=⟨gb280,8,none⟩) (Kd.N_far (p:=⟨gb280,7,none⟩) (Kd.N_far (p:=⟨gb280,6,none⟩) (Kd.N_far (p:=⟨gb280,5,none⟩) (Kd.N_far (p:=⟨gb280,4,none⟩) (Kd.N_far (p:=⟨gb280,3,none⟩) (Kd.N_far (p:=⟨gb280,2,none⟩) (Kd.N_far (p:=⟨gb280,1,none⟩) (Kd.N_far (p:=⟨gb280,0,none⟩) (Kd.N_mono HO_4.out (fun k_ hk => (⟨hk,hk.2⟩ : _ /\ k_ ≠ gb280))) (fun _ hk => hk.2) (.int .i64 t267)) (fun _ hk => hk.2) (.int .i64 t268)) (fun _ hk => hk.2) (.int .i64 t269)) (fun _ hk => hk.2) (.int .i64 t270)) (fun _ hk => hk.2) (.int .i64 t271)) (fun _ hk => hk.2) (.int .i64 t272)) (fun _ hk => hk.2) (.string t273)) (fun _ hk => hk.2) (.slice Ao27 t274.length co27)) (fun _ hk => hk.2) (.int .i64 t277)) (fun _ hk => hk.2) (.int .i64 t278)) (fun _ hk => hk.2) (.int .i64 t279)) (fun _ hk => hk.2) (.int .i64 9)) (fun _ hk => ⟨hk.1.1.2,⟨hk.1.1.1.1,⟨hk.1.1.1.2,hk.1.2⟩⟩⟩)⟩,⟨by (with_reducible repeat (first | apply Kd.R_alloc | apply Kd.R_drewN | apply Kd.R_drew)); exact Kd.R_mono (Kd.R_far (p:=⟨gb280,0,none⟩) (rf11 (Kd.R_types HO276.out BK280.out (by decide))) (fun _ hk => hk.2) (.int .i64 9)) (fun _ hk => hk.1.2)⟩,⟨kk BK254⟩,⟨kk BK255⟩,⟨bp (bp11 (kk BK280)) 0⟩,⟨bw HB⟩⟩⟩ : Nonempty G_)) :); w4_OpForms.bxo (G:=G_) (inferInstanceAs (Nonempty G_)))
      rw [if_neg c32] at H
      obtain ⟨c32b0,c32b1⟩:=bF c32
      by_cases c36 : x6_2 = 3
      ·show (let G_ : Prop:=_; G_)
       intro G_
       exact (let_tmp i_ : Nonempty G_:=(((⟨by
       subst G_
       rw [if_pos c36] at H
       obtain ⟨c36b0,c36b1⟩:=bT c36
       clear c36
       have H':=Zz.k H
       clear H
       have hnb37:=NB280_254.out
       have hnc37:=NB254_280.out
       have hnb38:=NB280_255.out
       have hnc38:=NB255_280.out
       obtain ⟨_,_,_,_,_,_,_,_,_,_,_,_,_,_,_,_,_,_,_,_,_,_⟩:=kc11 BK280
       go_wp2
       go_meet
       case rel => exact ⟨_,(t267),(0),(t269),(t270),(t271),(t272),(t273),(t274),(t277),(t278),(t279),(.slice Ao27 t274.length co27),H',⟨by have:=HK1.out; have:=HK2.out; first | omega | exact Nat.le_refl _⟩,⟨by (with_reducible repeat (first | apply Kd.N_alloc | apply Kd.N_drewN | apply Kd.N_drew)); exact Kd.N_mono (Kd.N_far (p:=⟨gb280,1,none⟩) (Kd.N_far (p:=⟨gb280,10,none⟩) (Kd.N_far (p:=⟨gb280,9,none⟩) (Kd.N_far (p:=⟨gb280,8,none⟩) (Kd.N_far (p:=⟨gb280,7,none⟩) (Kd.N_far (p:=⟨gb280,6,none⟩) (Kd.N_far (p:=⟨gb280,5,none⟩) (Kd.N_far (p:=⟨gb280,4,none⟩) (Kd.N_far (p:=⟨gb280,3,none⟩) (Kd.N_far (p:=⟨gb280,2,none⟩) (Kd.N_far (p:=⟨gb280,1,none⟩) (Kd.N_far (p:=⟨gb280,0,none⟩) (Kd.N_mono HO_4.out (fun k_ hk => (⟨hk,hk.2⟩ : _ /\ k_ ≠ gb280))) (fun _ hk => hk.2) (.int .i64 t267)) (fun _ hk => hk.2) (.int .i64 t268)) (fun _ hk => hk.2) (.int .i64 t269)) (fun _ hk => hk.2) (.int .i64 t270)) (fun _ hk => hk.2) (.int .i64 t271)) (fun _ hk => hk.2) (.int .i64 t272)) (fun _ hk => hk.2) (.string t273)) (fun _ hk => hk.2) (.slice Ao27 t274.length co27)) (fun _ hk => hk.2) (.int .i64 t277)) (fun _ hk => hk.2) (.int .i64 t278)) (fun _ hk => hk.2) (.int .i64 t279)) (fun _ hk => hk.2) (.int .i64 0)) (fun _ hk => ⟨hk.1.1.2,⟨hk.1.1.1.1,⟨hk.1.1.1.2,hk.1.2⟩⟩⟩)⟩,⟨by (with_reducible repeat (first | apply Kd.R_alloc | apply Kd.R_drewN | apply Kd.R_drew)); exact Kd.R_mono (Kd.R_far (p:=⟨gb280,1,none⟩) (rf11 (Kd.R_types HO276.out BK280.out (by decide))) (fun _ hk => hk.2) (.int .i64 0)) (fun _ hk => hk.1.2)⟩,⟨kk BK254⟩,⟨kk BK255⟩,⟨bp (bp11 (kk BK280)) 1⟩,⟨bw HB⟩⟩⟩ : Nonempty G_)) :); w4_OpForms.bxo (G:=G_) (inferInstanceAs (Nonempty G_)))
      rw [if_neg c36] at H
      obtain ⟨c36b0,c36b1⟩:=bF c36
      by_cases c40 : x6_2 = 4
      ·show (let G_ : Prop:=_; G_)
       intro G_
       exact (let_tmp i_ : Nonempty G_:=(((⟨by
       subst G_
       rw [if_pos c40] at H
       obtain ⟨c40b0,c40b1⟩:=bT c40
       clear c40
       have H':=Zz.k H
       clear H
       have hnb41:=NB280_254.out
       have hnc41:=NB254_280.out
       have hnb42:=NB280_255.out
       have hnc42:=NB255_280.out
       obtain ⟨_,_,_,_,_,_,_,_,_,_,_,_,_,_,_,_,_,_,_,_,_,_⟩:=kc11 BK280
       go_wp2
       go_meet
       case rel => exact ⟨_,(t267),(268435457),(t269),(t270),(t271),(t272),(t273),(t274),(t277),(t278),(t279),(.slice Ao27 t274.length co27),H',⟨by have:=HK1.out; have:=HK2.out; first | omega | exact Nat.le_refl _⟩,⟨by (with_reducible repeat (first | apply Kd.N_alloc | apply Kd.N_drewN | apply Kd.N_drew)); exact Kd.N_mono (Kd.N_far (p:=⟨gb280,1,none⟩) (Kd.N_far (p:=⟨gb280,10,none⟩) (Kd.N_far (p:=⟨gb280,9,none⟩) (Kd.N_far (p:=⟨gb280,8,none⟩) (Kd.N_far (p:=⟨gb280,7,none⟩) (Kd.N_far (p:=⟨gb280,6,none⟩) (Kd.N_far (p:=⟨gb280,5,none⟩) (Kd.N_far (p:=⟨gb280,4,none⟩) (Kd.N_far (p:=⟨gb280,3,none⟩) (Kd.N_far (p:=⟨gb280,2,none⟩) (Kd.N_far (p:=⟨gb280,1,none⟩) (Kd.N_far (p:=⟨gb280,0,none⟩) (Kd.N_mono HO_4.out (fun k_ hk => (⟨hk,hk.2⟩ : _ /\ k_ ≠ gb280))) (fun _ hk => hk.2) (.int .i64 t267)) (fun _ hk => hk.2) (.int .i64 t268)) (fun _ hk => hk.2) (.int .i64 t269)) (fun _ hk => hk.2) (.int .i64 t270)) (fun _ hk => hk.2) (.int .i64 t271)) (fun _ hk => hk.2) (.int .i64 t272)) (fun _ hk => hk.2) (.string t273)) (fun _ hk => hk.2) (.slice Ao27 t274.length co27)) (fun _ hk => hk.2) (.int .i64 t277)) (fun _ hk => hk.2) (.int .i64 t278)) (fun _ hk => hk.2) (.int .i64 t279)) (fun _ hk => hk.2) (.int .i64 268435457)) (fun _ hk => ⟨hk.1.1.2,⟨hk.1.1.1.1,⟨hk.1.1.1.2,hk.1.2⟩⟩⟩)⟩,⟨by (with_reducible repeat (first | apply Kd.R_alloc | apply Kd.R_drewN | apply Kd.R_drew)); exact Kd.R_mono (Kd.R_far (p:=⟨gb280,1,none⟩) (rf11 (Kd.R_types HO276.out BK280.out (by decide))) (fun _ hk => hk.2) (.int .i64 268435457)) (fun _ hk => hk.1.2)⟩,⟨kk BK254⟩,⟨kk BK255⟩,⟨bp (bp11 (kk BK280)) 1⟩,⟨bw HB⟩⟩⟩ : Nonempty G_)) :); w4_OpForms.bxo (G:=G_) (inferInstanceAs (Nonempty G_)))
      rw [if_neg c40] at H
      obtain ⟨c40b0,c40b1⟩:=bF c40
      by_cases c44 : x6_2 = 5
      ·show (let G_ : Prop:=_; G_)
       intro G_
       exact (let_tmp i_ : Nonempty G_:=(((⟨by
       subst G_
       rw [if_pos c44] at H
       obtain ⟨c44b0,c44b1⟩:=bT c44
       clear c44
       have H':=Zz.k H
       clear H
       have hnb45:=NB280_254.out
       have hnc45:=NB254_280.out
       have hnb46:=NB280_255.out
       have hnc46:=NB255_280.out
       obtain ⟨_,_,_,_,_,_,_,_,_,_,_,_,_,_,_,_,_,_,_,_,_,_⟩:=kc11 BK280
       go_wp2
       go_meet
       case rel => exact ⟨_,(t267),(t268),(3),(t270),(t271),(t272),(t273),(t274),(t277),(t278),(t279),(.slice Ao27 t274.length co27),H',⟨by have:=HK1.out; have:=HK2.out; first | omega | exact Nat.le_refl _⟩,⟨by (with_reducible repeat (first | apply Kd.N_alloc | apply Kd.N_drewN | apply Kd.N_drew)); exact Kd.N_mono (Kd.N_far (p:=⟨gb280,2,none⟩) (Kd.N_far (p:=⟨gb280,10,none⟩) (Kd.N_far (p:=⟨gb280,9,none⟩) (Kd.N_far (p:=⟨gb280,8,none⟩) (Kd.N_far (p:=⟨gb280,7,none⟩) (Kd.N_far (p:=⟨gb280,6,none⟩) (Kd.N_far (p:=⟨gb280,5,none⟩) (Kd.N_far (p:=⟨gb280,4,none⟩) (Kd.N_far (p:=⟨gb280,3,none⟩) (Kd.N_far (p:=⟨gb280,2,none⟩) (Kd.N_far (p:=⟨gb280,1,none⟩) (Kd.N_far (p:=⟨gb280,0,none⟩) (Kd.N_mono HO_4.out (fun k_ hk => (⟨hk,hk.2⟩ : _ /\ k_ ≠ gb280))) (fun _ hk => hk.2) (.int .i64 t267)) (fun _ hk => hk.2) (.int .i64 t268)) (fun _ hk => hk.2) (.int .i64 t269)) (fun _ hk => hk.2) (.int .i64 t270)) (fun _ hk => hk.2) (.int .i64 t271)) (fun _ hk => hk.2) (.int .i64 t272)) (fun _ hk => hk.2) (.string t273)) (fun _ hk => hk.2) (.slice Ao27 t274.length co27)) (fun _ hk => hk.2) (.int .i64 t277)) (fun _ hk => hk.2) (.int .i64 t278)) (fun _ hk => hk.2) (.int .i64 t279)) (fun _ hk => hk.2) (.int .i64 3)) (fun _ hk => ⟨hk.1.1.2,⟨hk.1.1.1.1,⟨hk.1.1.1.2,hk.1.2⟩⟩⟩)⟩,⟨by (with_reducible repeat (first | apply Kd.R_alloc | apply Kd.R_drewN | apply Kd.R_drew)); exact Kd.R_mono (Kd.R_far (p:=⟨gb280,2,none⟩) (rf11 (Kd.R_types HO276.out BK280.out (by decide))) (fun _ hk => hk.2) (.int .i64 3)) (fun _ hk => hk.1.2)⟩,⟨kk BK254⟩,⟨kk BK255⟩,⟨bp (bp11 (kk BK280)) 2⟩,⟨bw HB⟩⟩⟩ : Nonempty G_)) :); w4_OpForms.bxo (G:=G_) (inferInstanceAs (Nonempty G_)))
      rw [if_neg c44] at H
      obtain ⟨c44b0,c44b1⟩:=bF c44
      by_cases c48 : x6_2 = 6
      ·show (let G_ : Prop:=_; G_)
       intro G_
       exact (let_tmp i_ : Nonempty G_:=(((⟨by
       subst G_
       rw [if_pos c48] at H
       obtain ⟨c48b0,c48b1⟩:=bT c48
       clear c48
       have H':=Zz.k H
       clear H
       have hnb49:=NB280_254.out
       have hnc49:=NB254_280.out
       have hnb50:=NB280_255.out
       have hnc50:=NB255_280.out
       obtain ⟨_,_,_,_,_,_,_,_,_,_,_,_,_,_,_,_,_,_,_,_,_,_⟩:=kc11 BK280
       go_wp2
       go_meet
       case rel => exact ⟨_,(t267),(t268),(0),(t270),(t271),(t272),(t273),(t274),(t277),(t278),(t279),(.slice Ao27 t274.length co27),H',⟨by have:=HK1.out; have:=HK2.out; first | omega | exact Nat.le_refl _⟩,⟨by (with_reducible repeat (first | apply Kd.N_alloc | apply Kd.N_drewN | apply Kd.N_drew)); exact Kd.N_mono (Kd.N_far (p:=⟨gb280,2,none⟩) (Kd.N_far (p:=⟨gb280,10,none⟩) (Kd.N_far (p:=⟨gb280,9,none⟩) (Kd.N_far (p:=⟨gb280,8,none⟩) (Kd.N_far (p:=⟨gb280,7,none⟩) (Kd.N_far (p:=⟨gb280,6,none⟩) (Kd.N_far (p:=⟨gb280,5,none⟩) (Kd.N_far (p:=⟨gb280,4,none⟩) (Kd.N_far (p:=⟨gb280,3,none⟩) (Kd.N_far (p:=⟨gb280,2,none⟩) (Kd.N_far (p:=⟨gb280,1,none⟩) (Kd.N_far (p:=⟨gb280,0,none⟩) (Kd.N_mono HO_4.out (fun k_ hk => (⟨hk,hk.2⟩ : _ /\ k_ ≠ gb280))) (fun _ hk => hk.2) (.int .i64 t267)) (fun _ hk => hk.2) (.int .i64 t268)) (fun _ hk => hk.2) (.int .i64 t269)) (fun _ hk => hk.2) (.int .i64 t270)) (fun _ hk => hk.2) (.int .i64 t271)) (fun _ hk => hk.2) (.int .i64 t272)) (fun _ hk => hk.2) (.string t273)) (fun _ hk => hk.2) (.slice Ao27 t274.length co27)) (fun _ hk => hk.2) (.int .i64 t277)) (fun _ hk => hk.2) (.int .i64 t278)) (fun _ hk => hk.2) (.int .i64 t279)) (fun _ hk => hk.2) (.int .i64 0)) (fun _ hk => ⟨hk.1.1.2,⟨hk.1.1.1.1,⟨hk.1.1.1.2,hk.1.2⟩⟩⟩)⟩,⟨by (with_reducible repeat (first | apply Kd.R_alloc | apply Kd.R_drewN | apply Kd.R_drew)); exact Kd.R_mono (Kd.R_far (p:=⟨gb280,2,none⟩) (rf11 (Kd.R_types HO276.out BK280.out (by decide))) (fun _ hk => hk.2) (.int .i64 0)) (fun _ hk => hk.1.2)⟩,⟨kk BK254⟩,⟨kk BK255⟩,⟨bp (bp11 (kk BK280)) 2⟩,⟨bw HB⟩⟩⟩ : Nonempty G_)) :); w4_OpForms.bxo (G:=G_) (inferInstanceAs (Nonempty G_)))
      rw [if_neg c48] at H
      obtain ⟨c48b0,c48b1⟩:=bF c48
      by_cases c52 : x6_2 = 7
      ·show (let G_ : Prop:=_; G_)
       intro G_
       exact (let_tmp i_ : Nonempty G_:=(((⟨by
       subst G_
       rw [if_pos c52] at H
       obtain ⟨c52b0,c52b1⟩:=bT c52
       clear c52
       have H':=Zz.k H
       clear H
       have hnb53:=NB280_254.out
       have hnc53:=NB254_280.out
       have hnb54:=NB280_255.out
       have hnc54:=NB255_280.out
       obtain ⟨_,_,_,_,_,_,_,_,_,_,_,_,_,_,_,_,_,_,_,_,_,_⟩:=kc11 BK280
       go_wp2
       go_meet
       case rel => exact ⟨_,(t267),(t268),(wrap64 (3 - t269)),(t270),(t271),(t272),(t273),(t274),(t277),(t278),(t279),(.slice Ao27 t274.length co27),H',⟨by have:=HK1.out; have:=HK2.out; first | omega | exact Nat.le_refl _⟩,⟨by (with_reducible repeat (first | apply Kd.N_alloc | apply Kd.N_drewN | apply Kd.N_drew)); exact Kd.N_mono (Kd.N_far (p:=⟨gb280,2,none⟩) (Kd.N_far (p:=⟨gb280,10,none⟩) (Kd.N_far (p:=⟨gb280,9,none⟩) (Kd.N_far (p:=⟨gb280,8,none⟩) (Kd.N_far (p:=⟨gb280,7,none⟩) (Kd.N_far (p:=⟨gb280,6,none⟩) (Kd.N_far (p:=⟨gb280,5,none⟩) (Kd.N_far (p:=⟨gb280,4,none⟩) (Kd.N_far (p:=⟨gb280,3,none⟩) (Kd.N_far (p:=⟨gb280,2,none⟩) (Kd.N_far (p:=⟨gb280,1,none⟩) (Kd.N_far (p:=⟨gb280,0,none⟩) (Kd.N_mono HO_4.out (fun k_ hk => (⟨hk,hk.2⟩ : _ /\ k_ ≠ gb280))) (fun _ hk => hk.2) (.int .i64 t267)) (fun _ hk => hk.2) (.int .i64 t268)) (fun _ hk => hk.2) (.int .i64 t269)) (fun _ hk => hk.2) (.int .i64 t270)) (fun _ hk => hk.2) (.int .i64 t271)) (fun _ hk => hk.2) (.int .i64 t272)) (fun _ hk => hk.2) (.string t273)) (fun _ hk => hk.2) (.slice Ao27 t274.length co27)) (fun _ hk => hk.2) (.int .i64 t277)) (fun _ hk => hk.2) (.int .i64 t278)) (fun _ hk => hk.2) (.int .i64 t279)) (fun _ hk => hk.2) (.int .i64 (wrap64 (3 - t269)))) (fun _ hk => ⟨hk.1.1.2,⟨hk.1.1.1.1,⟨hk.1.1.1.2,hk.1.2⟩⟩⟩)⟩,⟨by (with_reducible repeat (first | apply Kd.R_alloc | apply Kd.R_drewN | apply Kd.R_drew)); exact Kd.R_mono (Kd.R_far (p:=⟨gb280,2,none⟩) (rf11 (Kd.R_types HO276.out BK280.out (by decide))) (fun _ hk => hk.2) (.int .i64 (wrap64 (3 - t269)))) (fun _ hk => hk.1.2)⟩,⟨kk BK254⟩,⟨kk BK255⟩,⟨bp (bp11 (kk BK280)) 2⟩,⟨bw HB⟩⟩⟩ : Nonempty G_)) :); w4_OpForms.bxo (G:=G_) (inferInstanceAs (Nonempty G_)))
      rw [if_neg c52] at H
      obtain ⟨c52b0,c52b1⟩:=bF c52
      by_cases c56 : x6_2 = 8
      ·show (let G_ : Prop:=_; G_)
       intro G_
       exact (let_tmp i_ : Nonempty G_:=(((⟨by
       subst G_
       rw [if_pos c56] at H
       obtain ⟨c56b0,c56b1⟩:=bT c56
       clear c56
       have H':=Zz.k H
       clear H
       have hnb57:=NB280_254.out
       have hnc57:=NB254_280.out
       have hnb58:=NB280_255.out
       have hnc58:=NB255_280.out
       obtain ⟨_,_,_,_,_,_,_,_,_,_,_,_,_,_,_,_,_,_,_,_,_,_⟩:=kc11 BK280
       go_wp2
       go_meet
       case rel => exact ⟨_,(t267),(t268),(t269),(t270),(t271),(t272),((⟨#[]⟩ : ByteArray)),(t274),(t277),(t278),(t279),(.slice Ao27 t274.length co27),H',⟨by have:=HK1.out; have:=HK2.out; first | omega | exact Nat.le_refl _⟩,⟨by (with_reducible repeat (first | apply Kd.N_alloc | apply Kd.N_drewN | apply Kd.N_drew)); exact Kd.N_mono (Kd.N_far (p:=⟨gb280,6,none⟩) (Kd.N_far (p:=⟨gb280,10,none⟩) (Kd.N_far (p:=⟨gb280,9,none⟩) (Kd.N_far (p:=⟨gb280,8,none⟩) (Kd.N_far (p:=⟨gb280,7,none⟩) (Kd.N_far (p:=⟨gb280,6,none⟩) (Kd.N_far (p:=⟨gb280,5,none⟩) (Kd.N_far (p:=⟨gb280,4,none⟩) (Kd.N_far (p:=⟨gb280,3,none⟩) (Kd.N_far (p:=⟨gb280,2,none⟩) (Kd.N_far (p:=⟨gb280,1,none⟩) (Kd.N_far (p:=⟨gb280,0,none⟩) (Kd.N_mono HO_4.out (fun k_ hk => (⟨hk,hk.2⟩ : _ /\ k_ ≠ gb280))) (fun _ hk => hk.2) (.int .i64 t267)) (fun _ hk => hk.2) (.int .i64 t268)) (fun _ hk => hk.2) (.int .i64 t269)) (fun _ hk => hk.2) (.int .i64 t270)) (fun _ hk => hk.2) (.int .i64 t271)) (fun _ hk => hk.2) (.int .i64 t272)) (fun _ hk => hk.2) (.string t273)) (fun _ hk => hk.2) (.slice Ao27 t274.length co27)) (fun _ hk => hk.2) (.int .i64 t277)) (fun _ hk => hk.2) (.int .i64 t278)) (fun _ hk => hk.2) (.int .i64 t279)) (fun _ hk => hk.2) (.string (⟨#[]⟩ : ByteArray))) (fun _ hk => ⟨hk.1.1.2,⟨hk.1.1.1.1,⟨hk.1.1.1.2,hk.1.2⟩⟩⟩)⟩,⟨by (with_reducible repeat (first | apply Kd.R_alloc | apply Kd.R_drewN | apply Kd.R_drew)); exact Kd.R_mono (Kd.R_far (p:=⟨gb280,6,none⟩) (rf11 (Kd.R_types HO276.out BK280.out (by decide))) (fun _ hk => hk.2) (.string (⟨#[]⟩ : ByteArray))) (fun _ hk => hk.1.2)⟩,⟨kk BK254⟩,⟨kk BK255⟩,⟨bp (bp11 (kk BK280)) 6⟩,⟨bw HB⟩⟩⟩ : Nonempty G_)) :); w4_OpForms.bxo (G:=G_) (inferInstanceAs (Nonempty G_)))
      rw [if_neg c56] at H
      obtain ⟨c56b0,c56b1⟩:=bF c56
      by_cases c60 : x6_2 = 9
      ·show (let G_ : Prop:=_; G_)
       intro G_
       exact (let_tmp i_ : Nonempty G_:=(((⟨by
       subst G_
       rw [if_pos c60] at H
       obtain ⟨c60b0,c60b1⟩:=bT c60
       clear c60
       have H':=Zz.k H
       clear H
       have hnb61:=NB280_254.out
       have hnc61:=NB254_280.out
       have hnb62:=NB280_255.out
       have hnc62:=NB255_280.out
       obtain ⟨_,_,_,_,_,_,_,_,_,_,_,_,_,_,_,_,_,_,_,_,_,_⟩:=kc11 BK280
       go_wp2
       go_meet
       case rel => exact ⟨_,(t267),(t268),(t269),(t270),(t271),(t272),((⟨#[128]⟩ : ByteArray)),(t274),(t277),(t278),(t279),(.slice Ao27 t274.length co27),H',⟨by have:=HK1.out; have:=HK2.out; first | omega | exact Nat.le_refl _⟩,⟨by (with_reducible repeat (first | apply Kd.N_alloc | apply Kd.N_drewN | apply Kd.N_drew)); exact Kd.N_mono (Kd.N_far (p:=⟨gb280,6,none⟩) (Kd.N_far (p:=⟨gb280,10,none⟩) (Kd.N_far (p:=⟨gb280,9,none⟩) (Kd.N_far (p:=⟨gb280,8,none⟩) (Kd.N_far (p:=⟨gb280,7,none⟩) (Kd.N_far (p:=⟨gb280,6,none⟩) (Kd.N_far (p:=⟨gb280,5,none⟩) (Kd.N_far (p:=⟨gb280,4,none⟩) (Kd.N_far (p:=⟨gb280,3,none⟩) (Kd.N_far (p:=⟨gb280,2,none⟩) (Kd.N_far (p:=⟨gb280,1,none⟩) (Kd.N_far (p:=⟨gb280,0,none⟩) (Kd.N_mono HO_4.out (fun k_ hk => (⟨hk,hk.2⟩ : _ /\ k_ ≠ gb280))) (fun _ hk => hk.2) (.int .i64 t267)) (fun _ hk => hk.2) (.int .i64 t268)) (fun _ hk => hk.2) (.int .i64 t269)) (fun _ hk => hk.2) (.int .i64 t270)) (fun _ hk => hk.2) (.int .i64 t271)) (fun _ hk => hk.2) (.int .i64 t272)) (fun _ hk => hk.2) (.string t273)) (fun _ hk => hk.2) (.slice Ao27 t274.length co27)) (fun _ hk => hk.2) (.int .i64 t277)) (fun _ hk => hk.2) (.int .i64 t278)) (fun _ hk => hk.2) (.int .i64 t279)) (fun _ hk => hk.2) (.string (⟨#[128]⟩ : ByteArray))) (fun _ hk => ⟨hk.1.1.2,⟨hk.1.1.1.1,⟨hk.1.1.1.2,hk.1.2⟩⟩⟩)⟩,⟨by (with_reducible repeat (first | apply Kd.R_alloc | apply Kd.R_drewN | apply Kd.R_drew)); exact Kd.R_mono (Kd.R_far (p:=⟨gb280,6,none⟩) (rf11 (Kd.R_types HO276.out BK280.out (by decide))) (fun _ hk => hk.2) (.string (⟨#[128]⟩ : ByteArray))) (fun _ hk => hk.1.2)⟩,⟨kk BK254⟩,⟨kk BK255⟩,⟨bp (bp11 (kk BK280)) 6⟩,⟨bw HB⟩⟩⟩ : Nonempty G_)) :); w4_OpForms.bxo (G:=G_) (inferInstanceAs (Nonempty G_)))
      rw [if_neg c60] at H
      obtain ⟨c60b0,c60b1⟩:=bF c60
      by_cases c64 : x6_2 = 10
      ·show (let G_ : Prop:=_; G_)
       intro G_
       exact (let_tmp i_ : Nonempty G_:=(((⟨by
       subst G_
       rw [if_pos c64] at H
       obtain ⟨c64b0,c64b1⟩:=bT c64
       clear c64
       have H':=Zz.k H
       clear H
       have hnb65:=NB280_254.out
       have hnc65:=NB254_280.out
       have hnb66:=NB280_255.out
       have hnc66:=NB255_280.out
       obtain ⟨_,_,_,_,_,_,_,_,_,_,_,_,_,_,_,_,_,_,_,_,_,_⟩:=kc11 BK280
       go_wp2
       go_meet
       case rel => exact ⟨_,(t267),(t268),(t269),(t270),(t271),(t272),((⟨#[48,49,50,51,52,53,54,55,56,57,97,98]⟩ : ByteArray)),(t274),(t277),(t278),(t279),(.slice Ao27 t274.length co27),H',⟨by have:=HK1.out; have:=HK2.out; first | omega | exact Nat.le_refl _⟩,⟨by (with_reducible repeat (first | apply Kd.N_alloc | apply Kd.N_drewN | apply Kd.N_drew)); exact Kd.N_mono (Kd.N_far (p:=⟨gb280,6,none⟩) (Kd.N_far (p:=⟨gb280,10,none⟩) (Kd.N_far (p:=⟨gb280,9,none⟩) (Kd.N_far (p:=⟨gb280,8,none⟩) (Kd.N_far (p:=⟨gb280,7,none⟩) (Kd.N_far (p:=⟨gb280,6,none⟩) (Kd.N_far (p:=⟨gb280,5,none⟩) (Kd.N_far (p:=⟨gb280,4,none⟩) (Kd.N_far (p:=⟨gb280,3,none⟩) (Kd.N_far (p:=⟨gb280,2,none⟩) (Kd.N_far (p:=⟨gb280,1,none⟩) (Kd.N_far (p:=⟨gb280,0,none⟩) (Kd.N_mono HO_4.out (fun k_ hk => (⟨hk,hk.2⟩ : _ /\ k_ ≠ gb280))) (fun _ hk => hk.2) (.int .i64 t267)) (fun _ hk => hk.2) (.int .i64 t268)) (fun _ hk => hk.2) (.int .i64 t269)) (fun _ hk => hk.2) (.int .i64 t270)) (fun _ hk => hk.2) (.int .i64 t271)) (fun _ hk => hk.2) (.int .i64 t272)) (fun _ hk => hk.2) (.string t273)) (fun _ hk => hk.2) (.slice Ao27 t274.length co27)) (fun _ hk => hk.2) (.int .i64 t277)) (fun _ hk => hk.2) (.int .i64 t278)) (fun _ hk => hk.2) (.int .i64 t279)) (fun _ hk => hk.2) (.string (⟨#[48,49,50,51,52,53,54,55,56,57,97,98]⟩ : ByteArray))) (fun _ hk => ⟨hk.1.1.2,⟨hk.1.1.1.1,⟨hk.1.1.1.2,hk.1.2⟩⟩⟩)⟩,⟨by (with_reducible repeat (first | apply Kd.R_alloc | apply Kd.R_drewN | apply Kd.R_drew)); exact Kd.R_mono (Kd.R_far (p:=⟨gb280,6,none⟩) (rf11 (Kd.R_types HO276.out BK280.out (by decide))) (fun _ hk => hk.2) (.string (⟨#[48,49,50,51,52,53,54,55,56,57,97,98]⟩ : ByteArray))) (fun _ hk => hk.1.2)⟩,⟨kk BK254⟩,⟨kk BK255⟩,⟨bp (bp11 (kk BK280)) 6⟩,⟨bw HB⟩⟩⟩ : Nonempty G_)) :); w4_OpForms.bxo (G:=G_) (inferInstanceAs (Nonempty G_)))
      rw [if_neg c64] at H
      obtain ⟨c64b0,c64b1⟩:=bF c64
      by_cases c68 : x6_2 = 11
      ·show (let G_ : Prop:=_; G_)
       intro G_
       exact (let_tmp i_ : Nonempty G_:=(((⟨by
       subst G_
       rw [if_pos c68] at H
       obtain ⟨c68b0,c68b1⟩:=bT c68
       clear c68
       have H':=Zz.k H
       clear H
       have hnb69:=NB280_254.out
       have hnc69:=NB254_280.out
       have hnb70:=NB280_255.out
       have hnc70:=NB255_280.out
       obtain ⟨_,_,_,_,_,_,_,_,_,_,_,_,_,_,_,_,_,_,_,_,_,_⟩:=kc11 BK280
       go_wp2
       go_meet
       case rel => exact ⟨_,(t267),(t268),(t269),(t270),(t271),(t272),((⟨#[48,49,50,51,52,53,54,55,56,57,97,98,99]⟩ : ByteArray)),(t274),(t277),(t278),(t279),(.slice Ao27 t274.length co27),H',⟨by have:=HK1.out; have:=HK2.out; first | omega | exact Nat.le_refl _⟩,⟨by (with_reducible repeat (first | apply Kd.N_alloc | apply Kd.N_drewN | apply Kd.N_drew)); exact Kd.N_mono (Kd.N_far (p:=⟨gb280,6,none⟩) (Kd.N_far (p:=⟨gb280,10,none⟩) (Kd.N_far (p:=⟨gb280,9,none⟩) (Kd.N_far (p:=⟨gb280,8,none⟩) (Kd.N_far (p:=⟨gb280,7,none⟩) (Kd.N_far (p:=⟨gb280,6,none⟩) (Kd.N_far (p:=⟨gb280,5,none⟩) (Kd.N_far (p:=⟨gb280,4,none⟩) (Kd.N_far (p:=⟨gb280,3,none⟩) (Kd.N_far (p:=⟨gb280,2,none⟩) (Kd.N_far (p:=⟨gb280,1,none⟩) (Kd.N_far (p:=⟨gb280,0,none⟩) (Kd.N_mono HO_4.out (fun k_ hk => (⟨hk,hk.2⟩ : _ /\ k_ ≠ gb280))) (fun _ hk => hk.2) (.int .i64 t267)) (fun _ hk => hk.2) (.int .i64 t268)) (fun _ hk => hk.2) (.int .i64 t269)) (fun _ hk => hk.2) (.int .i64 t270)) (fun _ hk => hk.2) (.int .i64 t271)) (fun _ hk => hk.2) (.int .i64 t272)) (fun _ hk => hk.2) (.string t273)) (fun _ hk => hk.2) (.slice Ao27 t274.length co27)) (fun _ hk => hk.2) (.int .i64 t277)) (fun _ hk => hk.2) (.int .i64 t278)) (fun _ hk => hk.2) (.int .i64 t279)) (fun _ hk => hk.2) (.string (⟨#[48,49,50,51,52,53,54,55,56,57,97,98,99]⟩ : ByteArray))) (fun _ hk => ⟨hk.1.1.2,⟨hk.1.1.1.1,⟨hk.1.1.1.2,hk.1.2⟩⟩⟩)⟩,⟨by (with_reducible repeat (first | apply Kd.R_alloc | apply Kd.R_drewN | apply Kd.R_drew)); exact Kd.R_mono (Kd.R_far (p:=⟨gb280,6,none⟩) (rf11 (Kd.R_types HO276.out BK280.out (by decide))) (fun _ hk => hk.2) (.string (⟨#[48,49,50,51,52,53,54,55,56,57,97,98,99]⟩ : ByteArray))) (fun _ hk => hk.1.2)⟩,⟨kk BK254⟩,⟨kk BK255⟩,⟨bp (bp11 (kk BK280)) 6⟩,⟨bw HB⟩⟩⟩ : Nonempty G_)) :); w4_OpForms.bxo (G:=G_) (inferInstanceAs (Nonempty G_)))
      rw [if_neg c68] at H
      obtain ⟨c68b0,c68b1⟩:=bF c68
      by_cases c72 : x6_2 = 12
      ·show (let G_ : Prop:=_; G_)
       intro G_
       exact (let_tmp i_ : Nonempty G_:=(((⟨by
       subst G_
       rw [if_pos c72] at H
       obtain ⟨c72b0,c72b1⟩:=bT c72
       clear c72
       by_cases c73 : t274.length < 5864062014805; rotate_left
       ·rw [if_neg c73] at H
        exact absurd H (by simp)
       show (let G_ : Prop:=_; G_)
       intro G_
       exact (let_tmp i_ : Nonempty G_:=(((⟨by
       subst G_
       rw [if_pos c73] at H
       have LMc73:=Zz.k c73
       clear c73
       obtain ⟨y281,hy281⟩ : ∃ y_ : List (SElem),y_ = (t274 ++ [(⟨2,1,0⟩ : SElem)]):=⟨_,rfl⟩
       first | rw [Option.bind_some,<- hy281] at H | rw [<- hy281] at H
       have Ny281:=Zz.k hy281
       clear hy281
       have H':=Zz.k H
       clear H
       have hnb74:=NB280_254.out
       have hnc74:=NB254_280.out
       have hnb75:=NB280_255.out
       have hnc75:=NB255_280.out
       obtain ⟨_,_,_,_,_,_,_,_,_,_,_,_,_,_,_,_,_,_,_,_,_,_⟩:=kc11 BK280
       have hnb77:=NB255_254.out
       have hnc77:=NB254_255.out
       obtain ⟨_,_,_,_,_,_⟩:=kc3 BK255
       go_wp2_with (first | ((with_reducible refine Qbr (b:=.append) (xs:=#[.tmp 78, .tmp 80]) rfl ?_); at_builtin; refine Kd.R_append Qam (w0:=w) w.heap.size rfl (.tmp 78) (.tmp 80) 23 43 (.agg #[(.int .i64 0),(.int .i64 0),(.int .i64 0)]) 24 rfl Tryd.underlying23 info43 rfl (by decide) (by omega) (.slice Ao27 t274.length co27) t274 (⟨2,1,0⟩ : SElem) [.int .i64 2, .int .i64 1, .int .i64 0] (fun k_ => k_ ≠ gb255) (fun _ => False) rfl (by first | (go_simp; done) | (go_simp; rfl)) ?aP (fun _ hk => hk.elim) ?aF ?aO ?aB ?aS ?aL ?_; (case aP => exact Qan _ _ _ (⟨2,1,0⟩ : SElem)); (case aB => exact (bw HB)); (case aF => exact (fun k_ hk => Kd.freshB (kk BK255) k_ hk)); (case aO => exact (by (with_reducible repeat (first | apply Kd.R_alloc | apply Kd.R_drewN | apply Kd.R_drew)); exact Kd.R_mono (rf11 (Kd.R_types HO276.out BK280.out (by decide))) (fun _ hk => hk.1.2))); (case aS => exact (Qao (bw HB))); (case aL => have:=LMc73.out; omega); intro v282 w79 ho hb hg hat; rw [<- Ny281.out] at ho; have n0_:=Zz.k (Kd.N_afterv (ok:=(fun k_ => k_ ≠ gb254 /\ k_ ≠ gb255 /\ k_ ≠ gb280)) (by (with_reducible repeat (first | apply Kd.N_alloc | apply Kd.N_drewN | apply Kd.N_drew)); exact Kd.N_mono (Kd.N_far (p:=⟨gb280,10,none⟩) (Kd.N_far (p:=⟨gb280,9,none⟩) (Kd.N_far (p:=⟨gb280,8,none⟩) (Kd.N_far (p:=⟨gb280,7,none⟩) (Kd.N_far (p:=⟨gb280,6,none⟩) (Kd.N_far (p:=⟨gb280,5,none⟩) (Kd.N_far (p:=⟨gb280,4,none⟩) (Kd.N_far (p:=⟨gb280,3,none⟩) (Kd.N_far (p:=⟨gb280,2,none⟩) (Kd.N_far (p:=⟨gb280,1,none⟩) (Kd.N_far (p:=⟨gb280,0,none⟩) (Kd.N_mono HO_4.out (fun k_ hk => (⟨hk,hk.2⟩ : _ /\ k_ ≠ gb280))) (fun _ hk => hk.2) (.int .i64 t267)) (fun _ hk => hk.2) (.int .i64 t268)) (fun _ hk => hk.2) (.int .i64 t269)) (fun _ hk => hk.2) (.int .i64 t270)) (fun _ hk => hk.2) (.int .i64 t271)) (fun _ hk => hk.2) (.int .i64 t272)) (fun _ hk => hk.2) (.string t273)) (fun _ hk => hk.2) (.slice Ao27 t274.length co27)) (fun _ hk => hk.2) (.int .i64 t277)) (fun _ hk => hk.2) (.int .i64 t278)) (fun _ hk => hk.2) (.int .i64 t279)) (fun _ hk => ⟨⟨hk.1.1.1.1,⟨hk.1.1.1.2,hk.1.2⟩⟩,hk.1.1.2⟩)) hg hat); have n1_:=Zz.k (Qbg (kk BK254) hg (Kd.R_ne HO276.out BK254.out (by decide))); have n2_:=Zz.k (Qbg (kk BK255) hg (Kd.R_away HO276.out (fun _ hk => hk.2))); have n3_:=Zz.k (Kd.V_afterv (ok:=(fun k_ => some k_ ≠ (.slice (some ad266) y262.length co16 : Value).ownBlock /\ k_ ≠ gb254 /\ k_ ≠ gb255 /\ k_ ≠ gb280)) (by (with_reducible repeat (first | apply Kd.V_alloc | apply Kd.V_drewN | apply Kd.V_drew)); exact Kd.V_mono (Kd.V_far (p:=⟨gb280,10,none⟩) (Kd.V_far (p:=⟨gb280,9,none⟩) (Kd.V_far (p:=⟨gb280,8,none⟩) (Kd.V_far (p:=⟨gb280,7,none⟩) (Kd.V_far (p:=⟨gb280,6,none⟩) (Kd.V_far (p:=⟨gb280,5,none⟩) (Kd.V_far (p:=⟨gb280,4,none⟩) (Kd.V_far (p:=⟨gb280,3,none⟩) (Kd.V_far (p:=⟨gb280,2,none⟩) (Kd.V_far (p:=⟨gb280,1,none⟩) (Kd.V_far (p:=⟨gb280,0,none⟩) (Kd.V_mono HL266_7.out (fun k_ hk => (⟨hk,hk.2⟩ : _ /\ k_ ≠ gb280))) (fun _ hk => hk.2) (.int .i64 t267)) (fun _ hk => hk.2) (.int .i64 t268)) (fun _ hk => hk.2) (.int .i64 t269)) (fun _ hk => hk.2) (.int .i64 t270)) (fun _ hk => hk.2) (.int .i64 t271)) (fun _ hk => hk.2) (.int .i64 t272)) (fun _ hk => hk.2) (.string t273)) (fun _ hk => hk.2) (.slice Ao27 t274.length co27)) (fun _ hk => hk.2) (.int .i64 t277)) (fun _ hk => hk.2) (.int .i64 t278)) (fun _ hk => hk.2) (.int .i64 t279)) (fun _ hk => ⟨⟨hk.1.1.1.2,⟨hk.1.1.1.1.1,⟨hk.1.1.1.1.2,hk.1.2⟩⟩⟩,hk.1.1.2⟩)) hg hat); have n4_:=Zz.k (Qbg (g:=gb280) (o:=.cells #[.int .i64 t267, .int .i64 t268, .int .i64 t269, .int .i64 t270, .int .i64 t271, .int .i64 t272, .string t273, .slice Ao27 t274.length co27, .int .i64 t277, .int .i64 t278, .int .i64 t279] 55 (0,0)) (bp11 (kk BK280)) hg (Kd.R_ne HO276.out BK280.out (by decide))); have n5_:=Zz.k (hb); have n6_:=Zz.k (ho); clear HO_4; clear BK254; clear BK255; clear HL266_7; clear BK280; clear HB; clear HO276; have HO_4:=n0_; have BK254:=n1_; have BK255:=n2_; have HL266_7:=n3_; have BK280:=n4_; have HB:=n5_; have HO283:=n6_; clear n0_ n1_ n2_ n3_ n4_ n5_ n6_; clear ho hb hg hat; obtain ⟨Ao80,co80,eo80⟩:=Kd.R_slice HO283.out; subst eo80; obtain ⟨_,_,_,_,_,_,_,_,_,_,_,_,_,_,_,_,_,_,_,_,_,_⟩:=kc11 BK280))
       go_meet
       case rel => exact ⟨_,(t267),(t268),(t269),(t270),(t271),(t272),(t273),(y281),(t277),(t278),(t279),(.slice Ao80 y281.length co80),H',⟨by have:=HK1.out; have:=HK2.out; first | omega | exact Nat.le_refl _⟩,⟨by (with_reducible repeat (first | apply Kd.N_alloc | apply Kd.N_drewN | apply Kd.N_drew)); exact Kd.N_mono (Kd.N_far (p:=⟨gb280,7,none⟩) (Kd.N_mono HO_4.out (fun k_ hk => (⟨hk,hk.1.2.2⟩ : _ /\ k_ ≠ gb280))) (fun _ hk => hk.2) (.slice Ao80 y281.length co80)) (fun _ hk => ⟨hk.1.2,⟨hk.1.1.1,⟨hk.1.1.2.1,hk.1.1.2.2⟩⟩⟩)⟩,⟨by (with_reducible repeat (first | apply Kd.R_alloc | apply Kd.R_drewN | apply Kd.R_drew)); exact Kd.R_mono (Kd.R_far (p:=⟨gb280,7,none⟩) (Kd.R_types HO283.out BK280.out (by decide)) (fun _ hk => hk.2) (.slice Ao80 y281.length co80)) (fun _ hk => hk.1)⟩,⟨kk BK254⟩,⟨kk BK255⟩,⟨bp (kk BK280) 7⟩,⟨bw HB⟩⟩⟩ : Nonempty G_)) :); w4_OpForms.bxo (G:=G_) (inferInstanceAs (Nonempty G_)))⟩ : Nonempty G_)) :); w4_OpForms.bxo (G:=G_) (inferInstanceAs (Nonempty G_)))
      rw [if_neg c72] at H
      obtain ⟨c72b0,c72b1⟩:=bF c72
      by_cases c82 : x6_2 = 13
      ·show (let G_ : Prop:=_; G_)
       intro G_
       exact (let_tmp i_ : Nonempty G_:=(((⟨by
       subst G_
       rw [if_pos c82] at H
       obtain ⟨c82b0,c82b1⟩:=bT c82
       clear c82
       by_cases c83 : t274.length < 5864062014805; rotate_left
       ·rw [if_neg c83] at H
        exact absurd H (by simp)
       show (let G_ : Prop:=_; G_)
       intro G_
       exact (let_tmp i_ : Nonempty G_:=(((⟨by
       subst G_
       rw [if_pos c83] at H
       have LMc83:=Zz.k c83
       clear c83
       obtain ⟨y284,hy284⟩ : ∃ y_ : List (SElem),y_ = (t274 ++ [(⟨0,0,0⟩ : SElem)]):=⟨_,rfl⟩
       first | rw [Option.bind_some,<- hy284] at H | rw [<- hy284] at H
       have Ny284:=Zz.k hy284
       clear hy284
       have H':=Zz.k H
       clear H
       have hnb84:=NB280_254.out
       have hnc84:=NB254_280.out
       have hnb85:=NB280_255.out
       have hnc85:=NB255_280.out
       obtain ⟨_,_,_,_,_,_,_,_,_,_,_,_,_,_,_,_,_,_,_,_,_,_⟩:=kc11 BK280
       go_wp2_with (first | ((with_reducible refine Qbr (b:=.append) (xs:=#[.tmp 86, .tmp 88]) rfl ?_); at_builtin; refine Kd.R_append Qam (w0:=w) w.heap.size rfl (.tmp 86) (.tmp 88) 23 43 (.agg #[(.int .i64 0),(.int .i64 0),(.int .i64 0)]) 24 rfl Tryd.underlying23 info43 rfl (by decide) (by omega) (.slice Ao27 t274.length co27) t274 (⟨0,0,0⟩ : SElem) [.int .i64 0, .int .i64 0, .int .i64 0] (fun k_ => k_ ≠ gb255) (fun _ => False) rfl (by first | (go_simp; done) | (go_simp; rfl)) ?aP (fun _ hk => hk.elim) ?aF ?aO ?aB ?aS ?aL ?_; (case aP => exact Qan _ _ _ (⟨0,0,0⟩ : SElem)); (case aB => exact (bw HB)); (case aF => exact (fun k_ hk => Kd.freshB (kk BK255) k_ hk)); (case aO => exact (by (with_reducible repeat (first | apply Kd.R_alloc | apply Kd.R_drewN | apply Kd.R_drew)); exact Kd.R_mono (rf11 (Kd.R_types HO276.out BK280.out (by decide))) (fun _ hk => hk.1.2))); (case aS => exact (Qao (bw HB))); (case aL => have:=LMc83.out; omega); intro v285 w87 ho hb hg hat; rw [<- Ny284.out] at ho; have n0_:=Zz.k (Kd.N_afterv (ok:=(fun k_ => k_ ≠ gb254 /\ k_ ≠ gb255 /\ k_ ≠ gb280)) (by (with_reducible repeat (first | apply Kd.N_alloc | apply Kd.N_drewN | apply Kd.N_drew)); exact Kd.N_mono (Kd.N_far (p:=⟨gb280,10,none⟩) (Kd.N_far (p:=⟨gb280,9,none⟩) (Kd.N_far (p:=⟨gb280,8,none⟩) (Kd.N_far (p:=⟨gb280,7,none⟩) (Kd.N_far (p:=⟨gb280,6,none⟩) (Kd.N_far (p:=⟨gb280,5,none⟩) (Kd.N_far (p:=⟨gb280,4,none⟩) (Kd.N_far (p:=⟨gb280,3,none⟩) (Kd.N_far (p:=⟨gb280,2,none⟩) (Kd.N_far (p:=⟨gb280,1,none⟩) (Kd.N_far (p:=⟨gb280,0,none⟩) (Kd.N_mono HO_4.out (fun k_ hk => (⟨hk,hk.2⟩ : _ /\ k_ ≠ gb280))) (fun _ hk => hk.2) (.int .i64 t267)) (fun _ hk => hk.2) (.int .i64 t268)) (fun _ hk => hk.2) (.int .i64 t269)) (fun _ hk => hk.2) (.int .i64 t270)) (fun _ hk => hk.2) (.int .i64 t271)) (fun _ hk => hk.2) (.int .i64 t272)) (fun _ hk => hk.2) (.string t273)) (fun _ hk => hk.2) (.slice Ao27 t274.length co27)) (fun _ hk => hk.2) (.int .i64 t277)) (fun _ hk => hk.2) (.int .i64 t278)) (fun _ hk => hk.2) (.int .i64 t279)) (fun _ hk => ⟨⟨hk.1.1.1.1,⟨hk.1.1.1.2,hk.1.2⟩⟩,hk.1.1.2⟩)) hg hat); have n1_:=Zz.k (Qbg (kk BK254) hg (Kd.R_ne HO276.out BK254.out (by decide))); have n2_:=Zz.k (Qbg (kk BK255) hg (Kd.R_away HO276.out (fun _ hk => hk.2))); have n3_:=Zz.k (Kd.V_afterv (ok:=(fun k_ => some k_ ≠ (.slice (some ad266) y262.length co16 : Value).ownBlock /\ k_ ≠ gb254 /\ k_ ≠ gb255 /\ k_ ≠ gb280)) (by (with_reducible repeat (first | apply Kd.V_alloc | apply Kd.V_drewN | apply Kd.V_drew)); exact Kd.V_mono (Kd.V_far (p:=⟨gb280,10,none⟩) (Kd.V_far (p:=⟨gb280,9,none⟩) (Kd.V_far (p:=⟨gb280,8,none⟩) (Kd.V_far (p:=⟨gb280,7,none⟩) (Kd.V_far (p:=⟨gb280,6,none⟩) (Kd.V_far (p:=⟨gb280,5,none⟩) (Kd.V_far (p:=⟨gb280,4,none⟩) (Kd.V_far (p:=⟨gb280,3,none⟩) (Kd.V_far (p:=⟨gb280,2,none⟩) (Kd.V_far (p:=⟨gb280,1,none⟩) (Kd.V_far (p:=⟨gb280,0,none⟩) (Kd.V_mono HL266_7.out (fun k_ hk => (⟨hk,hk.2⟩ : _ /\ k_ ≠ gb280))) (fun _ hk => hk.2) (.int .i64 t267)) (fun _ hk => hk.2) (.int .i64 t268)) (fun _ hk => hk.2) (.int .i64 t269)) (fun _ hk => hk.2) (.int .i64 t270)) (fun _ hk => hk.2) (.int .i64 t271)) (fun _ hk => hk.2) (.int .i64 t272)) (fun _ hk => hk.2) (.string t273)) (fun _ hk => hk.2) (.slice Ao27 t274.length co27)) (fun _ hk => hk.2) (.int .i64 t277)) (fun _ hk => hk.2) (.int .i64 t278)) (fun _ hk => hk.2) (.int .i64 t279)) (fun _ hk => ⟨⟨hk.1.1.1.2,⟨hk.1.1.1.1.1,⟨hk.1.1.1.1.2,hk.1.2⟩⟩⟩,hk.1.1.2⟩)) hg hat); have n4_:=Zz.k (Qbg (g:=gb280) (o:=.cells #[.int .i64 t267, .int .i64 t268, .int .i64 t269, .int .i64 t270, .int .i64 t271, .int .i64 t272, .string t273, .slice Ao27 t274.length co27, .int .i64 t277, .int .i64 t278, .int .i64 t279] 55 (0,0)) (bp11 (kk BK280)) hg (Kd.R_ne HO276.out BK280.out (by decide))); have n5_:=Zz.k (hb); have n6_:=Zz.k (ho); clear HO_4; clear BK254; clear BK255; clear HL266_7; clear BK280; clear HB; clear HO276; have HO_4:=n0_; have BK254:=n1_; have BK255:=n2_; have HL266_7:=n3_; have BK280:=n4_; have HB:=n5_; have HO286:=n6_; clear n0_ n1_ n2_ n3_ n4_ n5_ n6_; clear ho hb hg hat; obtain ⟨Ao88,co88,eo88⟩:=Kd.R_slice HO286.out; subst eo88; obtain ⟨_,_,_,_,_,_,_,_,_,_,_,_,_,_,_,_,_,_,_,_,_,_⟩:=kc11 BK280))
       go_meet
       case rel => exact ⟨_,(t267),(t268),(t269),(t270),(t271),(t272),(t273),(y284),(t277),(t278),(t279),(.slice Ao88 y284.length co88),H',⟨by have:=HK1.out; have:=HK2.out; first | omega | exact Nat.le_refl _⟩,⟨by (with_reducible repeat (first | apply Kd.N_alloc | apply Kd.N_drewN | apply Kd.N_drew)); exact Kd.N_mono (Kd.N_far (p:=⟨gb280,7,none⟩) (Kd.N_mono HO_4.out (fun k_ hk => (⟨hk,hk.1.2.2⟩ : _ /\ k_ ≠ gb280))) (fun _ hk => hk.2) (.slice Ao88 y284.length co88)) (fun _ hk => ⟨hk.1.2,⟨hk.1.1.1,⟨hk.1.1.2.1,hk.1.1.2.2⟩⟩⟩)⟩,⟨by (with_reducible repeat (first | apply Kd.R_alloc | apply Kd.R_drewN | apply Kd.R_drew)); exact Kd.R_mono (Kd.R_far (p:=⟨gb280,7,none⟩) (Kd.R_types HO286.out BK280.out (by decide)) (fun _ hk => hk.2) (.slice Ao88 y284.length co88)) (fun _ hk => hk.1)⟩,⟨kk BK254⟩,⟨kk BK255⟩,⟨bp (kk BK280) 7⟩,⟨bw HB⟩⟩⟩ : Nonempty G_)) :); w4_OpForms.bxo (G:=G_) (inferInstanceAs (Nonempty G_)))⟩ : Nonempty G_)) :); w4_OpForms.bxo (G:=G_) (inferInstanceAs (Nonempty G_)))
      rw [if_neg c82] at H
      obtain ⟨c82b0,c82b1⟩:=bF c82
      by_cases c90 : x6_2 = 14
      ·show (let G_ : Prop:=_; G_)
       intro G_
       exact (let_tmp i_ : Nonempty G_:=(((⟨by
       subst G_
       rw [if_pos c90] at H
       obtain ⟨c90b0,c90b1⟩:=bT c90
       clear c90
       by_cases c91 : t274.length < 5864062014805; rotate_left
       ·rw [if_neg c91] at H
        exact absurd H (by simp)
       show (let G_ : Prop:=_; G_)
       intro G_
       exact (let_tmp i_ : Nonempty G_:=(((⟨by
       subst G_
       rw [if_pos c91] at H
       have LMc91:=Zz.k c91
       clear c91
       obtain ⟨y287,hy287⟩ : ∃ y_ : List (SElem),y_ = (t274 ++ [(⟨t267,t268,0⟩ : SElem)]):=⟨_,rfl⟩
       first | rw [Option.bind_some,<- hy287] at H | rw [<- hy287] at H
       have Ny287:=Zz.k hy287
       clear hy287
       have H':=Zz.k H
       clear H
       have hnb92:=NB280_254.out
       have hnc92:=NB254_280.out
       have hnb93:=NB280_255.out
       have hnc93:=NB255_280.out
       obtain ⟨_,_,_,_,_,_,_,_,_,_,_,_,_,_,_,_,_,_,_,_,_,_⟩:=kc11 BK280
       go_wp2_with (first | ((with_reducible refine Qbr (b:=.append) (xs:=#[.tmp 94, .tmp 100]) rfl ?_); at_builtin; refine Kd.R_append Qam (w0:=w) w.heap.size rfl (.tmp 94) (.tmp 100) 23 43 (.agg #[(.int .i64 0),(.int .i64 0),(.int .i64 0)]) 24 rfl Tryd.underlying23 info43 rfl (by decide) (by omega) (.slice Ao27 t274.length co27) t274 (⟨t267,t268,0⟩ : SElem) [.int .i64 t267, .int .i64 t268, .int .i64 0] (fun k_ => k_ ≠ gb255) (fun _ => False) rfl (by first | (go_simp; done) | (go_simp; rfl)) ?aP (fun _ hk => hk.elim) ?aF ?aO ?aB ?aS ?aL ?_; (case aP => exact Qan _ _ _ (⟨t267,t268,0⟩ : SElem)); (case aB => exact (bw HB)); (case aF => exact (fun k_ hk => Kd.freshB (kk BK255) k_ hk)); (case aO => exact (by (with_reducible repeat (first | apply Kd.R_alloc | apply Kd.R_drewN | apply Kd.R_drew)); exact Kd.R_mono (rf11 (Kd.R_types HO276.out BK280.out (by decide))) (fun _ hk => hk.1.2))); (case aS => exact (Qao (bw HB))); (case aL => have:=LMc91.out; omega); intro v288 w95 ho hb hg hat; rw [<- Ny287.out] at ho; have n0_:=Zz.k (Kd.N_afterv (ok:=(fun k_ => k_ ≠ gb254 /\ k_ ≠ gb255 /\ k_ ≠ gb280)) (by (with_reducible repeat (first | apply Kd.N_alloc | apply Kd.N_drewN | apply Kd.N_drew)); exact Kd.N_mono (Kd.N_far (p:=⟨gb280,10,none⟩) (Kd.N_far (p:=⟨gb280,9,none⟩) (Kd.N_far (p:=⟨gb280,8,none⟩) (Kd.N_far (p:=⟨gb280,7,none⟩) (Kd.N_far (p:=⟨gb280,6,none⟩) (Kd.N_far (p:=⟨gb280,5,none⟩) (Kd.N_far (p:=⟨gb280,4,none⟩) (Kd.N_far (p:=⟨gb280,3,none⟩) (Kd.N_far (p:=⟨gb280,2,none⟩) (Kd.N_far (p:=⟨gb280,1,none⟩) (Kd.N_far (p:=⟨gb280,0,none⟩) (Kd.N_mono HO_4.out (fun k_ hk => (⟨hk,hk.2⟩ : _ /\ k_ ≠ gb280))) (fun _ hk => hk.2) (.int .i64 t267)) (fun _ hk => hk.2) (.int .i64 t268)) (fun _ hk => hk.2) (.int .i64 t269)) (fun _ hk => hk.2) (.int .i64 t270)) (fun _ hk => hk.2) (.int .i64 t271)) (fun _ hk => hk.2) (.int .i64 t272)) (fun _ hk => hk.2) (.string t273)) (fun _ hk => hk.2) (.slice Ao27 t274.length co27)) (fun _ hk => hk.2) (.int .i64 t277)) (fun _ hk => hk.2) (.int .i64 t278)) (fun _ hk => hk.2) (.int .i64 t279)) (fun _ hk => ⟨⟨hk.1.1.1.1,⟨hk.1.1.1.2,hk.1.2⟩⟩,hk.1.1.2⟩)) hg hat); have n1_:=Zz.k (Qbg (kk BK254) hg (Kd.R_ne HO276.out BK254.out (by decide))); have n2_:=Zz.k (Qbg (kk BK255) hg (Kd.R_away HO276.out (fun _ hk => hk.2))); have n3_:=Zz.k (Kd.V_afterv (ok:=(fun k_ => some k_ ≠ (.slice (some ad266) y262.length co16 : Value).ownBlock /\ k_ ≠ gb254 /\ k_ ≠ gb255 /\ k_ ≠ gb280)) (by (with_reducible repeat (first | apply Kd.V_alloc | apply Kd.V_drewN | apply Kd.V_drew)); exact Kd.V_mono (Kd.V_far (p:=⟨gb280,10,none⟩) (Kd.V_far (p:=⟨gb280,9,none⟩) (Kd.V_far (p:=⟨gb280,8,none⟩) (Kd.V_far (p:=⟨gb280,7,none⟩) (Kd.V_far (p:=⟨gb280,6,none⟩) (Kd.V_far (p:=⟨gb280,5,none⟩) (Kd.V_far (p:=⟨gb280,4,none⟩) (Kd.V_far (p:=⟨gb280,3,none⟩) (Kd.V_far (p:=⟨gb280,2,none⟩) (Kd.V_far (p:=⟨gb280,1,none⟩) (Kd.V_far (p:=⟨gb280,0,none⟩) (Kd.V_mono HL266_7.out (fun k_ hk => (⟨hk,hk.2⟩ : _ /\ k_ ≠ gb280))) (fun _ hk => hk.2) (.int .i64 t267)) (fun _ hk => hk.2) (.int .i64 t268)) (fun _ hk => hk.2) (.int .i64 t269)) (fun _ hk => hk.2) (.int .i64 t270)) (fun _ hk => hk.2) (.int .i64 t271)) (fun _ hk => hk.2) (.int .i64 t272)) (fun _ hk => hk.2) (.string t273)) (fun _ hk => hk.2) (.slice Ao27 t274.length co27)) (fun _ hk => hk.2) (.int .i64 t277)) (fun _ hk => hk.2) (.int .i64 t278)) (fun _ hk => hk.2) (.int .i64 t279)) (fun _ hk => ⟨⟨hk.1.1.1.2,⟨hk.1.1.1.1.1,⟨hk.1.1.1.1.2,hk.1.2⟩⟩⟩,hk.1.1.2⟩)) hg hat); have n4_:=Zz.k (Qbg (g:=gb280) (o:=.cells #[.int .i64 t267, .int .i64 t268, .int .i64 t269, .int .i64 t270, .int .i64 t271, .int .i64 t272, .string t273, .slice Ao27 t274.length co27, .int .i64 t277, .int .i64 t278, .int .i64 t279] 55 (0,0)) (bp11 (kk BK280)) hg (Kd.R_ne HO276.out BK280.out (by decide))); have n5_:=Zz.k (hb); have n6_:=Zz.k (ho); clear HO_4; clear BK254; clear BK255; clear HL266_7; clear BK280; clear HB; clear HO276; have HO_4:=n0_; have BK254:=n1_; have BK255:=n2_; have HL266_7:=n3_; have BK280:=n4_; have HB:=n5_; have HO289:=n6_; clear n0_ n1_ n2_ n3_ n4_ n5_ n6_; clear ho hb hg hat; obtain ⟨Ao96,co96,eo96⟩:=Kd.R_slice HO289.out; subst eo96; obtain ⟨_,_,_,_,_,_,_,_,_,_,_,_,_,_,_,_,_,_,_,_,_,_⟩:=kc11 BK280))
       go_meet
       case rel => exact ⟨_,(t267),(t268),(t269),(t270),(t271),(t272),(t273),(y287),(t277),(t278),(t279),(.slice Ao96 y287.length co96),H',⟨by have:=HK1.out; have:=HK2.out; first | omega | exact Nat.le_refl _⟩,⟨by (with_reducible repeat (first | apply Kd.N_alloc | apply Kd.N_drewN | apply Kd.N_drew)); exact Kd.N_mono (Kd.N_far (p:=⟨gb280,7,none⟩) (Kd.N_mono HO_4.out (fun k_ hk => (⟨hk,hk.1.2.2⟩ : _ /\ k_ ≠ gb280))) (fun _ hk => hk.2) (.slice Ao96 y287.length co96)) (fun _ hk => ⟨hk.1.2,⟨hk.1.1.1,⟨hk.1.1.2.1,hk.1.1.2.2⟩⟩⟩)⟩,⟨by (with_reducible repeat (first | apply Kd.R_alloc | apply Kd.R_drewN | apply Kd.R_drew)); exact Kd.R_mono (Kd.R_far (p:=⟨gb280,7,none⟩) (Kd.R_types HO289.out BK280.out (by decide)) (fun _ hk => hk.2) (.slice Ao96 y287.length co96)) (fun _ hk => hk.1)⟩,⟨kk BK254⟩,⟨kk BK255⟩,⟨bp (kk BK280) 7⟩,⟨bw HB⟩⟩⟩ : Nonempty G_)) :); w4_OpForms.bxo (G:=G_) (inferInstanceAs (Nonempty G_)))⟩ : Nonempty G_)) :); w4_OpForms.bxo (G:=G_) (inferInstanceAs (Nonempty G_)))
      rw [if_neg c90] at H
      obtain ⟨c90b0,c90b1⟩:=bF c90
      by_cases c98 : x6_2 = 15
      ·show (let G_ : Prop:=_; G_)
       intro G_
       exact (let_tmp i_ : Nonempty G_:=(((⟨by
       subst G_
       rw [if_pos c98] at H
       obtain ⟨c98b0,c98b1⟩:=bT c98
       clear c98
       by_cases c99 : t274.length < 5864062014805; rotate_left
       ·rw [if_neg c99] at H
        exact absurd H (by simp)
       show (let G_ : Prop:=_; G_)
       intro G_
       exact (let_tmp i_ : Nonempty G_:=(((⟨by
       subst G_
       rw [if_pos c99] at H
       have LMc99:=Zz.k c99
       clear c99
       obtain ⟨y290,hy290⟩ : ∃ y_ : List (SElem),y_ = (t274 ++ [(⟨8,5,12⟩ : SElem)]):=⟨_,rfl⟩
       first | rw [Option.bind_some,<- hy290] at H | rw [<- hy290] at H
       have Ny290:=Zz.k hy290
       clear hy290
       have H':=Zz.k H
       clear H
       have hnb100:=NB280_254.out
       have hnc100:=NB254_280.out
       have hnb101:=NB280_255.out
       have hnc101:=NB255_280.out
       obtain ⟨_,_,_,_,_,_,_,_,_,_,_,_,_,_,_,_,_,_,_,_,_,_⟩:=kc11 BK280
       go_wp2_with (first | ((with_reducible refine Qbr (b:=.append) (xs:=#[.tmp 106, .tmp 108]) rfl ?_); at_builtin; refine Kd.R_append Qam (w0:=w) w.heap.size rfl (.tmp 106) (.tmp 108) 23 43 (.agg #[(.int .i64 0),(.int .i64 0),(.int .i64 0)]) 24 rfl Tryd.underlying23 info43 rfl (by decide) (by omega) (.slice Ao27 t274.length co27) t274 (⟨8,5,12⟩ : SElem) [.int .i64 8, .int .i64 5, .int .i64 12] (fun k_ => k_ ≠ gb255) (fun _ => False) rfl (by first | (go_simp; done) | (go_simp; rfl)) ?aP (fun _ hk => hk.elim) ?aF ?aO ?aB ?aS ?aL ?_; (case aP => exact Qan _ _ _ (⟨8,5,12⟩ : SElem)); (case aB => exact (bw HB)); (case aF => exact (fun k_ hk => Kd.freshB (kk BK255) k_ hk)); (case aO => exact (by (with_reducible repeat (first | apply Kd.R_alloc | apply Kd.R_drewN | apply Kd.R_drew)); exact Kd.R_mono (rf11 (Kd.R_types HO276.out BK280.out (by decide))) (fun _ hk => hk.1.2))); (case aS => exact (Qao (bw HB))); (case aL => have:=LMc99.out; omega); intro v291 w103 ho hb hg hat; rw [<- Ny290.out] at ho; have n0_:=Zz.k (Kd.N_afterv (ok:=(fun k_ => k_ ≠ gb254 /\ k_ ≠ gb255 /\ k_ ≠ gb280)) (by (with_reducible repeat (first | apply Kd.N_alloc | apply Kd.N_drewN | apply Kd.N_drew)); exact Kd.N_mono (Kd.N_far (p:=⟨gb280,10,none⟩) (Kd.N_far (p:=⟨gb280,9,none⟩) (Kd.N_far (p:=⟨gb280,8,none⟩) (Kd.N_far (p:=⟨gb280,7,none⟩) (Kd.N_far (p:=⟨gb280,6,none⟩) (Kd.N_far (p:=⟨gb280,5,none⟩) (Kd.N_far (p:=⟨gb280,4,none⟩) (Kd.N_far (p:=⟨gb280,3,none⟩) (Kd.N_far (p:=⟨gb280,2,none⟩) (Kd.N_far (p:=⟨gb280,1,none⟩) (Kd.N_far (p:=⟨gb280,0,none⟩) (Kd.N_mono HO_4.out (fun k_ hk => (⟨hk,hk.2⟩ : _ /\ k_ ≠ gb280))) (fun _ hk => hk.2) (.int .i64 t267)) (fun _ hk => hk.2) (.int .i64 t268)) (fun _ hk => hk.2) (.int .i64 t269)) (fun _ hk => hk.2) (.int .i64 t270)) (fun _ hk => hk.2) (.int .i64 t271)) (fun _ hk => hk.2) (.int .i64 t272)) (fun _ hk => hk.2) (.string t273)) (fun _ hk => hk.2) (.slice Ao27 t274.length co27)) (fun _ hk => hk.2) (.int .i64 t277)) (fun _ hk => hk.2) (.int .i64 t278)) (fun _ hk => hk.2) (.int .i64 t279)) (fun _ hk => ⟨⟨hk.1.1.1.1,⟨hk.1.1.1.2,hk.1.2⟩⟩,hk.1.1.2⟩)) hg hat); have n1_:=Zz.k (Qbg (kk BK254) hg (Kd.R_ne HO276.out BK254.out (by decide))); have n2_:=Zz.k (Qbg (kk BK255) hg (Kd.R_away HO276.out (fun _ hk => hk.2))); have n3_:=Zz.k (Kd.V_afterv (ok:=(fun k_ => some k_ ≠ (.slice (some ad266) y262.length co16 : Value).ownBlock /\ k_ ≠ gb254 /\ k_ ≠ gb255 /\ k_ ≠ gb280)) (by (with_reducible repeat (first | apply Kd.V_alloc | apply Kd.V_drewN | apply Kd.V_drew)); exact Kd.V_mono (Kd.V_far (p:=⟨gb280,10,none⟩) (Kd.V_far (p:=⟨gb280,9,none⟩) (Kd.V_far (p:=⟨gb280,8,none⟩) (Kd.V_far (p:=⟨gb280,7,none⟩) (Kd.V_far (p:=⟨gb280,6,none⟩) (Kd.V_far (p:=⟨gb280,5,none⟩) (Kd.V_far (p:=⟨gb280,4,none⟩) (Kd.V_far (p:=⟨gb280,3,none⟩) (Kd.V_far (p:=⟨gb280,2,none⟩) (Kd.V_far (p:=⟨gb280,1,none⟩) (Kd.V_far (p:=⟨gb280,0,none⟩) (Kd.V_mono HL266_7.out (fun k_ hk => (⟨hk,hk.2⟩ : _ /\ k_ ≠ gb280))) (fun _ hk => hk.2) (.int .i64 t267)) (fun _ hk => hk.2) (.int .i64 t268)) (fun _ hk => hk.2) (.int .i64 t269)) (fun _ hk => hk.2) (.int .i64 t270)) (fun _ hk => hk.2) (.int .i64 t271)) (fun _ hk => hk.2) (.int .i64 t272)) (fun _ hk => hk.2) (.string t273)) (fun _ hk => hk.2) (.slice Ao27 t274.length co27)) (fun _ hk => hk.2) (.int .i64 t277)) (fun _ hk => hk.2) (.int .i64 t278)) (fun _ hk => hk.2) (.int .i64 t279)) (fun _ hk => ⟨⟨hk.1.1.1.2,⟨hk.1.1.1.1.1,⟨hk.1.1.1.1.2,hk.1.2⟩⟩⟩,hk.1.1.2⟩)) hg hat); have n4_:=Zz.k (Qbg (g:=gb280) (o:=.cells #[.int .i64 t267, .int .i64 t268, .int .i64 t269, .int .i64 t270, .int .i64 t271, .int .i64 t272, .string t273, .slice Ao27 t274.length co27, .int .i64 t277, .int .i64 t278, .int .i64 t279] 55 (0,0)) (bp11 (kk BK280)) hg (Kd.R_ne HO276.out BK280.out (by decide))); have n5_:=Zz.k (hb); have n6_:=Zz.k (ho); clear HO_4; clear BK254; clear BK255; clear HL266_7; clear BK280; clear HB; clear HO276; have HO_4:=n0_; have BK254:=n1_; have BK255:=n2_; have HL266_7:=n3_; have BK280:=n4_; have HB:=n5_; have HO292:=n6_; clear n0_ n1_ n2_ n3_ n4_ n5_ n6_; clear ho hb hg hat; obtain ⟨Ao104,co104,eo104⟩:=Kd.R_slice HO292.out; subst eo104; obtain ⟨_,_,_,_,_,_,_,_,_,_,_,_,_,_,_,_,_,_,_,_,_,_⟩:=kc11 BK280))
       go_meet
       case rel => exact ⟨_,(t267),(t268),(t269),(t270),(t271),(t272),(t273),(y290),(t277),(t278),(t279),(.slice Ao104 y290.length co104),H',⟨by have:=HK1.out; have:=HK2.out; first | omega | exact Nat.le_refl _⟩,⟨by (with_reducible repeat (first | apply Kd.N_alloc | apply Kd.N_drewN | apply Kd.N_drew)); exact Kd.N_mono (Kd.N_far (p:=⟨gb280,7,none⟩) (Kd.N_mono HO_4.out (fun k_ hk => (⟨hk,hk.1.2.2⟩ : _ /\ k_ ≠ gb280))) (fun _ hk => hk.2) (.slice Ao104 y290.length co104)) (fun _ hk => ⟨hk.1.2,⟨hk.1.1.1,⟨hk.1.1.2.1,hk.1.1.2.2⟩⟩⟩)⟩,⟨by (with_reducible repeat (first | apply Kd.R_alloc | apply Kd.R_drewN | apply Kd.R_drew)); exact Kd.R_mono (Kd.R_far (p:=⟨gb280,7,none⟩) (Kd.R_types HO292.out BK280.out (by decide)) (fun _ hk => hk.2) (.slice Ao104 y290.length co104)) (fun _ hk => hk.1)⟩,⟨kk BK254⟩,⟨kk BK255⟩,⟨bp (kk BK280) 7⟩,⟨bw HB⟩⟩⟩ : Nonempty G_)) :); w4_OpForms.bxo (G:=G_) (inferInstanceAs (Nonempty G_)))⟩ : Nonempty G_)) :); w4_OpForms.bxo (G:=G_) (inferInstanceAs (Nonempty G_)))
      rw [if_neg c98] at H
      obtain ⟨c98b0,c98b1⟩:=bF c98
      by_cases c106 : x6_2 = 16
      ·show (let G_ : Prop:=_; G_)
       intro G_
       exact (let_tmp i_ : Nonempty G_:=(((⟨by
       subst G_
       rw [if_pos c106] at H
       obtain ⟨c106b0,c106b1⟩:=bT c106
       clear c106
       have H':=Zz.k H
       clear H
       have hnb107:=NB280_254.out
       have hnc107:=NB254_280.out
       have hnb108:=NB280_255.out
       have hnc108:=NB255_280.out
       obtain ⟨_,_,_,_,_,_,_,_,_,_,_,_,_,_,_,_,_,_,_,_,_,_⟩:=kc11 BK280
       go_wp2
       go_meet
       case rel => exact ⟨_,(t267),(t268),(t269),(t267),(t268),(0),(t273),(t274),(t277),(t278),(t279),(.slice Ao27 t274.length co27),H',⟨by have:=HK1.out; have:=HK2.out; first | omega | exact Nat.le_refl _⟩,⟨by (with_reducible repeat (first | apply Kd.N_alloc | apply Kd.N_drewN | apply Kd.N_drew)); exact Kd.N_mono (Kd.N_far (p:=⟨gb280,5,none⟩) (Kd.N_far (p:=⟨gb280,4,none⟩) (Kd.N_far (p:=⟨gb280,3,none⟩) (Kd.N_far (p:=⟨gb280,10,none⟩) (Kd.N_far (p:=⟨gb280,9,none⟩) (Kd.N_far (p:=⟨gb280,8,none⟩) (Kd.N_far (p:=⟨gb280,7,none⟩) (Kd.N_far (p:=⟨gb280,6,none⟩) (Kd.N_far (p:=⟨gb280,5,none⟩) (Kd.N_far (p:=⟨gb280,4,none⟩) (Kd.N_far (p:=⟨gb280,3,none⟩) (Kd.N_far (p:=⟨gb280,2,none⟩) (Kd.N_far (p:=⟨gb280,1,none⟩) (Kd.N_far (p:=⟨gb280,0,none⟩) (Kd.N_mono HO_4.out (fun k_ hk => (⟨hk,hk.2⟩ : _ /\ k_ ≠ gb280))) (fun _ hk => hk.2) (.int .i64 t267)) (fun _ hk => hk.2) (.int .i64 t268)) (fun _ hk => hk.2) (.int .i64 t269)) (fun _ hk => hk.2) (.int .i64 t270)) (fun _ hk => hk.2) (.int .i64 t271)) (fun _ hk => hk.2) (.int .i64 t272)) (fun _ hk => hk.2) (.string t273)) (fun _ hk => hk.2) (.slice Ao27 t274.length co27)) (fun _ hk => hk.2) (.int .i64 t277)) (fun _ hk => hk.2) (.int .i64 t278)) (fun _ hk => hk.2) (.int .i64 t279)) (fun _ hk => hk.2) (.int .i64 t267)) (fun _ hk => hk.2) (.int .i64 t268)) (fun _ hk => hk.2) (.int .i64 0)) (fun _ hk => ⟨hk.1.1.2,⟨hk.1.1.1.1,⟨hk.1.1.1.2,hk.1.2⟩⟩⟩)⟩,⟨by (with_reducible repeat (first | apply Kd.R_alloc | apply Kd.R_drewN | apply Kd.R_drew)); exact Kd.R_mono (Kd.R_far (p:=⟨gb280,5,none⟩) (Kd.R_far (p:=⟨gb280,4,none⟩) (Kd.R_far (p:=⟨gb280,3,none⟩) (rf11 (Kd.R_types HO276.out BK280.out (by decide))) (fun _ hk => hk.2) (.int .i64 t267)) (fun _ hk => hk.2) (.int .i64 t268)) (fun _ hk => hk.2) (.int .i64 0)) (fun _ hk => hk.1.2)⟩,⟨kk BK254⟩,⟨kk BK255⟩,⟨bp (bp (bp (bp11 (kk BK280)) 3) 4) 5⟩,⟨bw HB⟩⟩⟩ : Nonempty G_)) :); w4_OpForms.bxo (G:=G_) (inferInstanceAs (Nonempty G_)))
      rw [if_neg c106] at H
      obtain ⟨c106b0,c106b1⟩:=bF c106
      by_cases c110 : x6_2 = 17
      ·show (let G_ : Prop:=_; G_)
       intro G_
       exact (let_tmp i_ : Nonempty G_:=(((⟨by
       subst G_
       rw [if_pos c110] at H
       obtain ⟨c110b0,c110b1⟩:=bT c110
       clear c110
       have H':=Zz.k H
       clear H
       have hnb111:=NB280_254.out
       have hnc111:=NB254_280.out
       have hnb112:=NB280_255.out
       have hnc112:=NB255_280.out
       obtain ⟨_,_,_,_,_,_,_,_,_,_,_,_,_,_,_,_,_,_,_,_,_,_⟩:=kc11 BK280
       go_wp2
       go_meet
       case rel => exact ⟨_,(t267),(t268),(t269),(3),(0),(1),(t273),(t274),(t277),(t278),(t279),(.slice Ao27 t274.length co27),H',⟨by have:=HK1.out; have:=HK2.out; first | omega | exact Nat.le_refl _⟩,⟨by (with_reducible repeat (first | apply Kd.N_alloc | apply Kd.N_drewN | apply Kd.N_drew)); exact Kd.N_mono (Kd.N_far (p:=⟨gb280,5,none⟩) (Kd.N_far (p:=⟨gb280,4,none⟩) (Kd.N_far (p:=⟨gb280,3,none⟩) (Kd.N_far (p:=⟨gb280,10,none⟩) (Kd.N_far (p:=⟨gb280,9,none⟩) (Kd.N_far (p:=⟨gb280,8,none⟩) (Kd.N_far (p:=⟨gb280,7,none⟩) (Kd.N_far (p:=⟨gb280,6,none⟩) (Kd.N_far (p:=⟨gb280,5,none⟩) (Kd.N_far (p:=⟨gb280,4,none⟩) (Kd.N_far (p:=⟨gb280,3,none⟩) (Kd.N_far (p:=⟨gb280,2,none⟩) (Kd.N_far (p:=⟨gb280,1,none⟩) (Kd.N_far (p:=⟨gb280,0,none⟩) (Kd.N_mono HO_4.out (fun k_ hk => (⟨hk,hk.2⟩ : _ /\ k_ ≠ gb280))) (fun _ hk => hk.2) (.int .i64 t267)) (fun _ hk => hk.2) (.int .i64 t268)) (fun _ hk => hk.2) (.int .i64 t269)) (fun _ hk => hk.2) (.int .i64 t270)) (fun _ hk => hk.2) (.int .i64 t271)) (fun _ hk => hk.2) (.int .i64 t272)) (fun _ hk => hk.2) (.string t273)) (fun _ hk => hk.2) (.slice Ao27 t274.length co27)) (fun _ hk => hk.2) (.int .i64 t277)) (fun _ hk => hk.2) (.int .i64 t278)) (fun _ hk => hk.2) (.int .i64 t279)) (fun _ hk => hk.2) (.int .i64 3)) (fun _ hk => hk.2) (.int .i64 0)) (fun _ hk => hk.2) (.int .i64 1)) (fun _ hk => ⟨hk.1.1.2,⟨hk.1.1.1.1,⟨hk.1.1.1.2,hk.1.2⟩⟩⟩)⟩,⟨by (with_reducible repeat (first | apply Kd.R_alloc | apply Kd.R_drewN | apply Kd.R_drew)); exact Kd.R_mono (Kd.R_far (p:=⟨gb280,5,none⟩) (Kd.R_far (p:=⟨gb280,4,none⟩) (Kd.R_far (p:=⟨gb280,3,none⟩) (rf11 (Kd.R_types HO276.out BK280.out (by decide))) (fun _ hk => hk.2) (.int .i64 3)) (fun _ hk => hk.2) (.int .i64 0)) (fun _ hk => hk.2) (.int .i64 1)) (fun _ hk => hk.1.2)⟩,⟨kk BK254⟩,⟨kk BK255⟩,⟨bp (bp (bp (bp11 (kk BK280)) 3) 4) 5⟩,⟨bw HB⟩⟩⟩ : Nonempty G_)) :); w4_OpForms.bxo (G:=G_) (inferInstanceAs (Nonempty G_)))
      rw [if_neg c110] at H
      obtain ⟨c110b0,c110b1⟩:=bF c110
      by_cases c114 : x6_2 = 18
      ·show (let G_ : Prop:=_; G_)
       intro G_
       exact (let_tmp i_ : Nonempty G_:=(((⟨by
       subst G_
       rw [if_pos c114] at H
       obtain ⟨c114b0,c114b1⟩:=bT c114
       clear c114
       have H':=Zz.k H
       clear H
       have hnb115:=NB280_254.out
       have hnc115:=NB254_280.out
       have hnb116:=NB280_255.out
       have hnc116:=NB255_280.out
       obtain ⟨_,_,_,_,_,_,_,_,_,_,_,_,_,_,_,_,_,_,_,_,_,_⟩:=kc11 BK280
       go_wp2
       go_meet
       case rel => exact ⟨_,(t267),(t268),(t269),(t270),(t271),(t272),(t273),(t274),(t267),(t268),(t279),(.slice Ao27 t274.length co27),H',⟨by have:=HK1.out; have:=HK2.out; first | omega | exact Nat.le_refl _⟩,⟨by (with_reducible repeat (first | apply Kd.N_alloc | apply Kd.N_drewN | apply Kd.N_drew)); exact Kd.N_mono (Kd.N_far (p:=⟨gb280,9,none⟩) (Kd.N_far (p:=⟨gb280,8,none⟩) (Kd.N_far (p:=⟨gb280,10,none⟩) (Kd.N_far (p:=⟨gb280,9,none⟩) (Kd.N_far (p:=⟨gb280,8,none⟩) (Kd.N_far (p:=⟨gb280,7,none⟩) (Kd.N_far (p:=⟨gb280,6,none⟩) (Kd.N_far (p:=⟨gb280,5,none⟩) (Kd.N_far (p:=⟨gb280,4,none⟩) (Kd.N_far (p:=⟨gb280,3,none⟩) (Kd.N_far (p:=⟨gb280,2,none⟩) (Kd.N_far (p:=⟨gb280,1,none⟩) (Kd.N_far (p:=⟨gb280,0,none⟩) (Kd.N_mono HO_4.out (fun k_ hk => (⟨hk,hk.2⟩ : _ /\ k_ ≠ gb280))) (fun _ hk => hk.2) (.int .i64 t267)) (fun _ hk => hk.2) (.int .i64 t268)) (fun _ hk => hk.2) (.int .i64 t269)) (fun _ hk => hk.2) (.int .i64 t270)) (fun _ hk => hk.2) (.int .i64 t271)) (fun _ hk => hk.2) (.int .i64 t272)) (fun _ hk => hk.2) (.string t273)) (fun _ hk => hk.2) (.slice Ao27 t274.length co27)) (fun _ hk => hk.2) (.int .i64 t277)) (fun _ hk => hk.2) (.int .i64 t278)) (fun _ hk => hk.2) (.int .i64 t279)) (fun _ hk => hk.2) (.int .i64 t267)) (fun _ hk => hk.2) (.int .i64 t268)) (fun _ hk => ⟨hk.1.1.2,⟨hk.1.1.1.1,⟨hk.1.1.1.2,hk.1.2⟩⟩⟩)⟩,⟨by (with_reducible repeat (first | apply Kd.R_alloc | apply Kd.R_drewN | apply Kd.R_drew)); exact Kd.R_mono (Kd.R_far (p:=⟨gb280,9,none⟩) (Kd.R_far (p:=⟨gb280,8,none⟩) (rf11 (Kd.R_types HO276.out BK280.out (by decide))) (fun _ hk => hk.2) (.int .i64 t267)) (fun _ hk => hk.2) (.int .i64 t268)) (fun _ hk => hk.1.2)⟩,⟨kk BK254⟩,⟨kk BK255⟩,⟨bp (bp (bp11 (kk BK280)) 8) 9⟩,⟨bw HB⟩⟩⟩ : Nonempty G_)) :); w4_OpForms.bxo (G:=G_) (inferInstanceAs (Nonempty G_)))
      rw [if_neg c114] at H
      obtain ⟨c114b0,c114b1⟩:=bF c114
      by_cases c118 : x6_2 = 19
      ·show (let G_ : Prop:=_; G_)
       intro G_
       exact (let_tmp i_ : Nonempty G_:=(((⟨by
       subst G_
       rw [if_pos c118] at H
       obtain ⟨c118b0,c118b1⟩:=bT c118
       clear c118
       have H':=Zz.k H
       clear H
       have hnb119:=NB280_254.out
       have hnc119:=NB254_280.out
       have hnb120:=NB280_255.out
       have hnc120:=NB255_280.out
       obtain ⟨_,_,_,_,_,_,_,_,_,_,_,_,_,_,_,_,_,_,_,_,_,_⟩:=kc11 BK280
       go_wp2
       go_meet
       case rel => exact ⟨_,(t267),(t268),(t269),(t270),(t271),(t272),(t273),(t274),(t277),(t278),((-1)),(.slice Ao27 t274.length co27),H',⟨by have:=HK1.out; have:=HK2.out; first | omega | exact Nat.le_refl _⟩,⟨by (with_reducible repeat (first | apply Kd.N_alloc | apply Kd.N_drewN | apply Kd.N_drew)); exact Kd.N_mono (Kd.N_far (p:=⟨gb280,10,none⟩) (Kd.N_far (p:=⟨gb280,10,none⟩) (Kd.N_far (p:=⟨gb280,9,none⟩) (Kd.N_far (p:=⟨gb280,8,none⟩) (Kd.N_far (p:=⟨gb280,7,none⟩) (Kd.N_far (p:=⟨gb280,6,none⟩) (Kd.N_far (p:=⟨gb280,5,none⟩) (Kd.N_far (p:=⟨gb280,4,none⟩) (Kd.N_far (p:=⟨gb280,3,none⟩) (Kd.N_far (p:=⟨gb280,2,none⟩) (Kd.N_far (p:=⟨gb280,1,none⟩) (Kd.N_far (p:=⟨gb280,0,none⟩) (Kd.N_mono HO_4.out (fun k_ hk => (⟨hk,hk.2⟩ : _ /\ k_ ≠ gb280))) (fun _ hk => hk.2) (.int .i64 t267)) (fun _ hk => hk.2) (.int .i64 t268)) (fun _ hk => hk.2) (.int .i64 t269)) (fun _ hk => hk.2) (.int .i64 t270)) (fun _ hk => hk.2) (.int .i64 t271)) (fun _ hk => hk.2) (.int .i64 t272)) (fun _ hk => hk.2) (.string t273)) (fun _ hk => hk.2) (.slice Ao27 t274.length co27)) (fun _ hk => hk.2) (.int .i64 t277)) (fun _ hk => hk.2) (.int .i64 t278)) (fun _ hk => hk.2) (.int .i64 t279)) (fun _ hk => hk.2) (.int .i64 (-1))) (fun _ hk => ⟨hk.1.1.2,⟨hk.1.1.1.1,⟨hk.1.1.1.2,hk.1.2⟩⟩⟩)⟩,⟨by (with_reducible repeat (first | apply Kd.R_alloc | apply Kd.R_drewN | apply Kd.R_drew)); exact Kd.R_mono (Kd.R_far (p:=⟨gb280,10,none⟩) (rf11 (Kd.R_types HO276.out BK280.out (by decide))) (fun _ hk => hk.2) (.int .i64 (-1))) (fun _ hk => hk.1.2)⟩,⟨kk BK254⟩,⟨kk BK255⟩,⟨bp (bp11 (kk BK280)) 10⟩,⟨bw HB⟩⟩⟩ : Nonempty G_)) :); w4_OpForms.bxo (G:=G_) (inferInstanceAs (Nonempty G_)))
      rw [if_neg c118] at H
      obtain ⟨c118b0,c118b1⟩:=bF c118
      by_cases c122 : x6_2 = 20
      ·show (let G_ : Prop:=_; G_)
       intro G_
       exact (let_tmp i_ : Nonempty G_:=(((⟨by
       subst G_
       rw [if_pos c122] at H
       obtain ⟨c122b0,c122b1⟩:=bT c122
       clear c122
       have H':=Zz.k H
       clear H
       have hnb123:=NB280_254.out
       have hnc123:=NB254_280.out
       have hnb124:=NB280_255.out
       have hnc124:=NB255_280.out
       obtain ⟨_,_,_,_,_,_,_,_,_,_,_,_,_,_,_,_,_,_,_,_,_,_⟩:=kc11 BK280
       go_wp2
       go_meet
       case rel => exact ⟨_,(t267),(t268),(t269),(t270),(t271),(t272),(t273),(t274),(0),(t278),(t279),(.slice Ao27 t274.length co27),H',⟨by have:=HK1.out; have:=HK2.out; first | omega | exact Nat.le_refl _⟩,⟨by (with_reducible repeat (first | apply Kd.N_alloc | apply Kd.N_drewN | apply Kd.N_drew)); exact Kd.N_mono (Kd.N_far (p:=⟨gb280,8,none⟩) (Kd.N_far (p:=⟨gb280,10,none⟩) (Kd.N_far (p:=⟨gb280,9,none⟩) (Kd.N_far (p:=⟨gb280,8,none⟩) (Kd.N_far (p:=⟨gb280,7,none⟩) (Kd.N_far (p:=⟨gb280,6,none⟩) (Kd.N_far (p:=⟨gb280,5,none⟩) (Kd.N_far (p:=⟨gb280,4,none⟩) (Kd.N_far (p:=⟨gb280,3,none⟩) (Kd.N_far (p:=⟨gb280,2,none⟩) (Kd.N_far (p:=⟨gb280,1,none⟩) (Kd.N_far (p:=⟨gb280,0,none⟩) (Kd.N_mono HO_4.out (fun k_ hk => (⟨hk,hk.2⟩ : _ /\ k_ ≠ gb280))) (fun _ hk => hk.2) (.int .i64 t267)) (fun _ hk => hk.2) (.int .i64 t268)) (fun _ hk => hk.2) (.int .i64 t269)) (fun _ hk => hk.2) (.int .i64 t270)) (fun _ hk => hk.2) (.int .i64 t271)) (fun _ hk => hk.2) (.int .i64 t272)) (fun _ hk => hk.2) (.string t273)) (fun _ hk => hk.2) (.slice Ao27 t274.length co27)) (fun _ hk => hk.2) (.int .i64 t277)) (fun _ hk => hk.2) (.int .i64 t278)) (fun _ hk => hk.2) (.int .i64 t279)) (fun _ hk => hk.2) (.int .i64 0)) (fun _ hk => ⟨hk.1.1.2,⟨hk.1.1.1.1,⟨hk.1.1.1.2,hk.1.2⟩⟩⟩)⟩,⟨by (with_reducible repeat (first | apply Kd.R_alloc | apply Kd.R_drewN | apply Kd.R_drew)); exact Kd.R_mono (Kd.R_far (p:=⟨gb280,8,none⟩) (rf11 (Kd.R_types HO276.out BK280.out (by decide))) (fun _ hk => hk.2) (.int .i64 0)) (fun _ hk => hk.1.2)⟩,⟨kk BK254⟩,⟨kk BK255⟩,⟨bp (bp11 (kk BK280)) 8⟩,⟨bw HB⟩⟩⟩ : Nonempty G_)) :); w4_OpForms.bxo (G:=G_) (inferInstanceAs (Nonempty G_)))
      rw [if_neg c122] at H
      obtain ⟨c122b0,c122b1⟩:=bF c122
      by_cases c126 : x6_2 = 21; rotate_left
      ·rw [if_neg c126] at H
       obtain ⟨c126b0,c126b1⟩:=bF c126
       have H':=Zz.k H
       clear H
       go_wp2
       go_meet
       case rel => exact ⟨_,(t267),(t268),(t269),(t270),(t271),(t272),(t273),(t274),(t277),(t278),(t279),(.slice Ao27 t274.length co27),H',⟨by have:=HK1.out; have:=HK2.out; first | omega | exact Nat.le_refl _⟩,⟨by (with_reducible repeat (first | apply Kd.N_alloc | apply Kd.N_drewN | apply Kd.N_drew)); exact Kd.N_mono (Kd.N_far (p:=⟨gb280,10,none⟩) (Kd.N_far (p:=⟨gb280,9,none⟩) (Kd.N_far (p:=⟨gb280,8,none⟩) (Kd.N_far (p:=⟨gb280,7,none⟩) (Kd.N_far (p:=⟨gb280,6,none⟩) (Kd.N_far (p:=⟨gb280,5,none⟩) (Kd.N_far (p:=⟨gb280,4,none⟩) (Kd.N_far (p:=⟨gb280,3,none⟩) (Kd.N_far (p:=⟨gb280,2,none⟩) (Kd.N_far (p:=⟨gb280,1,none⟩) (Kd.N_far (p:=⟨gb280,0,none⟩) (Kd.N_mono HO_4.out (fun k_ hk => (⟨hk,hk.2⟩ : _ /\ k_ ≠ gb280))) (fun _ hk => hk.2) (.int .i64 t267)) (fun _ hk => hk.2) (.int .i64 t268)) (fun _ hk => hk.2) (.int .i64 t269)) (fun _ hk => hk.2) (.int .i64 t270)) (fun _ hk => hk.2) (.int .i64 t271)) (fun _ hk => hk.2) (.int .i64 t272)) (fun _ hk => hk.2) (.string t273)) (fun _ hk => hk.2) (.slice Ao27 t274.length co27)) (fun _ hk => hk.2) (.int .i64 t277)) (fun _ hk => hk.2) (.int .i64 t278)) (fun _ hk => hk.2) (.int .i64 t279)) (fun _ hk => ⟨hk.1.1.2,⟨hk.1.1.1.1,⟨hk.1.1.1.2,hk.1.2⟩⟩⟩)⟩,⟨by (with_reducible repeat (first | apply Kd.R_alloc | apply Kd.R_drewN | apply Kd.R_drew)); exact Kd.R_mono (rf11 (Kd.R_types HO276.out BK280.out (by decide))) (fun _ hk => hk.1.2)⟩,⟨kk BK254⟩,⟨kk BK255⟩,⟨bp11 (kk BK280)⟩,⟨bw HB⟩⟩
      show (let G_ : Prop:=_; G_)
      intro G_
      exact (let_tmp i_ : Nonempty G_:=(((⟨by
      subst G_
      rw [if_pos c126] at H
      obtain ⟨c126b0,c126b1⟩:=bT c126
      clear c126
      have H':=Zz.k H
      clear H
      have hnb127:=NB280_254.out
      have hnc127:=NB254_280.out
      have hnb128:=NB280_255.out
      have hnc128:=NB255_280.out
      obtain ⟨_,_,_,_,_,_,_,_,_,_,_,_,_,_,_,_,_,_,_,_,_,_⟩:=kc11 BK280
      go_wp2
      go_meet
      case rel => exact ⟨_,(t267),(t268),(t269),(t270),(t271),(t272),(t273),(t274),(t277),(268435456),(t279),(.slice Ao27 t274.length co27),H',⟨by have:=HK1.out; have:=HK2.out; first | omega | exact Nat.le_refl _⟩,⟨by (with_reducible repeat (first | apply Kd.N_alloc | apply Kd.N_drewN | apply Kd.N_drew)); exact Kd.N_mono (Kd.N_far (p:=⟨gb280,9,none⟩) (Kd.N_far (p:=⟨gb280,10,none⟩) (Kd.N_far (p:=⟨gb280,9,none⟩) (Kd.N_far (p:=⟨gb280,8,none⟩) (Kd.N_far (p:=⟨gb280,7,none⟩) (Kd.N_far (p:=⟨gb280,6,none⟩) (Kd.N_far (p:=⟨gb280,5,none⟩) (Kd.N_far (p:=⟨gb280,4,none⟩) (Kd.N_far (p:=⟨gb280,3,none⟩) (Kd.N_far (p:=⟨gb280,2,none⟩) (Kd.N_far (p:=⟨gb280,1,none⟩) (Kd.N_far (p:=⟨gb280,0,none⟩) (Kd.N_mono HO_4.out (fun k_ hk => (⟨hk,hk.2⟩ : _ /\ k_ ≠ gb280))) (fun _ hk => hk.2) (.int .i64 t267)) (fun _ hk => hk.2) (.int .i64 t268)) (fun _ hk => hk.2) (.int .i64 t269)) (fun _ hk => hk.2) (.int .i64 t270)) (fun _ hk => hk.2) (.int .i64 t271)) (fun _ hk => hk.2) (.int .i64 t272)) (fun _ hk => hk.2) (.string t273)) (fun _ hk => hk.2) (.slice Ao27 t274.length co27)) (fun _ hk => hk.2) (.int .i64 t277)) (fun _ hk => hk.2) (.int .i64 t278)) (fun _ hk => hk.2) (.int .i64 t279)) (fun _ hk => hk.2) (.int .i64 268435456)) (fun _ hk => ⟨hk.1.1.2,⟨hk.1.1.1.1,⟨hk.1.1.1.2,hk.1.2⟩⟩⟩)⟩,⟨by (with_reducible repeat (first | apply Kd.R_alloc | apply Kd.R_drewN | apply Kd.R_drew)); exact Kd.R_mono (Kd.R_far (p:=⟨gb280,9,none⟩) (rf11 (Kd.R_types HO276.out BK280.out (by decide))) (fun _ hk => hk.2) (.int .i64 268435456)) (fun _ hk => hk.1.2)⟩,⟨kk BK254⟩,⟨kk BK255⟩,⟨bp (bp11 (kk BK280)) 9⟩,⟨bw HB⟩⟩⟩ : Nonempty G_)) :); w4_OpForms.bxo (G:=G_) (inferInstanceAs (Nonempty G_)))
     case rest =>
      show (let G_ : Prop:=_; G_)
      intro G_
      exact (let_tmp i_ : Nonempty G_:=(((⟨by
      subst G_
      clear HC21
      obtain ⟨kq,x281000_20,x281001_20,x281002_20,x281003_20,x281004_20,x281005_20,x281006_20,x281007_20,x281008_20,x281009_20,x281010_20,u281007,HA,HJ20,HO_4,HO_281007,BK254,BK255,BK280,HB⟩:=hcut
      cases kq with
      | zero => exact absurd HA.out (by simp [w4_OpForms.j2])
      | succ kj20 =>
       have H:=HA.out
       clear HA
       simp only [w4_OpForms.j2] at H
       obtain ⟨⟨t293,t296⟩,A130,H⟩:=bE H
       try dsimp only at H
       obtain ⟨t297,A131,H⟩:=bE H
       have HC132:=Zz.k H
       clear H
       have hnb133:=NB280_254.out
       have hnc133:=NB254_280.out
       have hnb134:=NB280_255.out
       have hnc134:=NB255_280.out
       obtain ⟨_,_,_,_,_,_,_,_,_,_,_,_,_,_,_,_,_,_,_,_,_,_⟩:=kc11 BK280
       obtain ⟨Ao136,co136,eo136⟩:=Kd.R_slice HO_281007.out
       subst eo136
       go_upto_region 55 with (first | ((with_reducible refine Qab (f:=40) rfl ?_); refine gl (some 142) Tryd.func40 #[.agg #[.int .i64 x281000_20, .int .i64 x281001_20, .int .i64 x281002_20, .int .i64 x281003_20, .int .i64 x281004_20, .int .i64 x281005_20, .string x281006_20, .slice Ao136 x281007_20.length co136, .int .i64 x281008_20, .int .i64 x281009_20, .int .i64 x281010_20]] (h := ?_); (with_reducible refine (op_Needs.calls x281000_20 x281001_20 x281002_20 x281003_20 x281004_20 x281005_20 x281006_20 _ _ x281007_20 x281008_20 x281009_20 x281010_20 t293 t296 _ ?side1 ?side2 A130.out).mono ?_); (case side1 => exact cr HO_281007); (case side2 => exact (Kd.R_reads' HO_281007.out).2.1); rintro e w137 ⟨v294,rfl,ho0,hb⟩; refine ⟨_,rfl, ?_⟩; have HO295:=Zz.k (Kd.R_lower (Kd.R_newB (Kd.R_new' ho0 (Kd.R_lt (rk HO_281007))) (kk BK255)) (Qao (bw HB))); replace HO_4:=Zz.k (Kd.N_elder' (nk HO_4) (Kd.R_base ho0) hb); replace HO_281007:=Zz.k (Kd.R_elder' (rk HO_281007) (Kd.R_base ho0) hb); replace BK254:=bl BK254 hb; replace BK255:=bl BK255 hb; replace BK280:=bl BK280 hb; replace HB:=bs HB hb; clear hb; clear ho0; obtain ⟨_,_,_,_,_,_,_,_,_,_,_,_,_,_,_,_,_,_,_,_,_,_⟩:=kc11 BK280) | ((with_reducible refine Qab (f:=41) rfl ?_); refine gl (some 146) Tryd.func41 #[.agg #[.int .i64 x281000_20, .int .i64 x281001_20, .int .i64 x281002_20, .int .i64 x281003_20, .int .i64 x281004_20, .int .i64 x281005_20, .string x281006_20, .slice Ao136 x281007_20.length co136, .int .i64 x281008_20, .int .i64 x281009_20, .int .i64 x281010_20]] (h := ?_); (with_reducible refine (r4_Op.calls kj20 x281000_20 x281001_20 x281002_20 x281003_20 x281004_20 x281005_20 x281006_20 _ _ x281007_20 x281008_20 x281009_20 x281010_20 t297 _ ?side1 ?side2 ?side3 A131.out).mono ?_); (case side1 => exact cr HO_281007); (case side2 => exact (Kd.R_reads' HO_281007.out).2.1); (case side3 => exact (hT.below (bw HB))); rintro e w139 ⟨rfl,hb⟩; refine ⟨_,rfl, ?_⟩; replace HO_4:=nb HO_4 hb; replace HO_281007:=rb HO_281007 hb; replace HO295:=rb HO295 hb; replace BK254:=bl BK254 hb; replace BK255:=bl BK255 hb; replace BK280:=bl BK280 hb; replace HB:=bs HB hb; clear hb))
       (try simp only [Act.put,List.setIfInBounds_toArray,List.set_cons_zero,List.set_cons_succ])
       go_cut [169] (fun v169 wc => ∃ (kq : Nat) (x169_131 : Bool),v169 = .bool x169_131 /\ Zz (w4_OpForms.j3 kq y262 x5_1 x6_2 x169_131 l0_0 l0_1 l0_2 2 1 0 = some r) /\ Zz (kq <= kj20) /\ Zz (Kd.N kOp 55 wc w.heap.size (fun k_ => some k_ ≠ ((.slice Ao136 x281007_20.length co136) : Value).ownBlock /\ k_ ≠ gb254 /\ k_ ≠ gb255 /\ k_ ≠ gb280) (.slice (some ad266) y262.length co16) y262) /\ Zz (Kd.R Qam 43 wc w.heap.size (fun k_ => k_ ≠ gb255) (.slice Ao136 x281007_20.length co136) x281007_20) /\ Zz (wc.heap[gb254]? = some (.cells #[(.slice A0_0 l0_0.length c0_0),(.slice A0_1 l0_1.length c0_1),(.slice A0_2 l0_2.length c0_2)] 61 (0,0))) /\ Zz (wc.heap[gb255]? = some (.cells #[.int .i64 2, .int .i64 1, .int .i64 0] 43 (0,0))) /\ Zz (wc.heap[gb280]? = some (.cells #[.int .i64 x281000_20, .int .i64 x281001_20, .int .i64 x281002_20, .int .i64 x281003_20, .int .i64 x281004_20, .int .i64 x281005_20, .string x281006_20,(.slice Ao136 x281007_20.length co136), .int .i64 x281008_20, .int .i64 x281009_20, .int .i64 x281010_20] 55 (0,0))) /\ Zz (Below w.heap.size w wc))
       case first =>
        have H:=HC132.out
        clear HC132
        obtain ⟨t298,A140,H⟩:=bE H
        obtain ⟨t299,A141,H⟩:=bE H
        by_cases c142 : ((t299 == 0) != t297) = true
        ·show (let G_ : Prop:=_; G_)
         intro G_
         exact (let_tmp i_ : Nonempty G_:=(((⟨by
         subst G_
         rw [if_pos c142] at H
         have c142b0 : ((t299 == 0) != t297) = true:=c142
         (try (have c142b1 : decide ((t299 == 0) = t297) = false:=by simpa using c142))
         (try (have c142b2 : ((t299 == 0) == t297) = false:=by simpa using c142))
         (try (have c142b3 : ¬ ((t299 == 0) = t297):=by simpa using c142))
         clear c142
         (first | rw [c142b0] | (simp only [i64_w,i32_w]; rw [c142b0]) | skip)
         have H':=Zz.k H
         clear H
         have hnb143:=NB280_254.out
         have hnc143:=NB254_280.out
         have hnb144:=NB280_255.out
         have hnc144:=NB255_280.out
         obtain ⟨_,_,_,_,_,_,_,_,_,_,_,_,_,_,_,_,_,_,_,_,_,_⟩:=kc11 BK280
         go_wp2_with (first | ((with_reducible refine Qab (f:=43) rfl ?_); refine gl (some 148) Tryd.func43 #[.agg #[.int .i64 x281000_20, .int .i64 x281001_20, .int .i64 x281002_20, .int .i64 x281003_20, .int .i64 x281004_20, .int .i64 x281005_20, .string x281006_20, .slice Ao136 x281007_20.length co136, .int .i64 x281008_20, .int .i64 x281009_20, .int .i64 x281010_20]] (h := ?_); (with_reducible refine (op_Check.calls kj20 x281000_20 x281001_20 x281002_20 x281003_20 x281004_20 x281005_20 x281006_20 _ _ x281007_20 x281008_20 x281009_20 x281010_20 t298 _ ?side1 ?side2 A140.out).mono ?_); (case side1 => exact cr HO_281007); (case side2 => exact (Kd.R_reads' HO_281007.out).2.1); rintro e w146 ⟨rfl,hb⟩; refine ⟨_,rfl, ?_⟩; replace HO_4:=nb HO_4 hb; replace HO_281007:=rb HO_281007 hb; replace HO295:=rb HO295 hb; replace BK254:=bl BK254 hb; replace BK255:=bl BK255 hb; replace BK280:=bl BK280 hb; replace HB:=bs HB hb; clear hb) | ((with_reducible refine Qab (f:=42) rfl ?_); refine gl (some 149) Tryd.func42 #[.int .i64 t298] (h := ?_); (with_reducible refine (w4_num.calls t298 t299 _ A141.out).mono ?_); rintro e w' ⟨rfl,⟨nd,rfl⟩⟩; refine ⟨_,rfl, ?_⟩))
         go_meet
         case rel => exact ⟨_,(true),rf,H',⟨by have:=HK1.out; have:=HK2.out; have:=HJ20.out; first | omega | exact Nat.le_refl _⟩,⟨by (with_reducible repeat (first | apply Kd.N_alloc | apply Kd.N_drewN | apply Kd.N_drew)); exact Kd.N_mono HO_4.out (fun _ hk => ⟨hk.1.1,⟨hk.1.2.1,⟨hk.1.2.2.1,hk.1.2.2.2⟩⟩⟩)⟩,⟨by (with_reducible repeat (first | apply Kd.R_alloc | apply Kd.R_drewN | apply Kd.R_drew)); exact Kd.R_mono HO_281007.out (fun _ hk => hk.1)⟩,⟨kk BK254⟩,⟨kk BK255⟩,⟨kk BK280⟩,⟨bw HB⟩⟩⟩ : Nonempty G_)) :); w4_OpForms.bxo (G:=G_) (inferInstanceAs (Nonempty G_)))
        rw [if_neg c142] at H
        have c142b0 : ((t299 == 0) != t297) = false:=by simpa using c142
        (try (have c142b1 : decide ((t299 == 0) = t297) = true:=by simpa using c142))
        (try (have c142b2 : ((t299 == 0) == t297) = true:=by simpa using c142))
        clear c142
        (first | rw [c142b0] | (simp only [i64_w,i32_w]; rw [c142b0]) | skip)
        obtain ⟨t300,A147,H⟩:=bE H
        by_cases c148 : ((t300 == 0) != t297) = true
        ·show (let G_ : Prop:=_; G_)
         intro G_
         exact (let_tmp i_ : Nonempty G_:=(((⟨by
         subst G_
         rw [if_pos c148] at H
         have c148b0 : ((t300 == 0) != t297) = true:=c148
         (try (have c148b1 : decide ((t300 == 0) = t297) = false:=by simpa using c148))
         (try (have c148b2 : ((t300 == 0) == t297) = false:=by simpa using c148))
         (try (have c148b3 : ¬ ((t300 == 0) = t297):=by simpa using c148))
         clear c148
         have H':=Zz.k H
         clear H
         have hnb149:=NB280_254.out
         have hnc149:=NB254_280.out
         have hnb150:=NB280_255.out
         have hnc150:=NB255_280.out
         obtain ⟨_,_,_,_,_,_,_,_,_,_,_,_,_,_,_,_,_,_,_,_,_,_⟩:=kc11 BK280
         go_wp2_with (first | ((with_reducible refine Qab (f:=43) rfl ?_); refine gl (some 148) Tryd.func43 #[.agg #[.int .i64 x281000_20, .int .i64 x281001_20, .int .i64 x281002_20, .int .i64 x281003_20, .int .i64 x281004_20, .int .i64 x281005_20, .string x281006_20, .slice Ao136 x281007_20.length co136, .int .i64 x281008_20, .int .i64 x281009_20, .int .i64 x281010_20]] (h := ?_); (with_reducible refine (op_Check.calls kj20 x281000_20 x281001_20 x281002_20 x281003_20 x281004_20 x281005_20 x281006_20 _ _ x281007_20 x281008_20 x281009_20 x281010_20 t298 _ ?side1 ?side2 A140.out).mono ?_); (case side1 => exact cr HO_281007); (case side2 => exact (Kd.R_reads' HO_281007.out).2.1); rintro e w152 ⟨rfl,hb⟩; refine ⟨_,rfl, ?_⟩; replace HO_4:=nb HO_4 hb; replace HO_281007:=rb HO_281007 hb; replace HO295:=rb HO295 hb; replace BK254:=bl BK254 hb; replace BK255:=bl BK255 hb; replace BK280:=bl BK280 hb; replace HB:=bs HB hb; clear hb) | ((with_reducible refine Qab (f:=42) rfl ?_); refine gl (some 149) Tryd.func42 #[.int .i64 t298] (h := ?_); (with_reducible refine (w4_num.calls t298 t299 _ A141.out).mono ?_); rintro e w' ⟨rfl,⟨nd,rfl⟩⟩; refine ⟨_,rfl, ?_⟩) | (go_at_call 42; (with_reducible refine (w4_num.calls t296 t300 _ A147.out).mono ?_); rintro e w' ⟨rfl,⟨nd,rfl⟩⟩))
         go_meet
         case rel => exact ⟨_,(true),rf,H',⟨by have:=HK1.out; have:=HK2.out; have:=HJ20.out; first | omega | exact Nat.le_refl _⟩,⟨by (with_reducible repeat (first | apply Kd.N_alloc | apply Kd.N_drewN | apply Kd.N_drew)); exact Kd.N_mono HO_4.out (fun _ hk => ⟨hk.1.1,⟨hk.1.2.1,⟨hk.1.2.2.1,hk.1.2.2.2⟩⟩⟩)⟩,⟨by (with_reducible repeat (first | apply Kd.R_alloc | apply Kd.R_drewN | apply Kd.R_drew)); exact Kd.R_mono HO_281007.out (fun _ hk => hk.1)⟩,⟨kk BK254⟩,⟨kk BK255⟩,⟨kk BK280⟩,⟨bw HB⟩⟩⟩ : Nonempty G_)) :); w4_OpForms.bxo (G:=G_) (inferInstanceAs (Nonempty G_)))
        rw [if_neg c148] at H
        have c148b0 : ((t300 == 0) != t297) = false:=by simpa using c148
        (try (have c148b1 : decide ((t300 == 0) = t297) = true:=by simpa using c148))
        (try (have c148b2 : ((t300 == 0) == t297) = true:=by simpa using c148))
        clear c148
        by_cases c153 : t297 = true; rotate_left
        ·replace c153:=Zf c153
         subst c153
         rw [if_neg nft] at H
         have H':=Zz.k H
         clear H
         have hnb164:=NB280_254.out
         have hnc164:=NB254_280.out
         have hnb165:=NB280_255.out
         have hnc165:=NB255_280.out
         obtain ⟨_,_,_,_,_,_,_,_,_,_,_,_,_,_,_,_,_,_,_,_,_,_⟩:=kc11 BK280
         go_wp2_with (first | ((with_reducible refine Qab (f:=43) rfl ?_); refine gl (some 148) Tryd.func43 #[.agg #[.int .i64 x281000_20, .int .i64 x281001_20, .int .i64 x281002_20, .int .i64 x281003_20, .int .i64 x281004_20, .int .i64 x281005_20, .string x281006_20, .slice Ao136 x281007_20.length co136, .int .i64 x281008_20, .int .i64 x281009_20, .int .i64 x281010_20]] (h := ?_); (with_reducible refine (op_Check.calls kj20 x281000_20 x281001_20 x281002_20 x281003_20 x281004_20 x281005_20 x281006_20 _ _ x281007_20 x281008_20 x281009_20 x281010_20 t298 _ ?side1 ?side2 A140.out).mono ?_); (case side1 => exact cr HO_281007); (case side2 => exact (Kd.R_reads' HO_281007.out).2.1); rintro e w167 ⟨rfl,hb⟩; refine ⟨_,rfl, ?_⟩; replace HO_4:=nb HO_4 hb; replace HO_281007:=rb HO_281007 hb; replace HO295:=rb HO295 hb; replace BK254:=bl BK254 hb; replace BK255:=bl BK255 hb; replace BK280:=bl BK280 hb; replace HB:=bs HB hb; clear hb) | ((with_reducible refine Qab (f:=42) rfl ?_); refine gl (some 149) Tryd.func42 #[.int .i64 t298] (h := ?_); (with_reducible refine (w4_num.calls t298 t299 _ A141.out).mono ?_); rintro e w' ⟨rfl,⟨nd,rfl⟩⟩; refine ⟨_,rfl, ?_⟩) | (go_at_call 42; (with_reducible refine (w4_num.calls t296 t300 _ A147.out).mono ?_); rintro e w' ⟨rfl,⟨nd,rfl⟩⟩))
         go_meet
         case rel => exact ⟨_,(false),rf,H',⟨by have:=HK1.out; have:=HK2.out; have:=HJ20.out; first | omega | exact Nat.le_refl _⟩,⟨by (with_reducible repeat (first | apply Kd.N_alloc | apply Kd.N_drewN | apply Kd.N_drew)); exact Kd.N_mono HO_4.out (fun _ hk => ⟨hk.1.1,⟨hk.1.2.1,⟨hk.1.2.2.1,hk.1.2.2.2⟩⟩⟩)⟩,⟨by (with_reducible repeat (first | apply Kd.R_alloc | apply Kd.R_drewN | apply Kd.R_drew)); exact Kd.R_mono HO_281007.out (fun _ hk => hk.1)⟩,⟨kk BK254⟩,⟨kk BK255⟩,⟨kk BK280⟩,⟨bw HB⟩⟩
        show (let G_ : Prop:=_; G_)
        intro G_
        exact (let_tmp i_ : Nonempty G_:=(((⟨by
        subst G_
        subst c153
        rw [if_pos rfl] at H
        obtain ⟨t301,A154,H⟩:=bE H
        obtain ⟨t304,A155,H⟩:=bE H
        have H':=Zz.k H
        clear H
        have hnb156:=NB280_254.out
        have hnc156:=NB254_280.out
        have hnb157:=NB280_255.out
        have hnc157:=NB255_280.out
        obtain ⟨_,_,_,_,_,_,_,_,_,_,_,_,_,_,_,_,_,_,_,_,_,_⟩:=kc11 BK280
        go_wp2_with (first | ((with_reducible refine Qab (f:=43) rfl ?_); refine gl (some 148) Tryd.func43 #[.agg #[.int .i64 x281000_20, .int .i64 x281001_20, .int .i64 x281002_20, .int .i64 x281003_20, .int .i64 x281004_20, .int .i64 x281005_20, .string x281006_20, .slice Ao136 x281007_20.length co136, .int .i64 x281008_20, .int .i64 x281009_20, .int .i64 x281010_20]] (h := ?_); (with_reducible refine (op_Check.calls kj20 x281000_20 x281001_20 x281002_20 x281003_20 x281004_20 x281005_20 x281006_20 _ _ x281007_20 x281008_20 x281009_20 x281010_20 t298 _ ?side1 ?side2 A140.out).mono ?_); (case side1 => exact cr HO_281007); (case side2 => exact (Kd.R_reads' HO_281007.out).2.1); rintro e w159 ⟨rfl,hb⟩; refine ⟨_,rfl, ?_⟩; replace HO_4:=nb HO_4 hb; replace HO_281007:=rb HO_281007 hb; replace HO295:=rb HO295 hb; replace BK254:=bl BK254 hb; replace BK255:=bl BK255 hb; replace BK280:=bl BK280 hb; replace HB:=bs HB hb; clear hb) | ((with_reducible refine Qab (f:=42) rfl ?_); refine gl (some 149) Tryd.func42 #[.int .i64 t298] (h := ?_); (with_reducible refine (w4_num.calls t298 t299 _ A141.out).mono ?_); rintro e w' ⟨rfl,⟨nd,rfl⟩⟩; refine ⟨_,rfl, ?_⟩) | (go_at_call 42; (with_reducible refine (w4_num.calls t296 t300 _ A147.out).mono ?_); rintro e w' ⟨rfl,⟨nd,rfl⟩⟩; obtain ⟨_,_,_,_,_,_,_,_,_,_,_,_,_,_,_,_,_,_,_,_,_,_⟩:=kc11 BK280) | (go_at_call 44; (with_reducible refine (r4_Needs.calls x281000_20 x281001_20 x281002_20 x281003_20 x281004_20 x281005_20 x281006_20 _ _ x281007_20 x281008_20 x281009_20 x281010_20 t301 _ ?side1 ?side2 A154.out).mono ?_); (case side1 => exact cr HO_281007); (case side2 => exact (Kd.R_reads' HO_281007.out).2.1); rintro e w161 ⟨v302,rfl,ho0,hb⟩; have HO303:=Zz.k (Kd.R_lower (Kd.R_newB (Kd.R_new' (Kd.R_new' ho0 (Kd.R_lt (rk HO_281007))) (Kd.R_lt (rk HO295))) (kk BK255)) (Qao (bw HB))); replace HO_4:=Zz.k (Kd.N_elder' (nk HO_4) (Kd.R_base ho0) hb); replace HO_281007:=Zz.k (Kd.R_elder' (rk HO_281007) (Kd.R_base ho0) hb); replace HO295:=Zz.k (Kd.R_elder' (rk HO295) (Kd.R_base ho0) hb); replace BK254:=bl BK254 hb; replace BK255:=bl BK255 hb; replace BK280:=bl BK280 hb; replace HB:=bs HB hb; clear hb; clear ho0; obtain ⟨Ao162,co162,eo162⟩:=Kd.R_slice HO295.out; subst eo162; obtain ⟨Ao163,co163,eo163⟩:=Kd.R_slice HO303.out; subst eo163) | (go_at_call 20; (with_reducible refine (r0_EqElems.calls kj20 _ _ t293 _ _ t301 t304 _ ?side1 ?side2 ?side3 ?side4 A155.out).mono ?_); (case side1 => exact cr HO295); (case side2 => exact (Kd.R_reads' HO295.out).2.1); (case side3 => exact cr HO303); (case side4 => exact (Kd.R_reads' HO303.out).2.1); rintro e w' ⟨rfl,⟨nd,rfl⟩⟩))
        go_meet
        case rel => exact ⟨_,(!t304),rf,H',⟨by have:=HK1.out; have:=HK2.out; have:=HJ20.out; first | omega | exact Nat.le_refl _⟩,⟨by (with_reducible repeat (first | apply Kd.N_alloc | apply Kd.N_drewN | apply Kd.N_drew)); exact Kd.N_mono HO_4.out (fun _ hk => ⟨hk.1.1.1,⟨hk.1.1.2.1,⟨hk.1.1.2.2.1,hk.1.1.2.2.2⟩⟩⟩)⟩,⟨by (with_reducible repeat (first | apply Kd.R_alloc | apply Kd.R_drewN | apply Kd.R_drew)); exact Kd.R_mono HO_281007.out (fun _ hk => hk.1.1)⟩,⟨kk BK254⟩,⟨kk BK255⟩,⟨kk BK280⟩,⟨bw HB⟩⟩⟩ : Nonempty G_)) :); w4_OpForms.bxo (G:=G_) (inferInstanceAs (Nonempty G_)))
       case rest =>
        show (let G_ : Prop:=_; G_)
        intro G_
        exact (let_tmp i_ : Nonempty G_:=(((⟨by
        subst G_
        clear HC132
        obtain ⟨kq,x169_131,rfl,HA,HJ131,HO_4,HO_281007,BK254,BK255,BK280,HB⟩:=hcut
        cases kq with
        | zero => exact absurd HA.out (by simp [w4_OpForms.j3])
        | succ kj131 =>
         have H:=HA.out
         clear HA
         simp only [w4_OpForms.j3] at H
         by_cases c168 : x169_131 = true
         ·show (let G_ : Prop:=_; G_)
          intro G_
          exact (let_tmp i_ : Nonempty G_:=(((⟨by
          subst G_
          subst c168
          rw [if_pos rfl] at H
          obtain rfl:=Zo H
          go_wp2
          go_ret
          exact ⟨re,bw HB⟩⟩ : Nonempty G_)) :); w4_OpForms.bxo (G:=G_) (inferInstanceAs (Nonempty G_)))
         replace c168:=Zf c168
         subst c168
         rw [if_neg nft] at H
         have H':=Zz.k H
         clear H
         go_wp2
         go_roundg kj131
         case measure => have:=HK1.out; have:=HK2.out; have:=HJ20.out; have:=HJ131.out; omega
         case rel => exact ⟨(wrap64 (x6_2 + 1)),rf,H',⟨by have:=HK1.out; have:=HK2.out; have:=HJ20.out; have:=HJ131.out; omega⟩,⟨by (with_reducible repeat (first | apply Kd.N_alloc | apply Kd.N_drewN | apply Kd.N_drew)); exact Kd.N_mono HO_4.out (fun _ hk => ⟨hk.2.1,hk.2.2.1⟩)⟩,⟨kk BK254⟩,⟨kk BK255⟩,⟨bw HB⟩⟩⟩ : Nonempty G_)) :); w4_OpForms.bxo (G:=G_) (inferInstanceAs (Nonempty G_)))⟩ : Nonempty G_)) :); w4_OpForms.bxo (G:=G_) (inferInstanceAs (Nonempty G_)))⟩ : Nonempty G_)) :); w4_OpForms.bxo (G:=G_) (inferInstanceAs (Nonempty G_)))⟩ : Nonempty G_)) :); w4_OpForms.bxo (G:=G_) (inferInstanceAs (Nonempty G_)))⟩ : Nonempty G_)) :); w4_OpForms.bxo (G:=G_) (inferInstanceAs (Nonempty G_)))⟩ : Nonempty G_)) :); w4_OpForms.bxo (G:=G_) (inferInstanceAs (Nonempty G_)))⟩ : Nonempty G_)) :); w4_OpForms.bxo (G:=G_) (inferInstanceAs (Nonempty G_)))⟩ : Nonempty G_)) :); w4_OpForms.bxo (G:=G_) (inferInstanceAs (Nonempty G_)))
end
section
theorem putL_mem (e : SElem) : ∀ (l : List SElem) (y : SElem),y ∈ putL l e ↔ y ∈ l \/ y = e
 | [],y => by unfold putL; simp
 | x :: r,y => by
  unfold putL
  split
  ·rw [List.mem_cons,putL_mem e r,List.mem_cons,or_assoc]
  ·split
   ·rename_i h
    subst h
    constructor
    ·exact .inl
    ·rintro (h | rfl)
     ·exact h
     ·exact List.mem_cons_self
   ·rw [List.mem_cons,or_comm]
theorem putL_asc (e : SElem) : ∀ (l : List SElem),Asc l -> Asc (putL l e)
 | [],_ => by unfold putL; exact List.pairwise_singleton _ _
 | x :: r,h => by
  obtain ⟨h1,h2⟩:=List.pairwise_cons.1 h
  unfold putL
  split
  ·rename_i hx
   refine List.pairwise_cons.2 ⟨fun y hy => ?_,putL_asc e r h2⟩
   rcases (putL_mem e r y).1 hy with hy | rfl
   ·exact h1 y hy
   ·exact hx
  ·rename_i hx
   split
   ·exact h
   ·rename_i hne
    have hex : Qaq e x = true:=by
     cases hc : Qaq e x
     ·exact absurd (el_eq (by simpa using hx) hc) hne
     ·rfl
    refine List.pairwise_cons.2 ⟨fun y hy => ?_,h⟩
    rcases List.mem_cons.1 hy with rfl | hy
    ·exact hex
    ·exact el_trans hex (h1 y hy)
theorem refPuts_asc : ∀ (g l : List SElem),Asc l -> Asc (Qca l g)
 | [],l,h => h
 | e :: r,l,h => refPuts_asc r (putL l (z0 e)) (putL_asc _ _ h)
theorem refPuts_mem : ∀ (g l : List SElem) (y : SElem),y ∈ Qca l g ↔ y ∈ l \/ ∃ x ∈ g,y = z0 x
 | [],l,y => by
  constructor
  ·exact .inl
  ·rintro (h | ⟨x,hx,_⟩)
   ·exact h
   ·cases hx
 | e :: r,l,y => by
  show y ∈ Qca (putL l (z0 e)) r ↔ _
  rw [refPuts_mem r,putL_mem]
  constructor
  ·rintro ((h | rfl) | ⟨x,hx,rfl⟩)
   ·exact .inl h
   ·exact .inr ⟨e,List.mem_cons_self,rfl⟩
   ·exact .inr ⟨x,List.mem_cons_of_mem _ hx,rfl⟩
  ·rintro (h | ⟨x,hx,rfl⟩)
   ·exact .inl (.inl h)
   ·rcases List.mem_cons.1 hx with rfl | hx
    ·exact .inl (.inr rfl)
    ·exact .inr ⟨x,hx,rfl⟩
theorem opOk_kind {o : SOp} (h : opOk o = true) : (o.f2 = 1) \/ (o.f2 = 2):=by
 unfold opOk at h
 simp only [Bool.and_eq_true] at h
 by_cases h1 : o.f2 = 1
 ·exact .inl h1
 ·rw [if_neg h1] at h
  simp only [Bool.and_eq_true,beq_iff_eq] at h
  exact .inr h.2.1
theorem refNeeds_eq {o : SOp} (h : opOk o = true) : Qcb o = needsL o:=by
 refine asc_ext ?_ (needs_asc o) (fun e => ?_)
 ·unfold Qcb
  split
  ·exact List.pairwise_singleton _ _
  ·refine refPuts_asc _ _ ?_
   unfold Qbl
   split
   ·exact List.Pairwise.nil
   ·exact List.pairwise_singleton _ _
 ·rw [needs_iff h]
  unfold Qcb
  rcases opOk_kind h with h1 | h1
  ·rw [if_neg (by omega),if_pos h1,refPuts_mem]
   constructor
   ·rintro (h2 | ⟨x,hx,rfl⟩)
    ·unfold Qbl at h2
     cases hb : Qak o.f3
     ·rw [hb,if_neg (by decide),List.mem_singleton] at h2
      exact ⟨o.f3, .inr ⟨rfl,rfl⟩,h2⟩
     ·rw [hb,if_pos rfl] at h2; cases h2
    ·exact ⟨x, .inl hx,rfl⟩
   ·rintro ⟨x,hx | ⟨rfl,hb⟩,rfl⟩
    ·exact .inr ⟨x,hx,rfl⟩
    ·refine .inl ?_
     unfold Qbl
     rw [hb,if_neg (by decide)]
     exact List.mem_singleton.2 rfl
  ·rw [if_pos h1,if_neg (by omega),List.mem_singleton]
theorem refNeeds4 (o : SOp) (hl : o.f5.length <= 900000) : r4_Needs.f o.f0 o.f1 o.f2 o.f3.f0 o.f3.f1 o.f3.f2 o.f4 o.f5 o.f6 o.f7 o.f8 = some (Qcb o):=by
 show refNeedsF o = _
 unfold refNeedsF
 rw [if_pos hl]
end
end Go.Proofs.YtonoaflfobajcaaDoor.L
end
