/- Part 11 of the proof that for every argument the law CaretTells answers true: which element stands ahead of any place of any row, any element's place, and what is near it, are the page's, or the error is. -/
import Derived.Test.YtonoaflfobajcaaGreatDoorZCT10
section
namespace Go.Proofs.YtonoaflfobajcaaGreatDoor.L
open Go.RowKit Go.Proofs.YtonoaflfobajcaaGreatDoorW.PrintWords Go.Proofs.YtonoaflfobajcaaGreatDoorW.PrintLast Go.Proofs.YtonoaflfobajcaaGreatDoorW.PrintMore
set_option linter.unusedVariables false
set_option linter.unusedSimpArgs false
set_option maxHeartbeats 40000000
set_option maxRecDepth 1000000
section
def tiny (o : SOp) : Prop:=o.f4.size ≤ 4000 ∧ o.f5.length ≤ 1000
def Tiny (l : List SOp) : Prop:=∀ o ∈ l,tiny o
theorem OpsWeight_small (l : List SOp) (hl : l.length ≤ 140737488351232) (hs : ∀ o ∈ l,o.f4.size ≤ 140737488351232 ∧ o.f5.length ≤ 140737488351232) : ∀ d i (t : Int),i + d = l.length → 0 ≤ t → t ≤ 200000000000000 →
  ∃ r,Ev (fun k => w0_OpsWeight.l0 k l t (i : Int)) r ∧ t ≤ r ∧ r ≤ 400000000000000 ∧ (r ≤ 900 → ∀ j (hj : j < l.length),i ≤ j → tiny l[j])
 | 0,i,t,h,h0,h1 => ⟨t,Ev.step (f:=fun _ => some t) (fun k => by simp only [w0_OpsWeight.l0]; rw [if_neg (by omega)]) (Ev.now _),Int.le_refl _,by omega,fun _ j hj hij => by omega⟩
 | d + 1,i,t,h,h0,h1 => by
  by_cases ht : t < 1048576
  ·have hlt : i < l.length:=by omega
   have hb:=hs _ (List.getElem_mem hlt)
   have hw : wrap64 (t + (wrap64 ((wrap64 (2 + (wrap64 ((l[i].f4.size : Int) / 4)))) + (l[i].f5.length : Int)))) = t + (2 + (l[i].f4.size : Int) / 4 + (l[i].f5.length : Int)):=by
    rw [Qai (i:=(l[i].f4.size : Int) / 4) (by omega) (by omega),Qai (i:=2 + (l[i].f4.size : Int) / 4) (by omega) (by omega),Qai (i:=2 + (l[i].f4.size : Int) / 4 + (l[i].f5.length : Int)) (by omega) (by omega),Qai (by omega) (by omega)]
   obtain ⟨r,hr,r1,r2,r3⟩:=OpsWeight_small l hl hs d (i + 1) (t + (2 + (l[i].f4.size : Int) / 4 + (l[i].f5.length : Int))) (by omega) (by omega) (by omega)
   rw [← hw] at hr
   refine ⟨r,Ev.step (fun k => ?_) hr,by omega,r2,fun h9 j hj hij => ?_⟩
   ·simp only [w0_OpsWeight.l0]
    rw [if_pos (by omega),if_pos ht,if_pos (by omega),Qdf hlt (by omega),Qao _ _ hlt]
    rfl
   ·rcases Nat.lt_or_ge i j with hj2 | hj2
    ·exact r3 h9 j hj hj2
    ·obtain rfl : j = i:=by omega
     exact ⟨by omega,by omega⟩
  ·exact ⟨t,Ev.step (f:=fun _ => some t) (fun k => by simp only [w0_OpsWeight.l0]; rw [if_pos (by omega),if_neg ht]) (Ev.now _),Int.le_refl _,by omega,fun h9 => by omega⟩
theorem rd_LOp_nat (l : List (List SOp)) (i : Nat) (h : i < l.length) : Qdc l (i : Int) = l[i]:=by unfold Qdc; simp [h]
theorem Heavy_lp {l0 : List (List SOp)} {l1 : List SElem} {l2 : List SOp} {l3 : List Int} (hg : GoodAsk l0 l1 l2 l3) : ∀ d i (t : Int),i + d = l0.length → 0 ≤ t → t ≤ 900000000000000 →
  ∃ b,Ev (fun k => w5_Heavy.l0 k t (i : Int) l0 l1 l2 l3) b ∧ (b = false → t ≤ 900 ∧ ∀ j (hj : j < l0.length),i ≤ j → l0[j].length ≤ 900 ∧ Tiny l0[j])
 | 0,i,t,h,h0,h1 => ⟨_,Ev.step (f:=fun _ => some (decide (t > 900))) (fun k => by simp only [w5_Heavy.l0]; rw [if_neg (by omega)]) (Ev.now _),fun hb => ⟨by have:=of_decide_eq_false hb; omega,fun j hj hij => by omega⟩⟩
 | d + 1,i,t,h,h0,h1 => by
  by_cases ht : t < 1048576
  ·have hlt : i < l0.length:=by omega
   have hn:=hg.n0
   have hm:=hg.r0 _ (List.getElem_mem hlt)
   obtain ⟨q,hq,q1,q2,q3⟩:=OpsWeight_small l0[i] hm.1 hm.2 _ 0 (l0[i].length : Int) (Nat.zero_add _) (by omega) (by omega)
   obtain ⟨b,hr,r1⟩:=Heavy_lp hg d (i + 1) (t + q) (by omega) (by omega) (by omega)
   have hw : wrap64 (t + q) = t + q:=Qai (by omega) (by omega)
   refine ⟨b,Ev.step (fun k => ?_) (Ev.bind (f:=fun k q => w5_Heavy.l0 k (wrap64 (t + q)) ((i + 1 : Nat) : Int) l0 l1 l2 l3) hq (by rw [hw]; exact hr)),fun hb => ?_⟩
   ·simp only [w5_Heavy.l0]
    rw [if_pos (by omega),if_pos ht,if_pos (by omega),Qdf hlt (by omega),rd_LOp_nat _ _ hlt]
    rfl
   ·obtain ⟨k1,k2⟩:=r1 hb
    refine ⟨by omega,fun j hj hij => ?_⟩
    rcases Nat.lt_or_ge i j with hj2 | hj2
    ·exact k2 j hj hj2
    ·obtain rfl : j = i:=by omega
     refine ⟨by omega,fun o ho => ?_⟩
     obtain ⟨z,hz,rfl⟩:=List.getElem_of_mem ho
     exact q3 (by omega) z hz (Nat.zero_le _)
  ·exact ⟨_,Ev.step (f:=fun _ => some (decide (t > 900))) (fun k => by simp only [w5_Heavy.l0]; rw [if_pos (by omega),if_neg ht]) (Ev.now _),fun hb => by have:=of_decide_eq_false hb; omega⟩
theorem Heavy_small2 {l0 : List (List SOp)} {l1 : List SElem} {l2 : List SOp} {l3 : List Int} (hg : GoodAsk l0 l1 l2 l3) : ∃ b,Ev (fun k => w5_Heavy.f k l0 l1 l2 l3) b ∧ (b = false → (∀ x ∈ l0,x.length ≤ 900 ∧ Tiny x) ∧ l1.length ≤ 900 ∧ l3.length ≤ 900 ∧ Tiny l2):=by
 have n1:=hg.n1
 have n2:=hg.n2
 have n3:=hg.n3
 obtain ⟨q,hq,q1,q2,q3⟩:=OpsWeight_small l2 hg.n2 hg.r2 _ 0 (l2.length : Int) (Nat.zero_add _) (by omega) (by omega)
 have hw : wrap64 ((wrap64 ((l1.length : Int) + (l3.length : Int))) + q) = (l1.length : Int) + (l3.length : Int) + q:=by
  rw [Qai (i:=(l1.length : Int) + (l3.length : Int)) (by omega) (by omega),Qai (by omega) (by omega)]
 obtain ⟨b,hb,hr⟩:=Heavy_lp hg _ 0 ((l1.length : Int) + (l3.length : Int) + q) (Nat.zero_add _) (by omega) (by omega)
 refine ⟨b,Ev.bind (f:=fun k q => w5_Heavy.l0 k (wrap64 ((wrap64 ((l1.length : Int) + (l3.length : Int))) + q)) 0 l0 l1 l2 l3) hq (by rw [hw]; exact hb),fun h => ?_⟩
 obtain ⟨h1,h2⟩:=hr h
 refine ⟨fun x hx => ?_,by omega,by omega,fun o ho => by obtain ⟨z,hz,rfl⟩:=List.getElem_of_mem ho; exact q3 (by omega) z hz (Nat.zero_le _)⟩
 obtain ⟨j,hj,rfl⟩:=List.getElem_of_mem hx
 exact h2 j hj (Nat.zero_le _)
end
section
theorem Tiny.smL {l : List SOp} (h : Tiny l) (hn : l.length ≤ 1000) : SmL l:=⟨by omega,fun o ho => by have:=h o ho; unfold tiny at this; unfold Sm2; exact ⟨by omega,by omega⟩⟩
theorem Tiny.smalls {l : List SOp} (h : Tiny l) (hn : l.length ≤ 1000) : smalls l = true:=good_smalls ⟨by omega,fun o ho => by have:=h o ho; unfold tiny at this; exact ⟨by omega,by omega⟩⟩
end
section
theorem tree_Written_f {l : List SOp} (hs : smalls l = true) (a b c : Int) : tree_Written.f l a b c = some (Qbm l ⟨a,b,c⟩):=by
 have hlen : l.length ≤ 9223372036854775807:=by
  unfold smalls at hs; simp only [Bool.and_eq_true,decide_eq_true_eq] at hs; exact hs.1
 unfold tree_Written.f tree_Find.f Qbm
 rw [if_pos hlen,Option.bind_some]
 simp only
 rcases Qay l a b with ⟨i,hi,_,_,_,e⟩ | ⟨_,e⟩
 ·rw [e,if_pos (by omega)]
  by_cases hc : c ≥ 0
  ·rw [if_pos hc,if_pos (by omega),if_pos (by omega),op_Size_f _ (smalls_at hs hi),Option.bind_some]
   have h1 : decide ((0 : Int) ≤ (i : Int)) = true:=decide_eq_true (by omega)
   have h2 : decide ((0 : Int) ≤ c) = true:=decide_eq_true hc
   rw [h1,h2]; simp
  ·rw [if_neg hc]
   have h2 : decide ((0 : Int) ≤ c) = false:=decide_eq_false (by omega)
   rw [h2]; simp
 ·rw [e,if_neg (by omega)]; simp
end
section
theorem Upto_ok {L : List SOp} (hs : smalls L = true) (h : RowOk L) (e : SElem) : caret_Upto.f L e.f0 e.f1 e.f2 = some (Qcn L e):=by
 unfold caret_Upto.f; exact if_pos ⟨hs,(mayB_iff L).2 h⟩
theorem asked_ok {L : List SOp} (hs : smalls L = true) (h : RowOk L) (e : SElem) : caret_asked.f L e.f0 e.f1 e.f2 = some (if (Qaj e || Qbm L e) = true then 0 else 3):=by
 unfold caret_asked.f
 rw [tree_May_f hs,(mayB_iff L).2 h,Option.bind_some,if_pos rfl,not_begin]
 cases hb : Qaj e
 ·rw [if_pos (by decide),tree_Written_f hs,Option.bind_some,Bool.false_or]
  cases Qbm L e <;> rfl
 ·rw [if_neg (by decide),Bool.true_or]; rfl
theorem Place_ok {L : List SOp} (hs : smalls L = true) (h : RowOk L) (e : SElem) : caret_Place.f L e.f0 e.f1 e.f2 = some (if (Qaj e || Qbm L e) = true then (((Qcn L e).length : Int),0) else (0,3)):=by
 unfold caret_Place.f
 rw [asked_ok hs h,Option.bind_some]
 cases Qaj e || Qbm L e
 ·rfl
 ·simp only [if_true]
  rw [Upto_ok hs h]; rfl
def aheadR (L : List SOp) (n : Nat) : SElem:=if n = 0 then ⟨0,0,0⟩ else Qaa (Qce L) ((n - 1 : Nat) : Int)
theorem Set_ok {L : List SOp} (hs : smalls L = true) (h : RowOk L) {n : Nat} (hn : n ≤ (Qce L).length) : Ev (fun k => caret_Set.f k L (n : Int)) ((aheadR L n).f0,(aheadR L n).f1,(aheadR L n).f2,0):=by
 have h200:=seen_len h
 refine Ev.congr (f:=fun k => caret_Set.j0 k (n : Int) (Qce L) false) (fun k => ?_) (Ev.step (f:=fun _ => some ((aheadR L n).f0,(aheadR L n).f1,(aheadR L n).f2,0)) (fun k => ?_) (Ev.now _))
 ·unfold caret_Set.f
  rw [tree_May_f hs,(mayB_iff L).2 h,Option.bind_some,if_pos rfl,doc_Seen_f hs h,Option.bind_some,if_neg (by omega),decide_eq_false (by omega)]
 ·simp only [caret_Set.j0]
  rw [if_neg (by decide)]
  unfold aheadR
  by_cases h0 : n = 0
  ·subst h0; rfl
  ·have w1 : wrap64 ((n : Int) - 1) = ((n - 1 : Nat) : Int):=by rw [Qai (by omega) (by omega)]; omega
   rw [if_neg (by omega),if_neg h0,w1,if_pos (by omega),if_pos (by omega)]
end
section
theorem EqElems_loop (a b : List SElem) (hab : a.length = b.length) (hl : a.length ≤ 1000000000) : ∀ d i,i + d = a.length → Ev (fun k => r0_EqElems.l0 k a b (i : Int)) (decide (a.drop i = b.drop i))
 | 0,i,h => by
  rw [List.drop_eq_nil_of_le (by omega),List.drop_eq_nil_of_le (by omega)]
  exact Ev.step (f:=fun _ => some true) (fun k => by simp only [r0_EqElems.l0]; rw [if_neg (by omega)]) (Ev.now _)
 | d + 1,i,h => by
  have ih:=EqElems_loop a b hab hl d (i + 1) (by omega)
  have ha : i < a.length:=by omega
  have hb : i < b.length:=by omega
  rw [List.drop_eq_getElem_cons ha,List.drop_eq_getElem_cons hb]
  have hc : (!(((Qaa a (i : Int)).f0) == ((Qaa b (i : Int)).f0)) || (!(((Qaa a (i : Int)).f1) == ((Qaa b (i : Int)).f1)) || (!(((Qaa a (i : Int)).f2) == ((Qaa b (i : Int)).f2))))) = !decide (a[i] = b[i]):=by
   rw [Qan _ _ ha,Qan _ _ hb]
   have:=eqE_iff a[i] b[i].f0 b[i].f1 b[i].f2
   rw [← this]
   cases a[i].f0 == b[i].f0 <;> cases a[i].f1 == b[i].f1 <;> cases a[i].f2 == b[i].f2 <;> rfl
  by_cases he : a[i] = b[i]
  ·have : decide (a[i] :: a.drop (i + 1) = b[i] :: b.drop (i + 1)) = decide (a.drop (i + 1) = b.drop (i + 1)):=decide_eq_decide.2 (by rw [List.cons.injEq]; exact ⟨fun h => h.2,fun h => ⟨he,h⟩⟩)
   rw [this]
   refine Ev.step (fun k => ?_) ih
   simp only [r0_EqElems.l0,hc]
   rw [if_pos (by omega),if_pos (by omega),if_pos (by omega),if_neg (by simp [he]),Qdf ha (by omega)]
  ·have : decide (a[i] :: a.drop (i + 1) = b[i] :: b.drop (i + 1)) = false:=decide_eq_false (by rw [List.cons.injEq]; exact fun h => he h.1)
   rw [this]
   refine Ev.step (f:=fun _ => some false) (fun k => ?_) (Ev.now _)
   simp only [r0_EqElems.l0,hc]
   rw [if_pos (by omega),if_pos (by omega),if_pos (by omega),if_pos (by simp [he])]
theorem EqElems_ev (a b : List SElem) (hl : a.length ≤ 1000000000) : Ev (fun k => r0_EqElems.f k a b) (decide (a = b)):=by
 by_cases hab : a.length = b.length
 ·have:=EqElems_loop a b hab hl a.length 0 (Nat.zero_add _)
  simp only [List.drop_zero] at this
  refine Ev.congr (fun k => ?_) this
  unfold r0_EqElems.f
  rw [if_pos (by omega)]
  rfl
 ·have : decide (a = b) = false:=by simp; rintro rfl; exact hab rfl
  rw [this]
  refine Ev.congr (fun k => ?_) (Ev.now false)
  unfold r0_EqElems.f
  rw [if_neg (by omega)]
end
section
theorem writtenN_eq {l : List SOp} (h : RowOk l) (e : SElem) : Qby l e = (Qaj e || Qbm l e):=by
 unfold Qby Qbm
 rcases Qay l e.f0 e.f1 with ⟨i,hi,_,_,_,ef⟩ | ⟨_,ef⟩
 ·rw [ef,Qao _ _ hi,opOk_text (h.oks _ (List.getElem_mem hi))]
 ·rw [ef,decide_eq_false (by decide)]; rfl
theorem begin_unwritten {l : List SOp} (h : RowOk l) {e : SElem} (he : Qaj e = true) : Qbm l e = false:=by
 cases hw : Qbm l e
 ·rfl
 ·obtain ⟨p,hp,e0,_,_,_⟩:=(mem_ordL h e).1 ((mem_written h e).1 hw)
  have:=(opOk_pos (h.oks p hp)).1
  unfold Qaj at he
  simp only [Bool.and_eq_true,beq_iff_eq] at he
  omega
theorem Written_ev {l : List SOp} (hl : SmL l) (h : RowOk l) (e : SElem) : Ev (fun k => r4_Written.f k l e.f0 e.f1 e.f2) (Qbm l e):=by
 have hw:=written_ev l hl.len (fun o ho => (hl.ops o ho).1) e
 rw [writtenN_eq h] at hw
 cases hb : Qaj e
 ·rw [hb,Bool.false_or] at hw
  refine Ev.congr (f:=fun k => (r4_written.f k l e.f0 e.f1 e.f2).bind fun t => some t) (fun k => ?_) (Ev.bind (f:=fun _ t => some t) hw (Ev.now _))
  unfold r4_Written.f
  rw [Qbq,hb,Option.bind_some,if_neg (by decide)]
 ·refine Ev.congr (f:=fun _ => some false) (fun k => ?_) (by rw [begin_unwritten h hb]; exact Ev.now false)
  unfold r4_Written.f
  rw [Qbq,hb,Option.bind_some,if_pos rfl]
theorem EqOp_self (o : SOp) (ho : o.f5.length ≤ 1000000) : Ev (fun k => r0_EqOp.f k o.f0 o.f1 o.f2 o.f3.f0 o.f3.f1 o.f3.f2 o.f4 o.f5 o.f6 o.f7 o.f8 o.f0 o.f1 o.f2 o.f3.f0 o.f3.f1 o.f3.f2 o.f4 o.f5 o.f6 o.f7 o.f8) true:=by
 have hE:=EqElems_ev o.f5 o.f5 (by omega)
 rw [decide_eq_true rfl] at hE
 refine Ev.congr (f:=fun k => (r0_EqElems.f k o.f5 o.f5).bind fun t => if t = true then some true else some false) (fun k => ?_) (Ev.bind (f:=fun _ t => if t = true then some true else some false) hE (Ev.now true))
 unfold r0_EqOp.f
 simp
theorem EqOps_self (l : List SOp) (hl : l.length ≤ 1000000) (hs : ∀ o ∈ l,o.f5.length ≤ 1000000) : ∀ d i,i + d = l.length → Ev (fun k => r0_EqOps.l0 k l l (i : Int)) true
 | 0,i,h => Ev.step (f:=fun _ => some true) (fun k => by simp only [r0_EqOps.l0]; rw [if_neg (by omega)]) (Ev.now _)
 | d + 1,i,h => by
  have hlt : i < l.length:=by omega
  have ih:=EqOps_self l hl hs d (i + 1) (by omega)
  refine Ev.step (fun k => by simp only [r0_EqOps.l0]; rw [if_pos (by omega),if_pos (by omega),if_pos (by omega),Qao _ _ hlt]) (Ev.bind (EqOp_self l[i] (hs _ (List.getElem_mem hlt))) ?_)
  simp only [if_true,Qdf hlt (show l.length ≤ 4611686018427387904 by omega)]
  exact ih
theorem EqOps_ev (l : List SOp) (hl : l.length ≤ 1000000) (hs : ∀ o ∈ l,o.f5.length ≤ 1000000) : Ev (fun k => r0_EqOps.f k l l) true :=
 Ev.congr (fun k => if_pos rfl) (EqOps_self l hl hs _ 0 (Nat.zero_add _))
theorem ElT_l0 (L : List SOp) (hL : L.length ≤ 1000) : ∀ d i (acc : List SElem),i + d = L.length → acc.length ≤ 6 + i → ∃ es,Ev (fun k => w5_Elems.l0 k L acc (i : Int)) es ∧ es.length ≤ 1100
 | 0,i,acc,hi,ha => ⟨acc,Ev.step (f:=fun _ => some acc) (fun k => by simp only [w5_Elems.l0]; rw [if_neg (by omega)]) (Ev.now _),by omega⟩
 | d + 1,i,acc,hi,ha => by
  by_cases h40 : i < 40
  ·obtain ⟨es,h1,h2⟩:=ElT_l0 L hL d (i + 1) (acc ++ [(⟨(Qad L (i : Int)).f0,(Qad L (i : Int)).f1,Int.tmod (i : Int) 3⟩ : SElem)]) (by omega) (by rw [List.length_append,List.length_singleton]; omega)
   refine ⟨es,Ev.step (fun k => ?_) h1,h2⟩
   simp only [w5_Elems.l0]
   rw [if_pos (by omega),if_pos (by omega),if_pos (by omega),if_pos (by omega),Qdf (show i < L.length by omega) (by omega)]
  ·refine ⟨acc,Ev.step (f:=fun _ => some acc) (fun k => ?_) (Ev.now _),by omega⟩
   simp only [w5_Elems.l0]
   rw [if_pos (by omega),if_neg (by omega)]
theorem ElemsT_some (l0 : List (List SOp)) (l1 : List SElem) (l2 : List SOp) (l3 : List Int) (hn : l1.length ≤ 900) (L : List SOp) (hL : L.length ≤ 1000) : ∃ es,Ev (fun k => w5_Elems.f k l0 l1 l2 l3 L) es ∧ es.length ≤ 1100:=by
 have hlen : ([(⟨0,0,0⟩ : SElem)] ++ l1).length = 1 + l1.length:=by rw [List.length_append,List.length_singleton]
 obtain ⟨es,h1,h2⟩:=ElT_l0 L hL L.length 0 (if (([(⟨0,0,0⟩ : SElem)] ++ l1).length : Int) > 6 then ([(⟨0,0,0⟩ : SElem)] ++ l1).take 6 else [(⟨0,0,0⟩ : SElem)] ++ l1) (Nat.zero_add _) (by
  split
  ·rw [List.length_take]; omega
  ·omega)
 refine ⟨es,Ev.congr (f:=fun k => w5_Elems.j0 k L (if (([(⟨0,0,0⟩ : SElem)] ++ l1).length : Int) > 6 then ([(⟨0,0,0⟩ : SElem)] ++ l1).take 6 else [(⟨0,0,0⟩ : SElem)] ++ l1)) (fun k => ?_) (Ev.step (fun k => by simp only [w5_Elems.j0]; rfl) h1),h2⟩
 unfold w5_Elems.f
 simp only [Option.bind_some]
 rw [if_pos (by rw [List.length_singleton]; omega)]
 by_cases h6 : (([(⟨0,0,0⟩ : SElem)] ++ l1).length : Int) > 6
 ·rw [if_pos h6,if_pos (by omega),if_pos h6]; rfl
 ·rw [if_neg h6,if_neg h6]
end
section
theorem filter_take (O : List SElem) (hn : O.Nodup) (p : SElem → Bool) (m : Nat) : (O.filter p).filter (fun x => decide (x ∈ O.take m)) = (O.take m).filter p:=by
 have hO : O = O.take m ++ O.drop m:=(List.take_append_drop _ _).symm
 have hnd:=hn
 rw [hO] at hnd
 have hdis:=(List.nodup_append.1 hnd).2.2
 have hf : O.filter p = (O.take m).filter p ++ (O.drop m).filter p:=by rw [← List.filter_append,← hO]
 have ha : ((O.take m).filter p).filter (fun y => decide (y ∈ O.take m)) = (O.take m).filter p:=List.filter_eq_self.2 fun y hy => decide_eq_true ((List.mem_filter.1 hy).1)
 have hb : ((O.drop m).filter p).filter (fun y => decide (y ∈ O.take m)) = []:=List.filter_eq_nil_iff.2 fun y hy => by
  rw [decide_eq_true_eq]
  exact fun hy2 => hdis y hy2 y ((List.mem_filter.1 hy).1) rfl
 rw [hf,List.filter_append,ha,hb,List.append_nil]
def aheadN (L : List SOp) (e : SElem) : Nat:=(idxE (ordL L) e + 1).toNat
theorem upto_eq {L : List SOp} (h : RowOk L) (e : SElem) : Qcn L e = ((ordL L).take (aheadN L e)).filter fun x => decide (x ∈ Qce L):=by
 have h1:=filter_take (ordL L) (Qcs h).1 (fun e => !(goneE L e || !thereE L e)) (aheadN L e)
 refine Eq.trans (show Qcn L e = _ from h1) ?_
 refine List.filter_congr fun x hx => ?_
 have hx':=List.mem_of_mem_take hx
 unfold Qce
 by_cases hp : (!(goneE L x || !thereE L x)) = true
 ·rw [hp,decide_eq_true (List.mem_filter.2 ⟨hx',hp⟩)]
 ·rw [Bool.eq_false_iff.2 hp]
  have hx2 : x ∉ (ordL L).filter (fun e => !(goneE L e || !thereE L e)):=fun hm => hp (List.mem_filter.1 hm).2
  exact (decide_eq_false hx2).symm
theorem upto_prefix {L : List SOp} (h : RowOk L) (e : SElem) : Qcn L e = (Qce L).take (Qcn L e).length:=by
 have h1 : Qcn L e = ((ordL L).take (aheadN L e)).filter fun e => !(goneE L e || !thereE L e):=filter_take (ordL L) (Qcs h).1 (fun e => !(goneE L e || !thereE L e)) (aheadN L e)
 have hf : Qce L = Qcn L e ++ ((ordL L).drop (aheadN L e)).filter fun e => !(goneE L e || !thereE L e):=by
  rw [h1,← List.filter_append,List.take_append_drop]; rfl
 generalize Qcn L e = u at hf
 rw [hf,List.take_append_of_le_length (Nat.le_refl _),List.take_length]
theorem upto_len {L : List SOp} (h : RowOk L) (e : SElem) : (Qcn L e).length ≤ (Qce L).length:=by
 have:=congrArg List.length (upto_prefix h e)
 rw [List.length_take] at this
 omega
theorem Place_loop (v all : List SElem) (hv : v.length ≤ 200) (ha : all.length ≤ 200) (e : SElem) : ∀ d i,i + d = (idxE all e + 1).toNat → Ev (fun k => r9_Place.l0 k v all ((((all.take i).filter fun x => decide (x ∈ v)).length : Nat) : Int) (i : Int) e.f0 e.f1 e.f2) ((((all.take (idxE all e + 1).toNat).filter fun x => decide (x ∈ v)).length : Nat) : Int)
 | 0,i,h => by
  have hb : idxE all e + 1 ≥ 0:=by
   rcases idxE_cases all e with ⟨j,_,_,_,e1⟩ | ⟨_,e1⟩ <;> omega
  refine Ev.step (fun k => by simp only [r9_Place.l0]; rfl) (Ev.bind (f:=fun k t => if (i : Int) ≤ t then _ else some ((((all.take i).filter fun x => decide (x ∈ v)).length : Nat) : Int)) (At_ev all (by omega) e) ?_)
  refine Ev.congr (f:=fun _ => some ((((all.take i).filter fun x => decide (x ∈ v)).length : Nat) : Int)) (fun k => if_neg (by omega)) ?_
  rw [← h]
  exact Ev.now _
 | d + 1,i,h => by
  have ih:=Place_loop v all hv ha e d (i + 1) (by omega)
  obtain ⟨hlt,hle⟩ : i < all.length ∧ (i : Int) ≤ idxE all e:=by
   rcases idxE_cases all e with ⟨j,hj,_,_,e1⟩ | ⟨_,e1⟩
   ·rw [e1] at h ⊢; omega
   ·rw [e1] at h; have : ((-1 : Int) + 1).toNat = 0:=rfl; omega
  have hc : ((all.take i).filter fun x => decide (x ∈ v)).length ≤ i:=Nat.le_trans (List.length_filter_le _ _) (by rw [List.length_take]; omega)
  have hw : wrap64 ((((all.take i).filter fun x => decide (x ∈ v)).length : Int) + 1) = ((((all.take i).filter fun x => decide (x ∈ v)).length + 1 : Nat) : Int):=by rw [Qai (by omega) (by omega)]; omega
  have hwi : wrap64 ((i : Int) + 1) = ((i + 1 : Nat) : Int):=Qdf hlt (by omega)
  rw [List.take_succ_eq_append_getElem hlt,List.filter_append,List.length_append] at ih
  refine Ev.step (fun k => by simp only [r9_Place.l0]; rfl) (Ev.bind (At_ev all (by omega) e) ?_)
  simp only [if_pos hle,if_pos (show (0 : Int) ≤ (i : Int) by omega),if_pos (show (i : Int) < (all.length : Int) by omega),Qan _ _ hlt]
  refine Ev.bind (At_ev v (by omega) all[i]) ?_
  by_cases hm : all[i] ∈ v
  ·have h0:=(idxE_nonneg v all[i]).2 hm
   have h1 : ([all[i]].filter fun x => decide (x ∈ v)).length = 1:=by simp [hm]
   rw [h1] at ih
   simp only [if_pos (show idxE v all[i] ≥ 0 from h0),hw,hwi]
   exact ih
  ·have h0 : ¬ idxE v all[i] ≥ 0:=fun hh => hm ((idxE_nonneg v all[i]).1 hh)
   have h1 : ([all[i]].filter fun x => decide (x ∈ v)).length = 0:=by simp [hm]
   rw [h1,Nat.add_zero] at ih
   simp only [if_neg h0,hwi]
   exact ih
theorem Place9_ev {L : List SOp} (hl : SmL L) (h : RowOk L) (e : SElem) : Ev (fun k => r9_Place.f k L e.f0 e.f1 e.f2) ((Qcn L e).length : Int):=by
 have h200 : (ordL L).length ≤ 200:=by rw [(Qcs h).2]; exact h.sums.2
 cases hb : Qaj e
 ·refine Ev.congr (f:=fun k => (r4_Visible.f k L).bind fun t399 => ((r4_Order.f k L).bind fun t402 => (r9_Place.l0 k t399 t402 0 0 e.f0 e.f1 e.f2))) (fun k => ?_) (Ev.bind (f:=fun k t399 => (r4_Order.f k L).bind fun t402 => (r9_Place.l0 k t399 t402 0 0 e.f0 e.f1 e.f2)) (Visible_ev hl h) (Ev.bind (f:=fun k t402 => r9_Place.l0 k (Qce L) t402 0 0 e.f0 e.f1 e.f2) (Order_ev hl h) ?_))
  ·unfold r9_Place.f
   rw [Qbq,hb,Option.bind_some,if_neg (by decide)]
  ·rw [upto_eq h e]
   exact Place_loop (Qce L) (ordL L) (seen_len h) h200 e _ 0 (Nat.zero_add _)
 ·rw [upto_none (begin_not h hb)]
  refine Ev.congr (f:=fun _ => some 0) (fun k => ?_) (Ev.now _)
  unfold r9_Place.f
  rw [Qbq,hb,Option.bind_some,if_pos rfl]
def nearR (L : List SOp) (e : SElem) : SElem:=if (Qcn L e).length = 0 then ⟨0,0,0⟩ else Qaa (Qce L) (((Qcn L e).length - 1 : Nat) : Int)
theorem Near9_ev {L : List SOp} (hl : SmL L) (h : RowOk L) (e : SElem) : Ev (fun k => r9_Near.f k L e.f0 e.f1 e.f2) ((nearR L e).f0,(nearR L e).f1,(nearR L e).f2):=by
 have hlen:=upto_len h e
 have h200:=seen_len h
 refine Ev.bind (Place9_ev hl h e) ?_
 unfold nearR
 by_cases h0 : (Qcn L e).length = 0
 ·simp only [h0]
  exact Ev.now _
 ·have w1 : wrap64 (((Qcn L e).length : Int) - 1) = (((Qcn L e).length - 1 : Nat) : Int):=by rw [Qai (by omega) (by omega)]; omega
  simp only [if_neg h0,if_neg (show ¬ ((Qcn L e).length : Int) = 0 by omega),w1]
  refine Ev.bind (Visible_ev hl h) ?_
  simp only [if_pos (show (0 : Int) ≤ (((Qcn L e).length - 1 : Nat) : Int) by omega),if_pos (show (((Qcn L e).length - 1 : Nat) : Int) < ((Qce L).length : Int) by omega)]
  exact Ev.now _
theorem Near_ok {L : List SOp} (hs : smalls L = true) (h : RowOk L) (e : SElem) : caret_Near.f L e.f0 e.f1 e.f2 = some (if (Qaj e || Qbm L e) = true then ((nearR L e).f0,(nearR L e).f1,(nearR L e).f2,0) else (0,0,0,3)):=by
 have hlen:=upto_len h e
 have h200:=seen_len h
 unfold caret_Near.f
 rw [asked_ok hs h,Option.bind_some]
 cases Qaj e || Qbm L e
 ·rfl
 ·simp only [if_true]
  rw [Upto_ok hs h,Option.bind_some]
  unfold nearR
  by_cases h0 : (Qcn L e).length = 0
  ·rw [if_pos h0,if_pos (by omega)]
  ·have w1 : wrap64 (((Qcn L e).length : Int) - 1) = (((Qcn L e).length - 1 : Nat) : Int):=by rw [Qai (by omega) (by omega)]; omega
   have hr : Qaa (Qcn L e) (((Qcn L e).length - 1 : Nat) : Int) = Qaa (Qce L) (((Qcn L e).length - 1 : Nat) : Int):=by
    rw [Qan _ _ (show (Qcn L e).length - 1 < (Qcn L e).length by omega),Qan _ _ (show (Qcn L e).length - 1 < (Qce L).length by omega)]
    have hp:=upto_prefix h e
    have : (Qcn L e)[(Qcn L e).length - 1]? = (Qce L)[(Qcn L e).length - 1]?:=by
     conv => lhs; rw [hp]
     rw [List.getElem?_take,if_pos (by rw [List.length_take]; omega)]
     congr 1
     rw [List.length_take]; omega
    rw [List.getElem?_eq_getElem (by omega),List.getElem?_eq_getElem (by omega)] at this
    exact Option.some.inj this
   rw [if_neg h0,if_neg (by omega),w1,if_pos (by omega),if_pos (by omega),hr]
theorem asked_no {L : List SOp} (hs : smalls L = true) (hm : mayB L = false) (e : SElem) : caret_asked.f L e.f0 e.f1 e.f2 = some 1:=by
 unfold caret_asked.f
 rw [tree_May_f hs,hm]; rfl
theorem Place_no {L : List SOp} (hs : smalls L = true) (hm : mayB L = false) (e : SElem) : caret_Place.f L e.f0 e.f1 e.f2 = some (0,1):=by
 unfold caret_Place.f
 rw [asked_no hs hm]; rfl
theorem Near_no {L : List SOp} (hs : smalls L = true) (hm : mayB L = false) (e : SElem) : caret_Near.f L e.f0 e.f1 e.f2 = some (0,0,0,1):=by
 unfold caret_Near.f
 rw [asked_no hs hm]; rfl
theorem Set_no {L : List SOp} (hs : smalls L = true) (hm : mayB L = false) (n : Int) : Ev (fun k => caret_Set.f k L n) (0,0,0,1):=by
 refine Ev.congr (fun k => ?_) (Ev.now _)
 unfold caret_Set.f
 rw [tree_May_f hs,hm]; rfl
theorem Set_off {L : List SOp} (hs : smalls L = true) (h : RowOk L) {n : Int} (hn : n < 0 ∨ n > ((Qce L).length : Int)) : Ev (fun k => caret_Set.f k L n) (0,0,0,2):=by
 refine Ev.congr (f:=fun k => caret_Set.j0 k n (Qce L) true) (fun k => ?_) (Ev.step (f:=fun _ => some (0,0,0,2)) (fun k => ?_) (Ev.now _))
 ·unfold caret_Set.f
  rw [tree_May_f hs,(mayB_iff L).2 h,Option.bind_some,if_pos rfl,doc_Seen_f hs h,Option.bind_some]
  by_cases h0 : n < 0
  ·rw [if_pos h0]
  ·rw [if_neg h0,decide_eq_true (by omega)]
 ·simp only [caret_Set.j0]; rw [if_pos True.intro]
theorem Set9_on {L : List SOp} (hl : SmL L) (h : RowOk L) {n : Nat} (hn : n ≤ (Qce L).length) : Ev (fun k => r9_Set.f k L (n : Int)) ((aheadR L n).f0,(aheadR L n).f1,(aheadR L n).f2,true):=by
 have h200:=seen_len h
 have n1 : r0_Num.f (n : Int) ((Qce L).length : Int) = some true:=by unfold r0_Num.f; rw [if_pos (by omega),decide_eq_true (by omega)]
 refine Ev.bind (Visible_ev hl h) ?_
 simp only [n1,Option.bind_some,if_true]
 unfold aheadR
 by_cases h0 : n = 0
 ·subst h0; exact Ev.now _
 ·have w1 : wrap64 ((n : Int) - 1) = ((n - 1 : Nat) : Int):=by rw [Qai (by omega) (by omega)]; omega
  simp only [if_neg h0,if_neg (show ¬ (n : Int) = 0 by omega),w1,if_pos (show (0 : Int) ≤ ((n - 1 : Nat) : Int) by omega),if_pos (show ((n - 1 : Nat) : Int) < ((Qce L).length : Int) by omega)]
  exact Ev.now _
theorem Set9_off {L : List SOp} (hl : SmL L) (h : RowOk L) {n : Int} (hn : n < 0 ∨ n > ((Qce L).length : Int)) : Ev (fun k => r9_Set.f k L n) (0,0,0,false):=by
 have n1 : r0_Num.f n ((Qce L).length : Int) = some false:=by
  unfold r0_Num.f
  by_cases h0 : n ≥ 0
  ·rw [if_pos h0,decide_eq_false (by omega)]
  ·rw [if_neg h0]
 refine Ev.bind (Visible_ev hl h) ?_
 simp only [n1,Option.bind_some]
 exact Ev.now _
end
section
theorem wakes11_ev : Ev (fun k => w11_wakes.f k) true:=Ev.of (w11_wakes.mono) (k:=9) (by decide +kernel)
theorem num11_f (a : Int) : w11_num.f a = some a:=rfl
theorem eq3 (a b c : Int) : (!(a == a) || (!(b == b) || (!(c == c)))) = false:=by simp
section
variable {l0 : List (List SOp)} {l1 : List SElem} {l2 : List SOp} {l3 : List Int}
theorem CT_j4 (ns : List Int) (x4 : Int) (L : List SOp) (m : Bool) {q : Nat} (hq : q < 906) (c a b d : Int) (hnext : Ev (fun k => w11_CaretTells.l1 k ns x4 L m ((q + 1 : Nat) : Int) l0 l1 l2 l3) true) :
  Ev (fun k => w11_CaretTells.j4 k ns x4 L m (q : Int) c c l0 l1 l2 l3 a b d a b d) true:=by
 refine Ev.step (fun k => ?_) hnext
 simp only [w11_CaretTells.j4,num11_f,Option.bind_some,if_true]
 rw [eq3,if_neg (by decide),Qai (by omega) (by omega)]
 rfl
theorem CT_j7 (ns : List Int) (x4 : Int) (L : List SOp) (m : Bool) (es : List SElem) {q : Nat} (hq : q < 1100) (n c a b d : Int) (hnext : Ev (fun k => w11_CaretTells.l2 k ns x4 L m es ((q + 1 : Nat) : Int) l0 l1 l2 l3) true) :
  Ev (fun k => w11_CaretTells.j7 k ns x4 L m es (q : Int) n c c c n l0 l1 l2 l3 a b d a b d) true:=by
 refine Ev.step (f:=fun k => w11_CaretTells.j8 k ns x4 L m es (q : Int) false l0 l1 l2 l3) (fun k => ?_) (Ev.step (fun k => ?_) hnext)
 ·simp only [w11_CaretTells.j7,num11_f,Option.bind_some,if_true]
  rw [eq3]
 ·simp only [w11_CaretTells.j8]
  rw [if_neg (by decide),Qai (by omega) (by omega)]
  rfl
theorem CT_l2 (ns : List Int) {i : Nat} (hi : i < l0.length) {L : List SOp} (hL : l0[i] = L) (ht : Tiny L) (hn : L.length ≤ 900) (es : List SElem) (hes : es.length ≤ 1100)
  (hnext : Ev (fun k => w11_CaretTells.l0 k ns (wrap64 ((i : Int) + 1)) l0 l1 l2 l3) true) : ∀ d q,q + d = es.length → Ev (fun k => w11_CaretTells.l2 k ns (i : Int) L (mayB L) es (q : Int) l0 l1 l2 l3) true
 | 0,q,hq => by
  refine Ev.step (fun k => by simp only [w11_CaretTells.l2]; rw [if_neg (by omega),if_pos (by omega),if_pos (by omega),rd_LOp_nat _ _ hi,hL]) (Ev.bind (EqOps_ev L (by omega) (fun o ho => by have:=(ht o ho).2; omega)) ?_)
  simp only [if_true]
  exact hnext
 | d + 1,q,hq => by
  have ih:=CT_l2 ns hi hL ht hn es hes hnext d (q + 1) (by omega)
  have hsm:=ht.smL (by omega)
  have hs:=ht.smalls (by omega)
  have q0 : (0 : Int) ≤ (q : Int):=by omega
  have q1 : (q : Int) < (es.length : Int):=by omega
  cases hm : mayB L
  ·rw [hm] at ih
   refine Ev.step (fun k => ?_) (CT_j7 ns (i : Int) L false es (q:=q) (by omega) 0 1 0 0 0 ih)
   simp only [w11_CaretTells.l2]
   rw [if_pos q1,if_pos q0,Place_no hs hm,Option.bind_some,Near_no hs hm,Option.bind_some,if_neg (by decide)]
  ·rw [hm] at ih
   have h:=(mayB_iff _).1 hm
   generalize he : Qaa es (q : Int) = e
   have hP:=Place_ok hs h e
   have hN:=Near_ok hs h e
   have hj6 : ∀ b : Bool,b = (Qaj e || Qbm L e) → ∀ n c1 c2 a1 a2 a3 : Int,caret_Place.f L e.f0 e.f1 e.f2 = some (n,c1) → caret_Near.f L e.f0 e.f1 e.f2 = some (a1,a2,a3,c2) →
     Ev (fun k => w11_CaretTells.j6 k ns (i : Int) L true es (q : Int) n c1 c2 3 0 b l0 l1 l2 l3 a1 a2 a3 0 0 0) true:=by
    intro b hb n c1 c2 a1 a2 a3 e1 e2
    rw [hP] at e1
    rw [hN] at e2
    cases b
    ·rw [← hb] at e1 e2
     simp only [Bool.false_eq_true,if_false,Option.some.injEq,Prod.mk.injEq] at e1 e2
     obtain ⟨rfl,rfl⟩:=e1
     obtain ⟨rfl,rfl,rfl,rfl⟩:=e2
     refine Ev.step (fun k => ?_) (CT_j7 ns (i : Int) L true es (q:=q) (by omega) 0 3 0 0 0 ih)
     simp only [w11_CaretTells.j6]
     rw [if_neg (by decide)]
    ·rw [← hb] at e1 e2
     simp only [if_true,Option.some.injEq,Prod.mk.injEq] at e1 e2
     obtain ⟨rfl,rfl⟩:=e1
     obtain ⟨rfl,rfl,rfl,rfl⟩:=e2
     refine Ev.step (fun k => by simp only [w11_CaretTells.j6]; rw [if_pos True.intro,if_pos q0,if_pos q1,he]) (Ev.bind (Place9_ev hsm h e) (Ev.bind (Near9_ev hsm h e) ?_))
     exact CT_j7 ns (i : Int) L true es (q:=q) (by omega) _ 0 _ _ _ ih
   cases hw : (Qaj e || Qbm L e)
   all_goals
    rw [hw] at hP hN
    simp only [Bool.false_eq_true,if_false,if_true] at hP hN
    have hj:=hj6 _ hw.symm _ _ _ _ _ _ hP hN
    cases hb : Qaj e
    ·rw [hb,Bool.false_or] at hw
     have hW:=Written_ev hsm h e
     rw [hw] at hW
     refine Ev.step (fun k => by
      simp only [w11_CaretTells.l2]
      rw [if_pos q1,if_pos q0,he,hP,Option.bind_some,hN,Option.bind_some,if_pos True.intro,show (e.f0 == 0 && (e.f1 == 0 && (e.f2 == 0))) = false from hb,if_neg (by decide)]) (Ev.bind hW ?_)
     exact hj
    ·rw [hb,Bool.true_or] at hw
     first | (cases hw; done) | (refine Ev.step (fun k => ?_) hj; simp only [w11_CaretTells.l2]; rw [if_pos q1,if_pos q0,he,hP,Option.bind_some,hN,Option.bind_some,if_pos True.intro,show (e.f0 == 0 && (e.f1 == 0 && (e.f2 == 0))) = true from hb,if_pos rfl])
theorem CT_l1 (hn1 : l1.length ≤ 900) (ns : List Int) (hns : ns.length ≤ 906) {i : Nat} (hi : i < l0.length) {L : List SOp} (hL : l0[i] = L) (ht : Tiny L) (hn : L.length ≤ 900)
  (hnext : Ev (fun k => w11_CaretTells.l0 k ns (wrap64 ((i : Int) + 1)) l0 l1 l2 l3) true) : ∀ d q,q + d = ns.length → Ev (fun k => w11_CaretTells.l1 k ns (i : Int) L (mayB L) (q : Int) l0 l1 l2 l3) true:=by
 have hend : ∀ q : Nat,Ev (fun k => w11_CaretTells.j3 k ns (i : Int) L (mayB L) (q : Int) false l0 l1 l2 l3) true:=by
  intro q
  obtain ⟨es,h1,h2⟩:=ElemsT_some l0 l1 l2 l3 hn1 L (by omega)
  refine Ev.step (fun k => by simp only [w11_CaretTells.j3]; rw [if_neg (by decide)]) (Ev.bind h1 ?_)
  exact CT_l2 ns hi hL ht hn es h2 hnext _ 0 (Nat.zero_add _)
 intro d
 induction d with
 | zero =>
  intro q hq
  refine Ev.step (fun k => ?_) (hend q)
  simp only [w11_CaretTells.l1]; rw [if_neg (by omega)]
 | succ d ihd =>
  intro q hq
  have ih:=ihd (q + 1) (by omega)
  have hsm:=ht.smL (by omega)
  have hs:=ht.smalls (by omega)
  by_cases h12 : (q : Int) < 12
  ·refine Ev.step (f:=fun k => w11_CaretTells.j3 k ns (i : Int) L (mayB L) (q : Int) true l0 l1 l2 l3) (fun k => ?_) ?_
   ·simp only [w11_CaretTells.l1]; rw [if_pos (by omega),decide_eq_true h12]
   ·refine Ev.step (fun k => by simp only [w11_CaretTells.j3]; rw [if_pos True.intro,if_pos (by omega),if_pos (by omega)]) ?_
    generalize rd ns (q : Int) = n
    cases hm : mayB L
    ·rw [hm] at ih
     refine Ev.bind (Set_no hs hm n) ?_
     simp only [Bool.false_eq_true,if_false]
     exact CT_j4 ns (i : Int) L false (by omega) 1 0 0 0 ih
    ·rw [hm] at ih
     have h:=(mayB_iff _).1 hm
     by_cases hin : 0 ≤ n ∧ n ≤ ((Qce L).length : Int)
     ·obtain ⟨m,rfl⟩ : ∃ m : Nat,n = (m : Int):=⟨n.toNat,by omega⟩
      refine Ev.bind (Set_ok hs h (n:=m) (by omega)) ?_
      simp only [if_true]
      refine Ev.bind (Set9_on hsm h (n:=m) (by omega)) ?_
      simp only [if_true]
      exact CT_j4 ns (i : Int) L true (by omega) 0 _ _ _ ih
     ·refine Ev.bind (Set_off hs h (n:=n) (by omega)) ?_
      simp only [if_true]
      refine Ev.bind (Set9_off hsm h (n:=n) (by omega)) ?_
      simp only [Bool.false_eq_true,if_false]
      exact CT_j4 ns (i : Int) L true (by omega) 2 0 0 0 ih
  ·refine Ev.step (fun k => ?_) (hend q)
   simp only [w11_CaretTells.l1]; rw [if_pos (by omega),decide_eq_false h12]
theorem CT_end (ns : List Int) (x : Int) : Ev (fun k => w11_CaretTells.j1 k ns x false l0 l1 l2 l3) true :=
 Ev.step (fun k => by simp only [w11_CaretTells.j1]; rw [if_neg (by decide)]) (Ev.bind (f:=fun _ t => some t) wakes11_ev (Ev.now _))
theorem CT_l0 (hg : GoodAsk l0 l1 l2 l3) (hsm : ∀ x ∈ l0,x.length ≤ 900 ∧ Tiny x) (hn1 : l1.length ≤ 900) (ns : List Int) (hns : ns.length ≤ 906) : ∀ d i,i + d = l0.length → Ev (fun k => w11_CaretTells.l0 k ns (i : Int) l0 l1 l2 l3) true
 | 0,i,h => by
  refine Ev.step (fun k => ?_) (CT_end (l0:=l0) (l1:=l1) (l2:=l2) (l3:=l3) ns (i : Int))
  simp only [w11_CaretTells.l0]; rw [if_neg (by omega)]
 | d + 1,i,h => by
  have ih:=CT_l0 hg hsm hn1 ns hns d (i + 1) (by omega)
  have hn0:=hg.n0
  have hlt : i < l0.length:=by omega
  have hw : wrap64 ((i : Int) + 1) = ((i + 1 : Nat) : Int):=Qdf hlt (by omega)
  by_cases h4 : (i : Int) < 4
  ·obtain ⟨hn,ht⟩:=hsm _ (List.getElem_mem hlt)
   have hR:=Row_ev l0[i] (ht.smL (by omega))
   refine Ev.step (f:=fun k => w11_CaretTells.j1 k ns (i : Int) true l0 l1 l2 l3) (fun k => ?_) ?_
   ·simp only [w11_CaretTells.l0]; rw [if_pos (by omega),decide_eq_true h4]
   ·refine Ev.step (fun k => by simp only [w11_CaretTells.j1]; rw [if_pos True.intro,if_pos (by omega),if_pos (by omega),rd_LOp_nat _ _ hlt]) (Ev.bind (CopyOps_ev l0[i] (by omega) (fun o ho => by have:=(ht o ho).2; omega)) (Ev.bind hR ?_))
    exact CT_l1 hn1 ns hns hlt rfl ht hn (by rw [hw]; exact ih) _ 0 (Nat.zero_add _)
  ·refine Ev.step (fun k => ?_) (CT_end (l0:=l0) (l1:=l1) (l2:=l2) (l3:=l3) ns (i : Int))
   simp only [w11_CaretTells.l0]; rw [if_pos (by omega),decide_eq_false h4]
end
theorem PureCaretTells (l0 : List (List SOp)) (l1 : List SElem) (l2 : List SOp) (l3 : List Int) (hg : GoodAsk l0 l1 l2 l3) : ∃ k,w11_CaretTells.f k l0 l1 l2 l3 = some true:=by
 obtain ⟨b,hb,hsm⟩:=Heavy_small2 hg
 refine Ev.rounds (Ev.bind hb ?_)
 cases b
 ·obtain ⟨k1,k2,k3,_⟩:=hsm rfl
  have hlen : ([0,1,2,5,(-1),999] : List Int).length + l3.length < 17592186044416:=by show 6 + l3.length < _; omega
  refine Ev.congr (fun k => ?_) (CT_l0 hg k1 k2 ([0,1,2,5,(-1),999] ++ l3) (by rw [List.length_append]; show 6 + l3.length ≤ 906; omega) _ 0 (Nat.zero_add _))
  rw [if_neg (by decide),Option.bind_some,if_pos hlen]
  rfl
 ·exact Ev.congr (fun k => if_pos rfl) (Ev.now true)
end
end Go.Proofs.YtonoaflfobajcaaGreatDoor.L
end
