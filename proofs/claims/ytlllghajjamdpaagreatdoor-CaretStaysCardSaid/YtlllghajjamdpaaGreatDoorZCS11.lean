/- Part 11 of the proof that for every argument the law CaretStays answers true: a caret set at a place is there; what is near it has its place; what is written ahead of it moves it by so much, what is written right at it, or behind, does not -/
import Derived.Test.YtlllghajjamdpaaGreatDoorZCS10
section
namespace Go.Proofs.YtlllghajjamdpaaGreatDoor.L
open Go.RowKit Go.Proofs.YtlllghajjamdpaaGreatDoorW.PrintWords Go.Proofs.YtlllghajjamdpaaGreatDoorW.PrintLast Go.Proofs.YtlllghajjamdpaaGreatDoorW.PrintMore
set_option linter.unusedVariables false
set_option linter.unusedSimpArgs false
set_option maxHeartbeats 40000000
set_option maxRecDepth 1000000
section
theorem chain_new {L : List SOp} {o : SOp} (h : RowOk L) (hn : NextOk L o) {e : SElem} (he : e ∈ Qas o) : e ∉ ordL L:=by
 intro hm
 obtain ⟨p,hp,e0,e1,_⟩:=(Qbx h e).1 hm
 have hc:=(mem_chain o e).1 he
 exact hn.fresh h p hp ⟨by omega,by omega⟩
theorem wr_ord {L : List SOp} (h : RowOk L) {e : SElem} (hw : wr L e) (hb : Qao e = false) : e ∈ ordL L:=by
 rcases hw with h1 | ⟨h0,p,hp,k0,k1,k2⟩
 ·rw [hb] at h1; cases h1
 ·exact (Qbx h _).2 ⟨p,hp,k0,k1,h0,k2⟩
theorem gone_old {L : List SOp} {o : SOp} (h : RowOk L) (hn : NextOk L o) {e : SElem} (he : e ∈ o.f5) : e ∈ ordL L:=wr_ord h (hn.gone e he) (opOk_goneMem hn.ok e he).1
theorem goneE_old {L : List SOp} (h : RowOk L) {e : SElem} (hg : goneE L e = true) : e ∈ ordL L:=by
 unfold goneE at hg
 rw [List.any_eq_true] at hg
 obtain ⟨p,hp,hq⟩:=hg
 rw [Bool.and_eq_true,decide_eq_true_iff] at hq
 obtain ⟨i,hi,rfl⟩:=List.getElem_of_mem hp
 obtain ⟨hn,hr⟩:=isPrefix_next h i hi
 have hm:=gone_old hr hn hq.2
 obtain ⟨q,hq,k⟩:=(Qbx hr e).1 hm
 exact (Qbx h e).2 ⟨q,List.mem_of_mem_take hq,k⟩
theorem ord_snoc {L : List SOp} {o : SOp} (h : RowOk L) (hn : NextOk L o) (e : SElem) : e ∈ ordL (L ++ [o]) ↔ e ∈ ordL L \/ e ∈ Qas o:=by
 rw [Qbx (.snoc h hn),Qbx h,mem_chain]
 constructor
 ·rintro ⟨p,hp,k⟩
  rcases List.mem_append.1 hp with hp | hp
  ·exact .inl ⟨p,hp,k⟩
  ·rw [List.mem_singleton] at hp; subst hp; exact .inr k
 ·rintro (⟨p,hp,k⟩ | k)
  ·exact ⟨p,List.mem_append_left _ hp,k⟩
  ·exact ⟨o,List.mem_append_right _ (List.mem_singleton.2 rfl),k⟩
theorem new_works {L : List SOp} {o : SOp} (h : RowOk L) (hn : NextOk L o) (h1 : o.f2 = 1) : Qda (L ++ [o]) o = true:=by
 unfold Qda
 rw [cnt_other (by omega),cnt_fresh h (hn.fresh h),h1]; rfl
theorem ins_seen {L : List SOp} {o : SOp} (h : RowOk L) (hn : NextOk L o) (h1 : o.f2 = 1) : Qak (L ++ [o]) = (ordL (L ++ [o])).filter fun e => decide (e ∈ Qas o) || (decide (e ∈ Qak L) && !decide (e ∈ o.f5)):=by
 have hw : ∀ p,Qda (L ++ [o]) p = Qda L p:=fun p => workE_cnt (cnt_other (by omega) _ _)
 have hwo:=new_works h hn h1
 show (ordL (L ++ [o])).filter _ = _
 refine List.filter_congr fun e he => ?_
 have hgo : goneE (L ++ [o]) e = (goneE L e || decide (e ∈ o.f5)):=by
  unfold goneE
  rw [List.any_append,any_same L _ (fun p => Qda L p && decide (e ∈ p.f5)) (fun p _ => by rw [hw])]
  congr 1
  rw [List.any_cons,List.any_nil,Bool.or_false,hwo,Bool.true_and]
 have hth : thereE (L ++ [o]) e = (thereE L e || decide (e ∈ Qas o)):=by
  unfold thereE
  rw [List.any_append,any_same L _ (fun p => Qda L p && decide (e ∈ Qas p)) (fun p _ => by rw [hw])]
  congr 1
  rw [List.any_cons,List.any_nil,Bool.or_false,hwo,Bool.true_and]
 rw [hgo,hth]
 by_cases hc : e ∈ Qas o
 ·have hno:=chain_new h hn hc
  have g1 : goneE L e = false:=by
   cases hg : goneE L e
   ·rfl
   ·exact absurd (goneE_old h hg) hno
  have g2 : e ∉ o.f5:=fun hx => hno (gone_old h hn hx)
  rw [g1,Ze g2,Zd hc]
  cases thereE L e <;> rfl
 ·have ho : e ∈ ordL L:=by
   rcases (ord_snoc h hn e).1 he with h2 | h2
   ·exact h2
   ·exact absurd h2 hc
  have hs : decide (e ∈ Qak L) = !(goneE L e || !thereE L e):=by
   rw [Bool.eq_iff_iff,decide_eq_true_iff,seen_mem]
   cases goneE L e <;> cases thereE L e <;> simp [ho]
  rw [hs,Ze hc]
  cases goneE L e <;> cases thereE L e <;> cases decide (e ∈ o.f5) <;> rfl
theorem cut_here (v : List SElem) (hv : v.Nodup) (a n : Nat) : (v.take a).filter (fun e => !decide (e ∈ (v.drop a).take n)) = v.take a /\ (v.drop a).filter (fun e => !decide (e ∈ (v.drop a).take n)) = v.drop (a + n):=by
 have hs : v = v.take a ++ v.drop a:=(List.take_append_drop _ _).symm
 have hnd:=hv
 rw [hs] at hnd
 obtain ⟨_,n2,n3⟩:=List.nodup_append.1 hnd
 constructor
 ·rw [List.filter_eq_self]
  intro e he
  rw [Bool.not_eq_true',decide_eq_false_iff_not]
  exact fun hx => n3 e he e (List.mem_of_mem_take hx) rfl
 ·have hd : v.drop a = (v.drop a).take n ++ (v.drop a).drop n:=(List.take_append_drop _ _).symm
  have n4:=n2
  rw [hd] at n4
  obtain ⟨_,_,n5⟩:=List.nodup_append.1 n4
  have e1 : ((v.drop a).take n).filter (fun e => !decide (e ∈ (v.drop a).take n)) = []:=by
   rw [List.filter_eq_nil_iff]
   intro e he
   rw [Zd he]; decide
  have e2 : ((v.drop a).drop n).filter (fun e => !decide (e ∈ (v.drop a).take n)) = (v.drop a).drop n:=by
   rw [List.filter_eq_self]
   intro e he
   rw [Bool.not_eq_true',decide_eq_false_iff_not]
   exact fun hx => n5 e hx e he rfl
  have e3 : (v.drop a).filter (fun e => !decide (e ∈ (v.drop a).take n)) = ((v.drop a).take n).filter (fun e => !decide (e ∈ (v.drop a).take n)) ++ ((v.drop a).drop n).filter (fun e => !decide (e ∈ (v.drop a).take n)):=by
   rw [<- List.filter_append,<- hd]
  rw [e3,e1,e2,List.nil_append,List.drop_drop]
theorem seen_sub (L : List SOp) : (ordL L).filter (fun e => decide (e ∈ Qak L)) = Qak L:=by
 show _ = (ordL L).filter _
 refine List.filter_congr fun e he => ?_
 rw [Bool.eq_iff_iff,decide_eq_true_iff,seen_mem]
 cases goneE L e <;> cases thereE L e <;> simp [he]
theorem filter_two (X : List SElem) (L : List SOp) (o : SOp) (hx : ∀ e ∈ X,e ∉ Qas o) : X.filter (fun e => decide (e ∈ Qas o) || (decide (e ∈ Qak L) && !decide (e ∈ o.f5))) = (X.filter fun e => decide (e ∈ Qak L)).filter fun e => !decide (e ∈ o.f5):=by
 rw [List.filter_filter]
 refine List.filter_congr fun e he => ?_
 rw [Ze (hx e he),Bool.false_or,Bool.and_comm]
theorem ins_at {L : List SOp} {o : SOp} (h : RowOk L) (hn : NextOk L o) (h1 : o.f2 = 1) {a n : Nat} (ha : a <= (Qak L).length)
  (hg : ∀ e,e ∈ o.f5 ↔ e ∈ ((Qak L).drop a).take n) (hf : (Qao o.f3 = true /\ (a = 0 \/ Qas o = [])) \/ (Qao o.f3 = false /\ ∃ h0 : a - 1 < (Qak L).length,0 < a /\ o.f3 = (Qak L)[a - 1])) :
  Qak (L ++ [o]) = (Qak L).take a ++ Qas o ++ (Qak L).drop (a + n):=by
 have hv:=seen_nodup h
 obtain ⟨c1,c2⟩:=cut_here (Qak L) hv a n
 have hq : ∀ X : List SElem,X.filter (fun e => !decide (e ∈ o.f5)) = X.filter (fun e => !decide (e ∈ ((Qak L).drop a).take n)):=fun X => List.filter_congr fun e _ => by rw [decide_eq_decide.2 (hg e)]
 have hco : (Qas o).filter (fun e => decide (e ∈ Qas o) || (decide (e ∈ Qak L) && !decide (e ∈ o.f5))) = Qas o:=by
  rw [List.filter_eq_self]
  intro e he
  rw [Zd he]; rfl
 have hno : ∀ e ∈ ordL L,e ∉ Qas o:=fun e he hc => chain_new h hn hc he
 have hall : (Qak L).filter (fun e => !decide (e ∈ o.f5)) = (Qak L).take a ++ (Qak L).drop (a + n):=by
  have : (Qak L).filter (fun e => !decide (e ∈ o.f5)) = ((Qak L).take a).filter (fun e => !decide (e ∈ o.f5)) ++ ((Qak L).drop a).filter (fun e => !decide (e ∈ o.f5)):=by rw [<- List.filter_append,List.take_append_drop]
  rw [this,hq,hq,c1,c2]
 rw [ins_seen h hn h1]
 rcases insO_form h hn (Qbs h).1 with ⟨hb,e⟩ | ⟨hb,A,B,e1,hA,hB,e⟩
 ·rw [e,List.filter_append,hco,filter_two _ L o hno,seen_sub,hall]
  rcases hf with ⟨_,h0 | h0⟩ | ⟨hb',_⟩
  ·subst h0; simp
  ·rw [h0]; simp
  ·rw [hb] at hb'; cases hb'
 ·rcases hf with ⟨hb',_⟩ | ⟨_,h0,hpos,hx⟩
  ·rw [hb] at hb'; cases hb'
  ·have hms : o.f3 ∈ Qak L:=by rw [hx]; exact List.getElem_mem h0
   have hs : Qak L = A.filter (fun e => decide (e ∈ Qak L)) ++ o.f3 :: B.filter (fun e => decide (e ∈ Qak L)):=by
    have:=seen_sub L
    rw [e1,List.filter_append,List.filter_cons,if_pos (by rw [Zd hms])] at this
    exact this.symm
   have hlen : (A.filter (fun e => decide (e ∈ Qak L))).length = a - 1:=by
    have h3 : (A.filter (fun e => decide (e ∈ Qak L))).length < (Qak L).length:=by
     have:=congrArg List.length hs
     rw [List.length_append,List.length_cons] at this; omega
    have h4 : (Qak L)[(A.filter (fun e => decide (e ∈ Qak L))).length] = o.f3:=by
     have : (Qak L)[(A.filter (fun e => decide (e ∈ Qak L))).length]? = some o.f3:=by
      conv => lhs; arg 1; rw [hs]
      rw [List.getElem?_append_right (Nat.le_refl _),Nat.sub_self]; rfl
     rw [List.getElem?_eq_getElem h3] at this
     exact Zo this
    exact (List.getElem_inj hv).1 (h4.trans hx)
   have hta : (Qak L).take a = A.filter (fun e => decide (e ∈ Qak L)) ++ [o.f3]:=by
    conv => lhs; rw [hs]
    rw [List.take_append,hlen,List.take_of_length_le (by omega),show a - (a - 1) = 1 by omega]
    rfl
   have hda : (Qak L).drop a = B.filter (fun e => decide (e ∈ Qak L)):=by
    conv => lhs; rw [hs]
    rw [List.drop_append,hlen,List.drop_of_length_le (by omega),show a - (a - 1) = 1 by omega]
    rfl
   have n1 : o.f3 ∉ o.f5:=by
    intro hm
    have:=(hg o.f3).1 hm
    have h6:=List.filter_eq_self.1 c1 o.f3 (by rw [hta]; simp)
    rw [Zd this] at h6; cases h6
   have sA : ∀ e ∈ A,e ∉ Qas o:=fun e he => hno e (by rw [e1]; simp [he])
   have sB : ∀ e ∈ B,e ∉ Qas o:=fun e he => hno e (by rw [e1]; simp [he])
   have hF : (decide (o.f3 ∈ Qas o) || (decide (o.f3 ∈ Qak L) && !decide (o.f3 ∈ o.f5))) = true:=by rw [Zd hms,Ze n1]; cases decide (o.f3 ∈ Qas o) <;> rfl
   rw [e,List.filter_append,List.filter_cons,if_pos hF,List.filter_append,hco,filter_two A L o sA,filter_two B L o sB,<- hda,hq ((Qak L).drop a),c2]
   have hA2 : (A.filter fun e => decide (e ∈ Qak L)).filter (fun e => !decide (e ∈ o.f5)) = A.filter fun e => decide (e ∈ Qak L):=by
    rw [hq,List.filter_eq_self]
    intro e he
    exact List.filter_eq_self.1 c1 e (by rw [hta]; exact List.mem_append_left _ he)
   rw [hA2,hta]
   simp
end
section
theorem seen_good {L : List SOp} (h : RowOk L) {e : SElem} (he : e ∈ Qak L) : Qao e = false /\ Qcx e = true /\ wr L e /\ e.f1 <= (Qck L e.f0 : Int):=by
 obtain ⟨p,hp,e0,e1,e2,e3⟩:=(Qbx h e).1 (seen_mem.1 he).1
 have hk:=opOk_pos (h.oks p hp)
 have hz:=(Qcv (h.oks p hp)).1
 have hq:=mem_seq h p hp
 have hb : Qao e = false:=by
  have : (e.f0 == 0) = false:=by rw [beq_eq_false_iff_ne]; omega
  unfold Qao; rw [this]; rfl
 refine ⟨hb, ?_, .inr ⟨e2,p,hp,e0,e1,e3⟩,by rw [<- e0,<- e1]; exact hq⟩
 unfold Qcx nameOk
 rw [hb]
 simp only [Bool.false_or,Bool.and_eq_true,decide_eq_true_eq]
 exact ⟨⟨⟨⟨⟨by omega,by omega⟩,by omega⟩,by omega⟩,by omega⟩,by omega⟩
theorem repA_cases {L : List SOp} (a : Nat) (ha : a <= (Qak L).length) (t : ByteArray) : (repA L a t = ⟨0,0,0⟩ /\ (a = 0 \/ t.toList.isEmpty = true)) \/ ∃ h0 : a - 1 < (Qak L).length,0 < a /\ t.toList.isEmpty = false /\ repA L a t = (Qak L)[a - 1]:=by
 unfold repA
 by_cases h : 0 < a /\ t.toList.isEmpty = false
 ·rw [if_pos h]
  exact .inr ⟨by omega,h.1,h.2,Qar _ _ (by omega)⟩
 ·rw [if_neg h]
  refine .inl ⟨rfl, ?_⟩
  cases ht : t.toList.isEmpty
  ·rcases Nat.eq_zero_or_pos a with h0 | h0
   ·exact .inl h0
   ·exact absurd ⟨h0,ht⟩ h
  ·exact .inr rfl
theorem rep_seen {L : List SOp} {s : Int} {a n : Nat} {t : ByteArray} (h : RowOk L) (hn : NextOk L (repO L s a n t)) (ha : a + n <= (Qak L).length) : Qak (L ++ [repO L s a n t]) = (Qak L).take a ++ Qas (repO L s a n t) ++ (Qak L).drop (a + n):=by
 refine ins_at h hn rfl (by omega) (fun e => sort_mem _ e) ?_
 rcases repA_cases (L:=L) a (by omega) t with ⟨e,h0⟩ | ⟨h0,h1,h2,e⟩
 ·refine .inl ⟨by show Qao (repA L a t) = true; rw [e]; rfl,h0.imp id (fun h1 => ?_)⟩
  refine List.eq_nil_of_length_eq_zero ?_
  rw [chain_length]
  exact (runesOf_nil t).2 h1
 ·refine .inr ⟨?_,h0,h1,e⟩
  show Qao (repA L a t) = false
  rw [e]
  exact (seen_good h (List.getElem_mem h0)).1
end
section
theorem car_ins {L : List SOp} {s : Int} {k : Nat} {t : ByteArray} (h : RowOk L) (hn : NextOk L (repO L s k 0 t)) (hk : k <= (Qak L).length) {a : Nat} (ha : a < (Qak L).length) :
  (Qcz (L ++ [repO L s k 0 t]) (Qak L)[a]).length = if k < a + 1 then a + 1 + (Qaq t).length else a + 1:=by
 have hr:=RowOk.snoc h hn
 have hs:=rep_seen h hn (a:=k) (n:=0) (by omega)
 rw [Nat.add_zero] at hs
 have hcl : (Qas (repO L s k 0 t)).length = (Qaq t).length:=chain_length _
 have htk : ((Qak L).take k).length = k:=by rw [List.length_take]; omega
 have hlen : (Qak (L ++ [repO L s k 0 t])).length = (Qak L).length + (Qaq t).length:=by
  rw [hs,List.length_append,List.length_append,hcl,htk,List.length_drop]; omega
 by_cases hka : k < a + 1
 ·rw [if_pos hka]
  have hj : a + (Qaq t).length < (Qak (L ++ [repO L s k 0 t])).length:=by omega
  have he : (Qak (L ++ [repO L s k 0 t]))[a + (Qaq t).length] = (Qak L)[a]:=by
   have : (Qak (L ++ [repO L s k 0 t]))[a + (Qaq t).length]? = some (Qak L)[a]:=by
    rw [hs,List.getElem?_append_right (by rw [List.length_append,htk,hcl]; omega),List.length_append,htk,hcl,List.getElem?_drop,show k + (a + (Qaq t).length - (k + (Qaq t).length)) = a by omega,List.getElem?_eq_getElem ha]
   rw [List.getElem?_eq_getElem hj] at this
   exact Zo this
  rw [<- he,upto_at hr hj,List.length_take]
  omega
 ·rw [if_neg hka]
  have hj : a < (Qak (L ++ [repO L s k 0 t])).length:=by omega
  have he : (Qak (L ++ [repO L s k 0 t]))[a] = (Qak L)[a]:=by
   have : (Qak (L ++ [repO L s k 0 t]))[a]? = some (Qak L)[a]:=by
    rw [hs,List.append_assoc,List.getElem?_append_left (by rw [htk]; omega),List.getElem?_take,if_pos (by omega),List.getElem?_eq_getElem ha]
   rw [List.getElem?_eq_getElem hj] at this
   exact Zo this
  rw [<- he,upto_at hr hj,List.length_take]
  omega
end
section
theorem rep_gone {L : List SOp} (h : RowOk L) {s : Int} {a n : Nat} {t : ByteArray} (ha : a + n <= (Qak L).length) : (repO L s a n t).f5.Nodup /\ (repO L s a n t).f5.length = n /\ ∀ e ∈ (repO L s a n t).f5,e ∈ Qak L:=by
 have hnd : (((Qak L).drop a).take n).Nodup:=((seen_nodup h).sublist (List.drop_sublist _ _)).sublist (List.take_sublist _ _)
 refine ⟨(List.mergeSort_perm _ _).nodup_iff.2 hnd, ?_,fun e he => List.mem_of_mem_drop (List.mem_of_mem_take ((sort_mem _ e).1 he))⟩
 show (sortL _).length = n
 rw [sort_len,List.length_take,List.length_drop]; omega
structure Race (len n : Nat) (s : List SElem) (a b : SOp) : Prop where
 len : s.length + n = len + Qan a + Qan b
 nodup : s.Nodup
 fst : ∃ X Y,s = X ++ Qas a ++ Y
 snd : ∃ X Y,s = X ++ Qas b ++ Y
end
section
theorem doc_Plain_f {L : List SOp} (hs : smalls L = true) (h : RowOk L) : doc_Plain.f L = some (plainR L):=by unfold doc_Plain.f; exact if_pos ⟨hs,(Qbf L).2 h⟩
theorem doc_Text_ok {L : List SOp} (hs : smalls L = true) (h : RowOk L) : doc_Text.f L = some (plainR L,0):=by
 unfold doc_Text.f
 rw [Qco hs,(Qbf L).2 h,Option.bind_some,if_pos rfl,doc_Plain_f hs h]; rfl
theorem doc_Text_no {L : List SOp} (hs : smalls L = true) (hm : mayB L = false) : doc_Text.f L = some ((⟨#[]⟩ : ByteArray),1):=by
 unfold doc_Text.f
 rw [Qco hs,hm]; rfl
end
section
theorem wakes11_ev : Ev (fun k => w11_wakes.f k) true:=Ev.of (w11_wakes.mono) (k:=9) (by decide +kernel)
theorem num11_f (a : Int) : w11_num.f a = some a:=rfl
theorem text_uv : (⟨#[117,118]⟩ : ByteArray).size <= 1000000 /\ (Qaq (⟨#[117,118]⟩ : ByteArray)).length = 2:=⟨by decide +kernel,by decide +kernel⟩
theorem place_ahead {L : List SOp} (hs : smalls L = true) (h : RowOk L) {a : Nat} (ha : a <= (Qak L).length) : caret_Place.f L (Qbo L a).f0 (Qbo L a).f1 (Qbo L a).f2 = some ((a : Int),0):=by
 rw [Place_ok hs h]
 unfold Qbo
 by_cases h0 : a = 0
 ·subst h0
  rw [if_pos rfl,if_pos (show (Qao ⟨0,0,0⟩ || Qcn L ⟨0,0,0⟩) = true from rfl),upto_none (begin_not h rfl)]
  rfl
 ·have hi : a - 1 < (Qak L).length:=by omega
  have hm : (Qak L)[a - 1] ∈ ordL L:=(seen_mem.1 (List.getElem_mem hi)).1
  rw [if_neg h0,Qar _ _ hi,if_pos (by rw [(mem_written h _).2 hm,Bool.or_true]),upto_at h hi,List.length_take,show min (a - 1 + 1) (Qak L).length = a by omega]
theorem place_behind {L : List SOp} (h : RowOk L) {s : Int} {q : Nat} {t : ByteArray} (hn : NextOk L (repO L s q 0 t)) (hq : q <= (Qak L).length) (hs : smalls (L ++ [repO L s q 0 t]) = true) {a : Nat} (ha : a <= (Qak L).length) :
  caret_Place.f (L ++ [repO L s q 0 t]) (Qbo L a).f0 (Qbo L a).f1 (Qbo L a).f2 = some (((if q < a then a + (Qaq t).length else a : Nat) : Int),0):=by
 have hr:=RowOk.snoc h hn
 rw [Place_ok hs hr]
 unfold Qbo
 by_cases h0 : a = 0
 ·subst h0
  rw [if_pos rfl,if_pos (show (Qao ⟨0,0,0⟩ || Qcn _ ⟨0,0,0⟩) = true from rfl),upto_none (begin_not hr rfl),if_neg (Nat.not_lt_zero _)]
  rfl
 ·have hi : a - 1 < (Qak L).length:=by omega
  have hm : (Qak L)[a - 1] ∈ ordL (L ++ [repO L s q 0 t]):=(ord_snoc h hn _).2 (.inl (seen_mem.1 (List.getElem_mem hi)).1)
  rw [if_neg h0,Qar _ _ hi,if_pos (by rw [(mem_written hr _).2 hm,Bool.or_true]),car_ins h hn hq hi,show a - 1 + 1 = a by omega]
section
variable {l0 : List (List SOp)} {l1 : List SElem} {l2 : List SOp} {l3 : List Int}
theorem CS_l3 (x3 : Int) {L : List SOp} (hs : smalls L = true) (h : RowOk L) (es : List SElem) (hes : es.length <= 1100) (hnext : Ev (fun k => w11_CaretStays.l0 k (wrap64 (x3 + 1)) l0 l1 l2 l3) true) :
  ∀ d q,q + d = es.length -> Ev (fun k => w11_CaretStays.l3 k x3 L es (q : Int) l0 l1 l2 l3) true
 | 0,q,hq => Ev.step (fun k => by simp only [w11_CaretStays.l3]; rw [if_neg (by omega)]) hnext
 | d + 1,q,hq => by
  have ih:=CS_l3 x3 hs h es hes hnext d (q + 1) (by omega)
  have q0 : (0 : Int) <= (q : Int):=by omega
  have q1 : (q : Int) < (es.length : Int):=by omega
  have hw : wrap64 ((q : Int) + 1) = ((q + 1 : Nat) : Int):=wrapS (show q < es.length by omega) (by omega)
  rw [<- hw] at ih
  generalize he : Qac es (q : Int) = e
  have hP:=Place_ok hs h e
  have hN:=Near_ok hs h e
  cases hb : (Qao e || Qcn L e)
  ·rw [hb] at hP
   refine Ev.step (fun k => ?_) ih
   simp only [w11_CaretStays.l3]
   rw [if_pos q1,if_pos q0,he,hP,if_neg (by decide),Option.bind_some,num11_f,Option.bind_some,if_neg (by decide)]
  ·rw [hb] at hP hN
   have hA : nearR L e = Qbo L (Qcz L e).length:=rfl
   have hQ:=place_ahead hs h (upto_len h e)
   rw [<- hA] at hQ
   refine Ev.step (f:=fun k => w11_CaretStays.j9 k x3 L es (q : Int) false l0 l1 l2 l3) (fun k => ?_) (Ev.step (fun k => by simp only [w11_CaretStays.j9]; rw [if_neg (by decide)]) ih)
   simp only [w11_CaretStays.l3]
   rw [if_pos q1,if_pos q0,he,hP,if_pos rfl,Option.bind_some,num11_f,Option.bind_some,if_pos rfl,hN,if_pos rfl,Option.bind_some]
   simp only [num11_f,hQ,Option.bind_some,if_true,bne_self_eq_false]
theorem CS_l2 {i : Nat} (hi : i < 4) {L : List SOp} (ht : Tiny L) (h : RowOk L) (rs : List Int) (hrs : rs.length = (Qak L).length) {a : Nat} (ha : a <= (Qak L).length) (hnext : Ev (fun k => w11_CaretStays.l1 k (i : Int) L rs (wrap64 ((a : Int) + 1)) l0 l1 l2 l3) true) :
  ∀ (d q : Nat),21 <= q + d -> Ev (fun k => w11_CaretStays.l2 k (i : Int) L rs (a : Int) (q : Int) l0 l1 l2 l3 (Qbo L a).f0 (Qbo L a).f1 (Qbo L a).f2) true:=by
 have h40:=h.sums.1
 have h200:=seen_len h
 have hs:=ht.smalls (by omega)
 have hout : ∀ q : Int,Ev (fun k => w11_CaretStays.j6 k (i : Int) L rs (a : Int) q false l0 l1 l2 l3 (Qbo L a).f0 (Qbo L a).f1 (Qbo L a).f2) true:=fun q =>
  Ev.step (fun k => by simp only [w11_CaretStays.j6]; rw [if_neg (by decide)]) hnext
 intro d
 induction d with
 | zero =>
  intro q hq
  by_cases hle : (q : Int) <= (rs.length : Int)
  ·refine Ev.step (fun k => ?_) (hout q)
   simp only [w11_CaretStays.l2]
   rw [if_pos hle,Ze (by omega)]
  ·refine Ev.step (fun k => ?_) (hout q)
   simp only [w11_CaretStays.l2]
   rw [if_neg hle]
 | succ d ih =>
  intro q hq
  have ih:=ih (q + 1 + i) (by omega)
  by_cases hle : (q : Int) <= (rs.length : Int)
  ·by_cases h20 : (q : Int) < 20
   ·have hw : wrap64 ((wrap64 ((q : Int) + 1)) + (i : Int)) = ((q + 1 + i : Nat) : Int):=by
     rw [Qaj (i:=(q : Int) + 1) (by omega) (by omega),Qaj (by omega) (by omega)]; omega
    rw [<- hw] at ih
    refine Ev.step (f:=fun k => w11_CaretStays.j6 k (i : Int) L rs (a : Int) (q : Int) true l0 l1 l2 l3 (Qbo L a).f0 (Qbo L a).f1 (Qbo L a).f2) (fun k => ?_) ?_
    ·simp only [w11_CaretStays.l2]
     rw [if_pos hle,Zd h20]
    ·have hw2 : wrap64 ((a : Int) + 2) = ((a + 2 : Nat) : Int):=by rw [Qaj (by omega) (by omega)]; omega
     have hql : q <= (Qak L).length:=by omega
     have hL1 : L.length + 1 <= 1000:=by omega
     have hL2 : L.length + 1 < 1256584717458:=by omega
     generalize hsite : wrap64 (1 + (Int.tmod (q : Int) 3)) = s
     obtain ⟨o,c,hv⟩ : ∃ o c,repV L s (q : Int) 0 ⟨#[117,118]⟩ = (o,c):=⟨_,_,rfl⟩
     have hf:=ins_f hs s (q : Int) text_uv.1 hv
     by_cases hc : c = 0
     ·subst hc
      obtain ⟨_,hm,ho,_⟩:=repV_ok hv
      rw [Int.toNat_natCast] at hm ho
      have hm : mayB (L ++ [repO L s q 0 ⟨#[117,118]⟩]) = true:=hm
      have ho : o = repO L s q 0 ⟨#[117,118]⟩:=ho
      have hrow:=(Qbf _).1 hm
      have hn:=hrow.snoc_inv.2
      have hg:=rep_gone h (s:=s) (a:=q) (n:=0) (t:=(⟨#[117,118]⟩ : ByteArray)) hql
      have tO : tiny o:=by rw [ho]; exact ⟨show (⟨#[117,118]⟩ : ByteArray).size <= 4000 by decide +kernel,by rw [hg.2.1]; exact Nat.zero_le _⟩
      have hso:=(ht.snoc tO).smalls (by rw [List.length_append,List.length_singleton]; exact hL1)
      rw [ho] at hso
      have hp:=place_behind h hn hql hso ha
      rw [text_uv.2,<- ho] at hp
      have hlen : L.length + ([(⟨o.f0,o.f1,o.f2,⟨o.f3.f0,o.f3.f1,o.f3.f2⟩,o.f4,o.f5,o.f6,o.f7,o.f8⟩ : SOp)] : List SOp).length < 1256584717458:=by rw [List.length_singleton]; exact hL2
      have h7 : ∀ z : Int,Ev (fun k => w11_CaretStays.j7 k (i : Int) L rs (a : Int) (q : Int) z 0 z l0 l1 l2 l3 (Qbo L a).f0 (Qbo L a).f1 (Qbo L a).f2) true:=fun z => by
       refine Ev.step (fun k => ?_) ih
       simp only [w11_CaretStays.j7,num11_f,Option.bind_some,if_true]
      refine Ev.step (fun k => by simp only [w11_CaretStays.j6]; rw [if_pos True.intro,hsite,hf,Option.bind_some,num11_f,Option.bind_some,if_pos rfl]) (Ev.bind (CopyOps_ev L (by omega) (fun o ho => by have:=(ht o ho).2; omega)) ?_)
      by_cases hqa : q < a
      ·rw [if_pos hqa] at hp
       refine Ev.congr (fun k => ?_) (h7 ((a + 2 : Nat) : Int))
       simp only [Option.bind_some]
       rw [if_pos hlen,hp,Option.bind_some,if_pos (Int.ofNat_lt.2 hqa),hw2]
      ·rw [if_neg hqa] at hp
       refine Ev.congr (fun k => ?_) (h7 (a : Int))
       simp only [Option.bind_some]
       rw [if_pos hlen,hp,Option.bind_some,if_neg (fun hh => hqa (Int.ofNat_lt.1 hh))]
     ·refine Ev.step (fun k => ?_) ih
      simp only [w11_CaretStays.j6]
      rw [if_pos True.intro,hsite,hf,Option.bind_some,num11_f,Option.bind_some,if_neg hc]
   ·refine Ev.step (fun k => ?_) (hout q)
    simp only [w11_CaretStays.l2]
    rw [if_pos hle,Ze h20]
  ·refine Ev.step (fun k => ?_) (hout q)
   simp only [w11_CaretStays.l2]
   rw [if_neg hle]
theorem CS_l1 {i : Nat} (hi : i < 4) (hn1 : l1.length <= 900) {L : List SOp} (ht : Tiny L) (h : RowOk L) (rs : List Int) (hrs : rs.length = (Qak L).length) (hnext : Ev (fun k => w11_CaretStays.l0 k (wrap64 ((i : Int) + 1)) l0 l1 l2 l3) true) :
  ∀ (d a : Nat),20 <= a + d -> Ev (fun k => w11_CaretStays.l1 k (i : Int) L rs (a : Int) l0 l1 l2 l3) true:=by
 have h40:=h.sums.1
 have h200:=seen_len h
 have hs:=ht.smalls (by omega)
 have hout : ∀ a : Int,Ev (fun k => w11_CaretStays.j3 k (i : Int) L rs a false l0 l1 l2 l3) true:=fun a => by
  obtain ⟨es,h1,h2⟩:=ElemsT_some l0 l1 l2 l3 hn1 L (by omega)
  refine Ev.step (fun k => by simp only [w11_CaretStays.j3]; rw [if_neg (by decide)]) (Ev.bind h1 ?_)
  exact CS_l3 (i : Int) hs h es h2 hnext _ 0 (Nat.zero_add _)
 intro d
 induction d with
 | zero =>
  intro a hq
  by_cases hle : (a : Int) <= (rs.length : Int)
  ·refine Ev.step (fun k => ?_) (hout a)
   simp only [w11_CaretStays.l1]
   rw [if_pos hle,Ze (by omega)]
  ·refine Ev.step (fun k => ?_) (hout a)
   simp only [w11_CaretStays.l1]
   rw [if_neg hle]
 | succ d ih =>
  intro a hq
  have ih:=ih (a + 1) (by omega)
  by_cases hle : (a : Int) <= (rs.length : Int)
  ·by_cases h20 : (a : Int) < 20
   ·have hw : wrap64 ((a : Int) + 1) = ((a + 1 : Nat) : Int):=by rw [Qaj (by omega) (by omega)]; omega
    rw [<- hw] at ih
    have ha : a <= (Qak L).length:=by omega
    have hP:=place_ahead hs h ha
    have hl2:=CS_l2 hi ht h rs hrs ha ih 21 0 (by omega)
    refine Ev.step (f:=fun k => w11_CaretStays.j3 k (i : Int) L rs (a : Int) true l0 l1 l2 l3) (fun k => ?_) ?_
    ·simp only [w11_CaretStays.l1]
     rw [if_pos hle,Zd h20]
    ·refine Ev.step (fun k => by simp only [w11_CaretStays.j3]; rw [if_pos True.intro]) (Ev.bind (Set_ok hs h ha) ?_)
     simp only [hP,num11_f,Option.bind_some,if_true,bne_self_eq_false]
     refine Ev.step (fun k => ?_) hl2
     simp only [w11_CaretStays.j4]
     rw [if_neg (by decide)]
     rfl
   ·refine Ev.step (fun k => ?_) (hout a)
    simp only [w11_CaretStays.l1]
    rw [if_pos hle,Ze h20]
  ·refine Ev.step (fun k => ?_) (hout a)
   simp only [w11_CaretStays.l1]
   rw [if_neg hle]
theorem CS_end (x : Int) : Ev (fun k => w11_CaretStays.j1 k x false l0 l1 l2 l3) true :=
 Ev.step (fun k => by simp only [w11_CaretStays.j1]; rw [if_neg (by decide)]) (Ev.bind (f:=fun _ t => some t) wakes11_ev (Ev.now _))
theorem CS_l0 (hg : GoodAsk l0 l1 l2 l3) (hsm : ∀ x ∈ l0,x.length <= 900 /\ Tiny x) (hn1 : l1.length <= 900) : ∀ d i,i + d = l0.length -> Ev (fun k => w11_CaretStays.l0 k (i : Int) l0 l1 l2 l3) true
 | 0,i,h => by
  refine Ev.step (fun k => ?_) (CS_end (l0:=l0) (l1:=l1) (l2:=l2) (l3:=l3) (i : Int))
  simp only [w11_CaretStays.l0]; rw [if_neg (by omega)]
 | d + 1,i,h => by
  have ih:=CS_l0 hg hsm hn1 d (i + 1) (by omega)
  have hn0:=hg.n0
  have hlt : i < l0.length:=by omega
  have hw : wrap64 ((i : Int) + 1) = ((i + 1 : Nat) : Int):=wrapS hlt (by omega)
  rw [<- hw] at ih
  by_cases h4 : (i : Int) < 4
  ·obtain ⟨hn,ht⟩:=hsm _ (List.getElem_mem hlt)
   have hs:=ht.smalls (by omega)
   refine Ev.step (f:=fun k => w11_CaretStays.j1 k (i : Int) true l0 l1 l2 l3) (fun k => ?_) ?_
   ·simp only [w11_CaretStays.l0]; rw [if_pos (by omega),Zd h4]
   ·cases hm : mayB l0[i]
    ·refine Ev.step (fun k => ?_) ih
     simp only [w11_CaretStays.j1]
     rw [if_pos True.intro,if_pos (by omega),if_pos (by omega),rd_LOp_nat _ _ hlt,doc_Text_no hs hm,Option.bind_some,num11_f,Option.bind_some,if_neg (by decide)]
    ·have hr:=(Qbf _).1 hm
     have hR:=Runes_ev (plainR l0[i]) (by have:=plain_size hr; omega)
     rw [if_pos (text_plain hr)] at hR
     refine Ev.step (fun k => by simp only [w11_CaretStays.j1]; rw [if_pos True.intro,if_pos (by omega),if_pos (by omega),rd_LOp_nat _ _ hlt,doc_Text_ok hs hr,Option.bind_some,num11_f,Option.bind_some,if_pos rfl]) (Ev.bind hR ?_)
     exact CS_l1 (i:=i) (by omega) hn1 ht hr _ (by rw [runes_plain hr,List.length_map]) ih 20 0 (by omega)
  ·refine Ev.step (fun k => ?_) (CS_end (l0:=l0) (l1:=l1) (l2:=l2) (l3:=l3) (i : Int))
   simp only [w11_CaretStays.l0]; rw [if_pos (by omega),Ze h4]
end
theorem PureCaretStays (l0 : List (List SOp)) (l1 : List SElem) (l2 : List SOp) (l3 : List Int) (hg : GoodAsk l0 l1 l2 l3) : ∃ k,w11_CaretStays.f k l0 l1 l2 l3 = some true:=by
 obtain ⟨b,hb,hsm⟩:=Heavy_small2 hg
 refine Ev.rounds (Ev.bind (f:=fun k t => if t = true then some true else w11_CaretStays.l0 k 0 l0 l1 l2 l3) hb ?_)
 cases b
 ·obtain ⟨k1,k2,k3,_⟩:=hsm rfl
  exact Ev.congr (fun k => if_neg (by decide)) (CS_l0 hg k1 k2 _ 0 (Nat.zero_add _))
 ·exact Ev.congr (fun k => if_pos rfl) (Ev.now true)
end
end Go.Proofs.YtlllghajjamdpaaGreatDoor.L
end
