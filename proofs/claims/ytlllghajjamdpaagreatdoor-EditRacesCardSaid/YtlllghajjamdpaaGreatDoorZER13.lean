/- Part 13 of the proof that for every argument the law EditRaces answers true: edits that two sites make of the same row, ordered one behind the other either way, leave what each wrote whole, side by side, and take away what each took -/
import Derived.Test.YtlllghajjamdpaaGreatDoorZER12
import Derived.Lib.RuneCountTail
section
namespace Go.Proofs.YtlllghajjamdpaaGreatDoor.L
open Go.RowKit Go.Proofs.YtlllghajjamdpaaGreatDoorW.PrintWords Go.Proofs.YtlllghajjamdpaaGreatDoorW.PrintLast Go.Proofs.YtlllghajjamdpaaGreatDoorW.PrintMore
set_option linter.unusedVariables false
set_option linter.unusedSimpArgs false
set_option maxHeartbeats 40000000
set_option maxRecDepth 1000000
section
theorem chain_new {L : List SOp} {o : SOp} (h : RowOk L) (hn : NextOk L o) {e : SElem} (he : e ∈ Qan o) : e ∉ ordL L:=by
 intro hm
 obtain ⟨p,hp,e0,e1,_⟩:=(Qcm h e).1 hm
 have hc:=(mem_chain o e).1 he
 exact hn.fresh h p hp ⟨by omega,by omega⟩
theorem wr_ord {L : List SOp} (h : RowOk L) {e : SElem} (hw : wr L e) (hb : Qaq e = false) : e ∈ ordL L:=by
 rcases hw with h1 | ⟨h0,p,hp,k0,k1,k2⟩
 ·rw [hb] at h1; cases h1
 ·exact (Qcm h _).2 ⟨p,hp,k0,k1,h0,k2⟩
theorem gone_old {L : List SOp} {o : SOp} (h : RowOk L) (hn : NextOk L o) {e : SElem} (he : e ∈ o.f5) : e ∈ ordL L:=wr_ord h (hn.gone e he) (opOk_goneMem hn.ok e he).1
theorem goneE_old {L : List SOp} (h : RowOk L) {e : SElem} (hg : goneE L e = true) : e ∈ ordL L:=by
 unfold goneE at hg
 rw [List.any_eq_true] at hg
 obtain ⟨p,hp,hq⟩:=hg
 rw [Bool.and_eq_true,decide_eq_true_iff] at hq
 obtain ⟨i,hi,rfl⟩:=List.getElem_of_mem hp
 obtain ⟨hn,hr⟩:=Qdn h i hi
 have hm:=gone_old hr hn hq.2
 obtain ⟨q,hq,k⟩:=(Qcm hr e).1 hm
 exact (Qcm h e).2 ⟨q,List.mem_of_mem_take hq,k⟩
theorem ord_snoc {L : List SOp} {o : SOp} (h : RowOk L) (hn : NextOk L o) (e : SElem) : e ∈ ordL (L ++ [o]) ↔ e ∈ ordL L \/ e ∈ Qan o:=by
 rw [Qcm (.snoc h hn),Qcm h,mem_chain]
 constructor
 ·rintro ⟨p,hp,k⟩
  rcases List.mem_append.1 hp with hp | hp
  ·exact .inl ⟨p,hp,k⟩
  ·rw [List.mem_singleton] at hp; subst hp; exact .inr k
 ·rintro (⟨p,hp,k⟩ | k)
  ·exact ⟨p,List.mem_append_left _ hp,k⟩
  ·exact ⟨o,List.mem_append_right _ (List.mem_singleton.2 rfl),k⟩
theorem new_works {L : List SOp} {o : SOp} (h : RowOk L) (hn : NextOk L o) (h1 : o.f2 = 1) : Qbo (L ++ [o]) o = true:=by
 unfold Qbo
 rw [cnt_other (by omega),cnt_fresh h (hn.fresh h),h1]; rfl
theorem ins_seen {L : List SOp} {o : SOp} (h : RowOk L) (hn : NextOk L o) (h1 : o.f2 = 1) : Qau (L ++ [o]) = (ordL (L ++ [o])).filter fun e => decide (e ∈ Qan o) || (decide (e ∈ Qau L) && !decide (e ∈ o.f5)):=by
 have hw : ∀ p,Qbo (L ++ [o]) p = Qbo L p:=fun p => workE_cnt (cnt_other (by omega) _ _)
 have hwo:=new_works h hn h1
 show (ordL (L ++ [o])).filter _ = _
 refine List.filter_congr fun e he => ?_
 have hgo : goneE (L ++ [o]) e = (goneE L e || decide (e ∈ o.f5)):=by
  unfold goneE
  rw [List.any_append,any_same L _ (fun p => Qbo L p && decide (e ∈ p.f5)) (fun p _ => by rw [hw])]
  congr 1
  rw [List.any_cons,List.any_nil,Bool.or_false,hwo,Bool.true_and]
 have hth : thereE (L ++ [o]) e = (thereE L e || decide (e ∈ Qan o)):=by
  unfold thereE
  rw [List.any_append,any_same L _ (fun p => Qbo L p && decide (e ∈ Qan p)) (fun p _ => by rw [hw])]
  congr 1
  rw [List.any_cons,List.any_nil,Bool.or_false,hwo,Bool.true_and]
 rw [hgo,hth]
 by_cases hc : e ∈ Qan o
 ·have hno:=chain_new h hn hc
  have g1 : goneE L e = false:=by
   cases hg : goneE L e
   ·rfl
   ·exact absurd (goneE_old h hg) hno
  have g2 : e ∉ o.f5:=fun hx => hno (gone_old h hn hx)
  rw [g1,Ze g2,Zd hc]
  cases thereE L e <;> rfl
 ·have ho : e ∈ ordL L:=by
   rcases (ord_snoc h hn e).1 he with h2 | h2
   ·exact h2
   ·exact absurd h2 hc
  have hs : decide (e ∈ Qau L) = !(goneE L e || !thereE L e):=by
   rw [Bool.eq_iff_iff,decide_eq_true_iff,seen_mem]
   cases goneE L e <;> cases thereE L e <;> simp [ho]
  rw [hs,Ze hc]
  cases goneE L e <;> cases thereE L e <;> cases decide (e ∈ o.f5) <;> rfl
theorem seen_sub (L : List SOp) : (ordL L).filter (fun e => decide (e ∈ Qau L)) = Qau L:=by
 show _ = (ordL L).filter _
 refine List.filter_congr fun e he => ?_
 rw [Bool.eq_iff_iff,decide_eq_true_iff,seen_mem]
 cases goneE L e <;> cases thereE L e <;> simp [he]
theorem filter_two (X : List SElem) (L : List SOp) (o : SOp) (hx : ∀ e ∈ X,e ∉ Qan o) : X.filter (fun e => decide (e ∈ Qan o) || (decide (e ∈ Qau L) && !decide (e ∈ o.f5))) = (X.filter fun e => decide (e ∈ Qau L)).filter fun e => !decide (e ∈ o.f5):=by
 rw [List.filter_filter]
 refine List.filter_congr fun e he => ?_
 rw [Ze (hx e he),Bool.false_or,Bool.and_comm]
end
section
def keepF (L : List SOp) (o : SOp) (e : SElem) : Bool:=decide (e ∈ Qan o) || (decide (e ∈ Qau L) && !decide (e ∈ o.f5))
theorem ins_seen' {L : List SOp} {o : SOp} (h : RowOk L) (hn : NextOk L o) (h1 : o.f2 = 1) : Qau (L ++ [o]) = (ordL (L ++ [o])).filter (keepF L o):=ins_seen h hn h1
theorem keep_chain {L : List SOp} {o : SOp} : (Qan o).filter (keepF L o) = Qan o:=by
 rw [List.filter_eq_self]
 intro e he
 unfold keepF
 rw [Zd he]; rfl
theorem ord_cut {L : List SOp} {o : SOp} (h : RowOk L) (hn : NextOk L o) : ∃ A B,ordL L = A ++ B /\ ordL (L ++ [o]) = A ++ Qan o ++ B /\ (A = [] \/ ∃ A',A = A' ++ [o.f3]):=by
 rcases insO_form h hn (Qda h).1 with ⟨_,e⟩ | ⟨_,A,B,e1,_,_,e⟩
 ·exact ⟨[],ordL L,rfl,by rw [e]; rfl, .inl rfl⟩
 ·exact ⟨A ++ [o.f3],B,by rw [e1]; simp,by rw [e]; simp, .inr ⟨A,rfl⟩⟩
theorem block_own {L : List SOp} {o : SOp} (h : RowOk L) (hn : NextOk L o) (h1 : o.f2 = 1) : ∃ X Y,Qau (L ++ [o]) = X ++ Qan o ++ Y:=by
 obtain ⟨A,B,_,e,_⟩:=ord_cut h hn
 rw [ins_seen' h hn h1,e,List.filter_append,List.filter_append,keep_chain]
 exact ⟨_,_,rfl⟩
theorem whole_list {α : Type} {A B C D P Q : List α} (h : A ++ B = P ++ C ++ Q) (hl : A = [] \/ ∃ A' x,A = A' ++ [x] /\ x ∉ C) : ∃ X Y,A ++ D ++ B = X ++ C ++ Y:=by
 rw [List.append_assoc] at h
 rcases List.append_eq_append_iff.1 h with ⟨t,e1,e2⟩ | ⟨t,e1,e2⟩
 ·exact ⟨A ++ D ++ t,Q,by rw [e2]; simp⟩
 ·rcases List.append_eq_append_iff.1 e2 with ⟨u,f1,f2⟩ | ⟨u,f1,f2⟩
  ·exact ⟨P,u ++ D ++ B,by rw [e1,f1]; simp⟩
  ·rcases List.eq_nil_or_concat t with ht | ⟨t',x,ht⟩
   ·subst ht
    rw [List.append_nil] at e1
    rw [List.nil_append] at f1
    exact ⟨P ++ D,Q,by rw [e1,f2,<- f1]; simp⟩
   ·exfalso
    rw [List.concat_eq_append] at ht
    rcases hl with hl | ⟨A',y,hl,hy⟩
    ·rw [hl,ht] at e1; simp at e1
    ·have : y = x:=by
      have h3 : A' ++ [y] = (P ++ t') ++ [x]:=by rw [<- hl,e1,ht]; simp
      exact (List.append_inj' h3 rfl).2 |> fun q => by simpa using q
     refine hy ?_
     rw [f1,ht,this]
     simp
theorem block_first {L : List SOp} {p q : SOp} (h : RowOk L) (hp : NextOk L p) (hq : NextOk (L ++ [p]) q) (p1 : p.f2 = 1) (q1 : q.f2 = 1) (h3 : q.f3 ∉ Qan p) (h5 : ∀ e ∈ q.f5,e ∉ Qan p) : ∃ X Y,Qau (L ++ [p] ++ [q]) = X ++ Qan p ++ Y:=by
 have hr:=RowOk.snoc h hp
 obtain ⟨A1,B1,_,e1,_⟩:=ord_cut h hp
 obtain ⟨A2,B2,e2,e3,e4⟩:=ord_cut hr hq
 have hw : ∃ X Y,A2 ++ Qan q ++ B2 = X ++ Qan p ++ Y:=by
  refine whole_list (P:=A1) (Q:=B1) (by rw [<- e2,e1]) ?_
  rcases e4 with e4 | ⟨A',e4⟩
  ·exact .inl e4
  ·exact .inr ⟨A',_,e4,h3⟩
 obtain ⟨X,Y,hXY⟩:=hw
 have hk : (Qan p).filter (keepF (L ++ [p]) q) = Qan p:=by
  rw [List.filter_eq_self]
  intro e he
  obtain ⟨U,V,hs⟩:=block_own h hp p1
  have hm : e ∈ Qau (L ++ [p]):=by rw [hs]; simp [he]
  unfold keepF
  rw [Zd hm,Ze (fun h => h5 e h he)]
  cases decide (e ∈ Qan q) <;> rfl
 rw [ins_seen' hr hq q1,e3,hXY,List.filter_append,List.filter_append,hk]
 exact ⟨_,_,rfl⟩
theorem filter_both (p : SElem -> Bool) : ∀ l : List SElem,(l.filter p).length + (l.filter fun e => !p e).length = l.length
 | [] => rfl
 | x :: l => by
  have ih:=filter_both p l
  rw [List.filter_cons,List.filter_cons]
  cases p x
  ·simp only [Bool.false_eq_true,if_false,Bool.not_false,if_true,List.length_cons]; omega
  ·simp only [Bool.not_true,Bool.false_eq_true,if_false,if_true,List.length_cons]; omega
theorem notin_len {l g : List SElem} (hl : l.Nodup) (hg : g.Nodup) (h : ∀ e ∈ g,e ∈ l) : (l.filter fun e => !decide (e ∈ g)).length + g.length = l.length:=by
 have hp : (l.filter fun e => decide (e ∈ g)).Perm g:=(List.perm_ext_iff_of_nodup (hl.filter _) hg).2 fun e => by
  rw [List.mem_filter,decide_eq_true_iff]
  exact ⟨fun h => h.2,fun he => ⟨h e he,he⟩⟩
 have h1:=hp.length_eq
 have h2:=filter_both (fun e => decide (e ∈ g)) l
 omega
theorem ins_len {L : List SOp} {o : SOp} (h : RowOk L) (hn : NextOk L o) (h1 : o.f2 = 1) (hg : o.f5.Nodup) (hs : ∀ e ∈ o.f5,e ∈ Qau L) : (Qau (L ++ [o])).length + o.f5.length = (Qau L).length + Qaj o:=by
 obtain ⟨A,B,e1,e2,_⟩:=ord_cut h hn
 have hno : ∀ e ∈ ordL L,e ∉ Qan o:=fun e he hc => chain_new h hn hc he
 have h3 : (ordL L).filter (keepF L o) = (Qau L).filter fun e => !decide (e ∈ o.f5):=by
  have:=filter_two (ordL L) L o hno
  rw [seen_sub] at this
  exact this
 have h4:=notin_len (seen_nodup h) hg hs
 have h5 : (Qau (L ++ [o])).length = (Qan o).length + ((ordL L).filter (keepF L o)).length:=by
  rw [ins_seen' h hn h1,e2,List.filter_append,List.filter_append,keep_chain,e1,List.filter_append,List.length_append,List.length_append,List.length_append]
  omega
 rw [h5,h3,Qcf]
 omega
end
section
theorem sort_mem (l : List SElem) (e : SElem) : e ∈ sortL l ↔ e ∈ l:=(List.mergeSort_perm l _).mem_iff
end
section
theorem repA_cases {L : List SOp} (a : Nat) (ha : a <= (Qau L).length) (t : ByteArray) : (repA L a t = ⟨0,0,0⟩ /\ (a = 0 \/ t.toList.isEmpty = true)) \/ ∃ h0 : a - 1 < (Qau L).length,0 < a /\ t.toList.isEmpty = false /\ repA L a t = (Qau L)[a - 1]:=by
 unfold repA
 by_cases h : 0 < a /\ t.toList.isEmpty = false
 ·rw [if_pos h]
  exact .inr ⟨by omega,h.1,h.2,Qat _ _ (by omega)⟩
 ·rw [if_neg h]
  refine .inl ⟨rfl, ?_⟩
  cases ht : t.toList.isEmpty
  ·rcases Nat.eq_zero_or_pos a with h0 | h0
   ·exact .inl h0
   ·exact absurd ⟨h0,ht⟩ h
  ·exact .inr rfl
end
section
def idxE (l : List SElem) (e : SElem) : Int:=Qbg (fun i => decide (Qaa l (i : Int) = e)) l.length l.length 0
theorem eqE_iff (x : SElem) (a b c : Int) : (x.f0 == a && (x.f1 == b && (x.f2 == c))) = decide (x = ⟨a,b,c⟩):=by
 rw [Bool.eq_iff_iff]
 simp only [Bool.and_eq_true,beq_iff_eq,decide_eq_true_eq]
 exact ⟨fun h => SElem.ext3 h.1 h.2.1 h.2.2,fun h => by subst h; exact ⟨rfl,rfl,rfl⟩⟩
theorem At_loop (l : List SElem) (hl : l.length <= 1000000000) (a b c : Int) : ∀ d i,i + d = l.length -> Ev (fun k => r0_At.l0 k l (i : Int) a b c) (Qbg (fun i => decide (Qaa l (i : Int) = ⟨a,b,c⟩)) l.length d i)
 | 0,i,h => Ev.step (f:=fun _ => some (-1)) (fun k => by simp only [r0_At.l0]; rw [if_neg (by omega)]) (Ev.now _)
 | d + 1,i,h => by
  have ih:=At_loop l hl a b c d (i + 1) (by omega)
  unfold Qbg
  rw [if_pos (show i < l.length by omega)]
  by_cases he : Qaa l (i : Int) = ⟨a,b,c⟩
  ·rw [if_pos (by simp [he])]
   refine Ev.step (f:=fun _ => some (i : Int)) (fun k => ?_) (Ev.now _)
   simp only [r0_At.l0,eqE_iff]
   rw [if_pos (by omega),if_pos (by omega),if_pos (by simp [he])]
  ·rw [if_neg (by simp [he])]
   refine Ev.step (fun k => ?_) ih
   simp only [r0_At.l0,eqE_iff]
   rw [if_pos (by omega),if_pos (by omega),if_neg (by simp [he]),Qdm (show i < l.length by omega) (by omega)]
theorem At_ev (l : List SElem) (hl : l.length <= 1000000000) (e : SElem) : Ev (fun k => r0_At.f k l e.f0 e.f1 e.f2) (idxE l e) :=
 At_loop l hl e.f0 e.f1 e.f2 l.length 0 (Nat.zero_add _)
theorem idxE_cases (l : List SElem) (e : SElem) : (∃ i,∃ h : i < l.length,l[i] = e /\ (∀ j (hj : j < i),l[j]'(by omega) ≠ e) /\ idxE l e = (i : Int)) \/ (e ∉ l /\ idxE l e = -1):=by
 unfold idxE
 rcases firstAt_cases (fun i => decide (Qaa l (i : Int) = e)) l.length with ⟨i,h1,h2,h3,h4⟩ | ⟨h1,h2⟩
 ·refine .inl ⟨i,h1, ?_,fun j hj => ?_,h4⟩
  ·rw [Qat _ _ h1] at h2; simpa using h2
  ·have:=h3 j hj
   rw [Qat _ _ (by omega)] at this; simpa using this
 ·refine .inr ⟨fun hm => ?_,h2⟩
  obtain ⟨i,hi,rfl⟩:=List.getElem_of_mem hm
  have:=h1 i hi
  rw [Qat _ _ hi] at this; simp at this
theorem idxE_nonneg (l : List SElem) (e : SElem) : 0 <= idxE l e ↔ e ∈ l:=by
 rcases idxE_cases l e with ⟨i,h,rfl,_,e'⟩ | ⟨hn,e'⟩
 ·rw [e']; exact ⟨fun _ => List.getElem_mem h,fun _ => by omega⟩
 ·rw [e']; exact ⟨fun h => by omega,fun h => absurd h hn⟩
end
section
theorem take_idx {l : List SElem} {i : Nat} (hi : i < l.length) (hn : l.Nodup) : idxE l l[i] = (i : Int):=by
 rcases idxE_cases l l[i] with ⟨j,hj,he,_,e⟩ | ⟨hno,_⟩
 ·rw [e]; have:=(List.getElem_inj hn).1 he; omega
 ·exact absurd (List.getElem_mem hi) hno
end
section
theorem block_idx {l X Y : List SElem} {o : SOp} (hn : l.Nodup) (h : l = X ++ Qan o ++ Y) {i : Nat} (hi : i < Qaj o) : idxE l ⟨o.f0,o.f1,(i : Int)⟩ = ((X.length + i : Nat) : Int):=by
 have hlt : X.length + i < l.length:=by rw [h,List.length_append,List.length_append,Qcf]; omega
 have he : l[X.length + i] = ⟨o.f0,o.f1,(i : Int)⟩:=by
  have : l[X.length + i]? = some ⟨o.f0,o.f1,(i : Int)⟩:=by
   rw [h,List.append_assoc,List.getElem?_append_right (by omega),Nat.add_sub_cancel_left,List.getElem?_append_left (by rw [Qcf]; exact hi)]
   exact chain_at i hi
  rw [List.getElem?_eq_getElem hlt] at this
  exact Zo this
 rw [<- he,take_idx hlt hn]
theorem rep_gone {L : List SOp} (h : RowOk L) {s : Int} {a n : Nat} {t : ByteArray} (ha : a + n <= (Qau L).length) : (repO L s a n t).f5.Nodup /\ (repO L s a n t).f5.length = n /\ ∀ e ∈ (repO L s a n t).f5,e ∈ Qau L:=by
 have hnd : (((Qau L).drop a).take n).Nodup:=((seen_nodup h).sublist (List.drop_sublist _ _)).sublist (List.take_sublist _ _)
 refine ⟨(List.mergeSort_perm _ _).nodup_iff.2 hnd, ?_,fun e he => List.mem_of_mem_drop (List.mem_of_mem_take ((sort_mem _ e).1 he))⟩
 show (sortL _).length = n
 rw [sort_len,List.length_take,List.length_drop]; omega
theorem rep_far {L : List SOp} (h : RowOk L) {s : Int} {a n : Nat} {t : ByteArray} (ha : a <= (Qau L).length) {o : SOp} (hn : NextOk L o) : (repO L s a n t).f3 ∉ Qan o:=by
 intro hc
 have h0:=(opOk_pos hn.ok).1
 rcases repA_cases (L:=L) a ha t with ⟨e,_⟩ | ⟨h1,_,_,e⟩
 ·have hc' : repA L a t ∈ Qan o:=hc
  rw [e] at hc'
  have:=(mem_chain o _).1 hc'
  have h2 : o.f0 = 0:=this.1
  omega
 ·have hc' : repA L a t ∈ Qan o:=hc
  rw [e] at hc'
  exact chain_new h hn hc' (seen_mem.1 (List.getElem_mem h1)).1
structure Race (len n : Nat) (s : List SElem) (a b : SOp) : Prop where
 len : s.length + n = len + Qaj a + Qaj b
 nodup : s.Nodup
 fst : ∃ X Y,s = X ++ Qan a ++ Y
 snd : ∃ X Y,s = X ++ Qan b ++ Y
theorem race_both {L : List SOp} (h : RowOk L) {s1 s2 : Int} {a n b : Nat} {t u : ByteArray} (ha : a + n <= (Qau L).length) (hb : b <= (Qau L).length)
  (hx : RowOk (L ++ [repO L s1 a n t] ++ [repO L s2 b 0 u])) (hy : RowOk (L ++ [repO L s2 b 0 u] ++ [repO L s1 a n t])) :
  Race (Qau L).length n (Qau (L ++ [repO L s1 a n t] ++ [repO L s2 b 0 u])) (repO L s1 a n t) (repO L s2 b 0 u) /\ Race (Qau L).length n (Qau (L ++ [repO L s2 b 0 u] ++ [repO L s1 a n t])) (repO L s1 a n t) (repO L s2 b 0 u):=by
 obtain ⟨x1,x2⟩:=hx.snoc_inv
 obtain ⟨_,x3⟩:=x1.snoc_inv
 obtain ⟨y1,y2⟩:=hy.snoc_inv
 obtain ⟨_,y3⟩:=y1.snoc_inv
 obtain ⟨ga1,ga2,ga3⟩:=rep_gone h (s:=s1) (t:=t) ha
 obtain ⟨gb1,gb2,gb3⟩:=rep_gone h (s:=s2) (a:=b) (n:=0) (t:=u) (by omega)
 have gb0 : (repO L s2 b 0 u).f5 = []:=List.eq_nil_of_length_eq_zero gb2
 have hfa:=rep_far (n:=n) (s:=s1) (t:=t) h (a:=a) (by omega) y3
 have hfb:=rep_far (n:=0) (s:=s2) (t:=u) h hb x3
 have l1:=ins_len h x3 rfl ga1 ga3
 have l2:=ins_len x1 x2 rfl gb1 (fun e he => by rw [gb0] at he; cases he)
 have l3:=ins_len h y3 rfl gb1 gb3
 have hsub : ∀ e ∈ (repO L s1 a n t).f5,e ∈ Qau (L ++ [repO L s2 b 0 u]):=by
  intro e he
  have hs:=ga3 e he
  rw [ins_seen' h y3 rfl,List.mem_filter]
  refine ⟨(ord_snoc h y3 e).2 (.inl (seen_mem.1 hs).1), ?_⟩
  unfold keepF
  rw [Zd hs,gb0]
  cases decide (e ∈ Qan (repO L s2 b 0 u)) <;> rfl
 have l4:=ins_len y1 y2 rfl ga1 hsub
 constructor
 ·exact ⟨by omega,seen_nodup hx,block_first h x3 x2 rfl rfl hfb (fun e he => by rw [gb0] at he; cases he),block_own x1 x2 rfl⟩
 ·exact ⟨by omega,seen_nodup hy,block_own y1 y2 rfl,block_first h y3 y2 rfl rfl hfa (fun e he hc => chain_new h y3 hc (seen_mem.1 (ga3 e he)).1)⟩
end
section
theorem ref1_Rune_f (r : Int) : r1_Rune.f r = some (runeOk r):=by
 unfold r1_Rune.f runeOk
 by_cases h10 : r = 10
 ·simp [h10]
 ·have e10 : (r == 10) = false:=by simp [h10]
  rw [if_neg h10,e10,Bool.false_or]
  by_cases h1 : 32 <= r <;> by_cases h2 : r <= 1114111 <;> by_cases h3 : r = 127 <;> by_cases h4 : r = 65533 <;> by_cases h5 : r <= 55295 <;> by_cases h6 : 57344 <= r <;> (first | (exfalso; omega) | simp [h1,h2,h3,h4,h5,h6])
theorem decodeN_le (n b0 b1 b2 b3 : Nat) (h : 1 <= n) : (Lib.decodeN n b0 b1 b2 b3).2 <= n:=by
 unfold Lib.decodeN
 repeat' split
 all_goals (simp_all <;> omega)
theorem decode_le (s : ByteArray) (i : Nat) (h : i < s.size) : 1 <= (Utf8.decode s i).2 /\ i + (Utf8.decode s i).2 <= s.size:=by
 refine ⟨Lib.decode_width_pos s i h, ?_⟩
 rw [Lib.decode_at]
 have:=decodeN_le (s.size - i) (s.get! i).toNat (s.get! (i + 1)).toNat (s.get! (i + 2)).toNat (s.get! (i + 3)).toNat (by omega)
 omega
theorem decFrom_more (s : ByteArray) : ∀ d pos f,s.size <= pos + d -> d <= f -> Qca s f pos = Qca s d pos
 | 0,pos,f,h,_ => by cases f <;> simp [Qca,Nat.not_lt.2 (show s.size <= pos by omega)]
 | d + 1,pos,0,h,hf => by omega
 | d + 1,pos,f + 1,h,hf => by
  unfold Qca
  by_cases hp : pos < s.size
  ·rw [if_pos hp,if_pos hp,decFrom_more s d _ f (by have:=(decode_le s pos hp).1; omega) (by omega)]
  ·rw [if_neg hp,if_neg hp]
theorem decFrom_step (s : ByteArray) (pos : Nat) (h : pos < s.size) : Qca s s.size pos = ((Utf8.decode s pos).1 : Int) :: Qca s s.size (pos + (Utf8.decode s pos).2):=by
 have hw:=decode_le s pos h
 rw [decFrom_more s (s.size - pos) pos s.size (by omega) (by omega),show s.size - pos = (s.size - pos - 1) + 1 by omega]
 conv => lhs; unfold Qca
 rw [if_pos h,<- decFrom_more s (s.size - pos - 1) (pos + (Utf8.decode s pos).2) s.size (by omega) (by omega)]
theorem decFrom_end (s : ByteArray) (pos : Nat) (h : s.size <= pos) : Qca s s.size pos = []:=by
 rw [decFrom_more s 0 pos s.size (by omega) (by omega)]; rfl
theorem decFrom_len (s : ByteArray) : ∀ f pos,(Qca s f pos).length <= f
 | 0,_ => Nat.le_refl _
 | f + 1,pos => by
  unfold Qca
  split
  ·simp only [List.length_cons]; have:=decFrom_len s f (pos + (Utf8.decode s pos).2); omega
  ·simp
theorem decodeGo_at (s : ByteArray) (pos : Nat) (h : pos < s.size) : Lib.decodeGo (s.extract pos s.size) = Utf8.decode s pos:=by
 unfold Lib.decodeGo
 rw [if_neg (by rw [ByteArray.size_extract]; omega),Lib.tail_decode,Nat.add_zero]
def runesR (s : ByteArray) (acc : List Int) (pos : Nat) : List Int × Bool:=if (Qca s s.size pos).all runeOk = true then (acc ++ Qca s s.size pos,true) else ([],false)
theorem Runes_loop (s : ByteArray) (hs : s.size <= 35184372088000) : ∀ d pos (acc : List Int),s.size <= pos + d -> pos <= s.size -> acc.length <= pos -> Ev (fun k => r1_Runes.l0 k s acc (pos : Int)) (runesR s acc pos)
 | 0,pos,acc,h,hp,_ => by
  unfold runesR
  rw [decFrom_end s pos (by omega),List.all_nil,if_pos rfl,List.append_nil]
  exact Ev.step (f:=fun _ => some (acc,true)) (fun k => by simp only [r1_Runes.l0]; rw [if_neg (by omega)]) (Ev.now _)
 | d + 1,pos,acc,h,hp,ha => by
  by_cases hlt : pos < s.size
  ·have hw:=decode_le s pos hlt
   have ih:=Runes_loop s hs d (pos + (Utf8.decode s pos).2) (acc ++ [((Utf8.decode s pos).1 : Int)]) (by omega) hw.2 (by simp; omega)
   have hf : utf8_DecodeRuneInString.f (s.extract (pos : Int).toNat s.size) = some (((Utf8.decode s pos).1 : Int),((Utf8.decode s pos).2 : Int)):=by
    unfold utf8_DecodeRuneInString.f
    rw [Int.toNat_natCast,decodeGo_at s pos hlt]
   unfold runesR at ih ⊢
   rw [decFrom_step s pos hlt,List.all_cons]
   cases hr : runeOk ((Utf8.decode s pos).1 : Int)
   ·simp only [Bool.false_and,Bool.false_eq_true,if_false]
    refine Ev.step (f:=fun _ => some ([],false)) (fun k => ?_) (Ev.now _)
    simp only [r1_Runes.l0]
    rw [if_pos (by omega),if_pos (by omega),if_pos (by omega),hf,Option.bind_some,ref1_Rune_f,Option.bind_some,hr]
    rfl
   ·simp only [Bool.true_and]
    rw [List.append_assoc,List.singleton_append] at ih
    refine Ev.step (fun k => ?_) ih
    simp only [r1_Runes.l0]
    rw [if_pos (by omega),if_pos (by omega),if_pos (by omega),hf,Option.bind_some,ref1_Rune_f,Option.bind_some,hr,if_pos rfl,if_pos (by omega),Qak (by omega) (by omega)]
    simp only [Int.natCast_add]
  ·have hpe : pos = s.size:=by omega
   unfold runesR
   rw [decFrom_end s pos (by omega),List.all_nil,if_pos rfl,List.append_nil]
   exact Ev.step (f:=fun _ => some (acc,true)) (fun k => by simp only [r1_Runes.l0]; rw [if_neg (by omega)]) (Ev.now _)
theorem Runes_ev (s : ByteArray) (hs : s.size <= 35184372088000) : Ev (fun k => r1_Runes.f k s) (if Qbq s = true then (Qba s,true) else ([],false)) :=
 Runes_loop s hs s.size 0 [] (by omega) (Nat.zero_le _) (Nat.le_refl _)
theorem Qcw (e : SElem) : r4_Begin.f e.f0 e.f1 e.f2 = some (Qaq e):=rfl
theorem ref0_Between_f (a b c : Int) : r0_Between.f a b c = some (decide (b <= a) && decide (a <= c)):=by
 unfold r0_Between.f
 by_cases h : b <= a <;> simp [h]
theorem ref4_name_f (a b : Int) : r4_name.f a b = some (nameOk a b):=by
 unfold r4_name.f nameOk
 rw [ref0_Between_f,ref0_Between_f]
 simp only [Option.bind_some]
 cases decide (1 <= a) <;> cases decide (a <= 8) <;> simp
theorem ref0_Num_f (a b : Int) : r0_Num.f a b = some (decide (0 <= a) && decide (a <= b)):=by
 unfold r0_Num.f
 by_cases h : 0 <= a <;> simp [h]
theorem ref4_Elem_f (e : SElem) : r4_Elem.f e.f0 e.f1 e.f2 = some (Qco e):=by
 unfold r4_Elem.f Qco
 rw [Qcw,ref4_name_f,ref0_Num_f]
 simp only [Option.bind_some]
 have : decide (e.f2 <= 11) = decide (e.f2 < 12):=decide_eq_decide.2 (by omega)
 rw [this]
 cases Qaq e <;> cases nameOk e.f0 e.f1 <;> simp
theorem ref4_Less_f (a b : SElem) : r4_Less.f a.f0 a.f1 a.f2 b.f0 b.f1 b.f2 = some (elLess a b):=by
 unfold r4_Less.f elLess
 by_cases h0 : a.f0 = b.f0
 ·by_cases h1 : a.f1 = b.f1
  ·simp [h0,h1]
  ·have : ¬ b.f0 < b.f0:=by omega
   simp [h0,h1]
 ·simp [h0]
theorem ref4_own_f (o : SOp) (e : SElem) : r4_own.f o.f0 o.f1 o.f2 o.f3.f0 o.f3.f1 o.f3.f2 o.f4 o.f5 o.f6 o.f7 o.f8 e.f0 e.f1 e.f2 = some (ownEl o e):=by
 unfold r4_own.f ownEl
 by_cases h : e.f0 = o.f0 <;> simp [h]
def Sm2 (o : SOp) : Prop:=o.f4.size <= 35184372088000 /\ o.f5.length <= 1000000000000000
theorem ref4_Op_l0 (o : SOp) (h : Sm2 o) : ∀ d i,i + d = o.f5.length ->
  Ev (fun k => r4_Op.l0 k (i : Int) o.f0 o.f1 o.f2 o.f3.f0 o.f3.f1 o.f3.f2 o.f4 o.f5 o.f6 o.f7 o.f8) (Qbs o (if i = 0 then none else some (Qaa o.f5 ((i : Int) - 1))) (o.f5.drop i))
 | 0,i,hi => by
  rw [List.drop_eq_nil_of_le (by omega)]
  exact Ev.step (f:=fun _ => some true) (fun k => by simp only [r4_Op.l0]; rw [if_neg (by omega)]) (Ev.now _)
 | d + 1,i,hi => by
  have hlt : i < o.f5.length:=by omega
  have ih:=ref4_Op_l0 o h d (i + 1) (by omega)
  have hw : wrap64 ((i : Int) + 1) = ((i + 1 : Nat) : Int):=Qdm hlt (by have:=h.2; omega)
  have hw1 : wrap64 ((i : Int) - 1) = (i : Int) - 1:=Qak (by omega) (by have:=h.2; omega)
  have hd : o.f5.drop i = Qaa o.f5 (i : Int) :: o.f5.drop (i + 1):=by rw [Qat _ _ hlt]; exact List.drop_eq_getElem_cons hlt
  rw [hd]
  generalize hx : Qaa o.f5 (i : Int) = x at ih ⊢
  have hp1 : Qaa o.f5 (((i + 1 : Nat) : Int) - 1) = x:=by rw [show (((i + 1 : Nat) : Int) - 1) = (i : Int) by omega]; exact hx
  rw [if_neg (show ¬ i + 1 = 0 by omega),hp1] at ih
  have unf : ∀ k,r4_Op.l0 (k + 1) (i : Int) o.f0 o.f1 o.f2 o.f3.f0 o.f3.f1 o.f3.f2 o.f4 o.f5 o.f6 o.f7 o.f8 =
    (if Qaq x = true then some false else if Qco x = true then (if ownEl o x = true then some false else if (i : Int) > 0 then
     (if elLess (Qaa o.f5 ((i : Int) - 1)) x = true then r4_Op.l0 k ((i + 1 : Nat) : Int) o.f0 o.f1 o.f2 o.f3.f0 o.f3.f1 o.f3.f2 o.f4 o.f5 o.f6 o.f7 o.f8 else some false)
     else r4_Op.l0 k ((i + 1 : Nat) : Int) o.f0 o.f1 o.f2 o.f3.f0 o.f3.f1 o.f3.f2 o.f4 o.f5 o.f6 o.f7 o.f8) else some false):=by
   intro k
   simp only [r4_Op.l0]
   rw [if_pos (by omega),if_pos (by omega),hx,Qcw,ref4_Elem_f,ref4_own_f,hw,hw1]
   simp only [Option.bind_some]
   by_cases hi0 : (i : Int) > 0
   ·simp only [if_pos hi0]
    rw [if_pos (show (0 : Int) <= (i : Int) - 1 by omega),if_pos (show (i : Int) - 1 < (o.f5.length : Int) by omega),ref4_Less_f]
    rfl
   ·simp only [if_neg hi0]
  unfold Qbs
  have no : ∀ c : Bool,c = false -> (∀ k,r4_Op.l0 (k + 1) (i : Int) o.f0 o.f1 o.f2 o.f3.f0 o.f3.f1 o.f3.f2 o.f4 o.f5 o.f6 o.f7 o.f8 = some false) -> Ev (fun k => r4_Op.l0 k (i : Int) o.f0 o.f1 o.f2 o.f3.f0 o.f3.f1 o.f3.f2 o.f4 o.f5 o.f6 o.f7 o.f8) c:=by
   intro c hc hk; subst hc; exact Ev.step (f:=fun _ => some false) hk (Ev.now _)
  cases hb : Qaq x
  ·cases he : Qco x
   ·exact no _ (by simp) (fun k => by rw [unf,hb,he]; simp)
   ·cases ho : ownEl o x
    ·by_cases hi0 : i = 0
     ·subst hi0
      simp only [if_true,Bool.not_false,Bool.true_and]
      exact Ev.step (fun k => by rw [unf,hb,he,ho]; simp) ih
     ·simp only [if_neg hi0]
      cases hl : elLess (Qaa o.f5 ((i : Int) - 1)) x
      ·exact no _ (by simp [hl]) (fun k => by rw [unf,hb,he,ho,hl]; simp; omega)
      ·simp only [Bool.not_false,Bool.true_and]
       exact Ev.step (fun k => by rw [unf,hb,he,ho,hl]; simp) ih
    ·exact no _ (by simp) (fun k => by rw [unf,hb,he,ho]; simp)
  ·exact no _ (by simp) (fun k => by rw [unf,hb]; simp)
theorem Op_l0_start (o : SOp) (h : Sm2 o) : Ev (fun k => r4_Op.l0 k 0 o.f0 o.f1 o.f2 o.f3.f0 o.f3.f1 o.f3.f2 o.f4 o.f5 o.f6 o.f7 o.f8) (Qbs o none o.f5):=by
 have:=ref4_Op_l0 o h o.f5.length 0 (Nat.zero_add _)
 simpa using this
theorem Op_j1 (o : SOp) (h : Sm2 o) (b : Bool) : Ev (fun k => r4_Op.j1 k b o.f0 o.f1 o.f2 o.f3.f0 o.f3.f1 o.f3.f2 o.f4 o.f5 o.f6 o.f7 o.f8) (!b && Qbs o none o.f5):=by
 cases b
 ·simp only [Bool.not_false,Bool.true_and]
  exact Ev.step (fun k => by simp only [r4_Op.j1]; rw [if_neg (by decide)]) (Op_l0_start o h)
 ·simp only [Bool.not_true,Bool.false_and]
  exact Ev.step (f:=fun _ => some false) (fun k => by simp only [r4_Op.j1]; rw [if_pos True.intro]) (Ev.now _)
def restOk (o : SOp) : Bool:=Qbq o.f4 && (decide (Qaj o <= 12) && (Qco o.f3 && (!(decide (Qaj o = 0) && !Qaq o.f3) && (!ownEl o o.f3 && Qbs o none o.f5))))
theorem Op_j0 (o : SOp) (h : Sm2 o) (b : Bool) : Ev (fun k => r4_Op.j0 k b o.f0 o.f1 o.f2 o.f3.f0 o.f3.f1 o.f3.f2 o.f4 o.f5 o.f6 o.f7 o.f8) (!b && restOk o):=by
 cases b
 ·simp only [Bool.not_false,Bool.true_and]
  have hR:=Runes_ev o.f4 h.1
  unfold restOk
  obtain ⟨F,hF⟩ : ∃ F : Nat -> List Int × Bool -> Option Bool,F = (fun k bt => (if bt.2 = true then (if (bt.1.length : Int) > 12 then (r4_Op.j1 k true o.f0 o.f1 o.f2 o.f3.f0 o.f3.f1 o.f3.f2 o.f4 o.f5 o.f6 o.f7 o.f8) else ((r4_Elem.f o.f3.f0 o.f3.f1 o.f3.f2).bind fun t176 => (if t176 = true then (if (bt.1.length : Int) = 0 then ((r4_Begin.f o.f3.f0 o.f3.f1 o.f3.f2).bind fun t177 => (if t177 = true then ((r4_own.f o.f0 o.f1 o.f2 o.f3.f0 o.f3.f1 o.f3.f2 o.f4 o.f5 o.f6 o.f7 o.f8 o.f3.f0 o.f3.f1 o.f3.f2).bind fun t178 => (r4_Op.j1 k t178 o.f0 o.f1 o.f2 o.f3.f0 o.f3.f1 o.f3.f2 o.f4 o.f5 o.f6 o.f7 o.f8)) else (r4_Op.j1 k true o.f0 o.f1 o.f2 o.f3.f0 o.f3.f1 o.f3.f2 o.f4 o.f5 o.f6 o.f7 o.f8))) else ((r4_own.f o.f0 o.f1 o.f2 o.f3.f0 o.f3.f1 o.f3.f2 o.f4 o.f5 o.f6 o.f7 o.f8 o.f3.f0 o.f3.f1 o.f3.f2).bind fun t179 => (r4_Op.j1 k t179 o.f0 o.f1 o.f2 o.f3.f0 o.f3.f1 o.f3.f2 o.f4 o.f5 o.f6 o.f7 o.f8))) else (r4_Op.j1 k true o.f0 o.f1 o.f2 o.f3.f0 o.f3.f1 o.f3.f2 o.f4 o.f5 o.f6 o.f7 o.f8)))) else (r4_Op.j1 k true o.f0 o.f1 o.f2 o.f3.f0 o.f3.f1 o.f3.f2 o.f4 o.f5 o.f6 o.f7 o.f8))):=⟨_,rfl⟩
  refine Ev.step (f:=fun k => (r1_Runes.f k o.f4).bind (F k)) (fun k => ?_) (Ev.bind hR ?_)
  ·simp only [r4_Op.j0]; rw [if_neg (by decide),hF]
  ·rw [hF]
   have hn : ∀ x : Bool,Ev (fun k => r4_Op.j1 k true o.f0 o.f1 o.f2 o.f3.f0 o.f3.f1 o.f3.f2 o.f4 o.f5 o.f6 o.f7 o.f8) (x && false):=fun x => by rw [Bool.and_false]; exact Op_j1 o h true
   simp only [ref4_Elem_f,ref4_own_f,Qcw,Option.bind_some]
   cases ht : Qbq o.f4
   ·simp only [Bool.false_eq_true,if_false,Bool.false_and]
    exact Op_j1 o h true
   ·simp only [if_true,Bool.true_and]
    have hl : (Qba o.f4).length = Qaj o:=rfl
    rw [hl]
    by_cases h12 : Qaj o <= 12
    ·have e12 : decide (Qaj o <= 12) = true:=Zd h12
     rw [e12,Bool.true_and]
     have n12 : ¬ ((Qaj o : Int) > 12):=by omega
     simp only [if_neg n12]
     cases he : Qco o.f3
     ·simp only [Bool.false_eq_true,if_false,Bool.false_and]
      exact Op_j1 o h true
     ·simp only [if_true,Bool.true_and]
      by_cases h0 : Qaj o = 0
      ·have h0i : (Qaj o : Int) = 0:=by omega
       simp only [if_pos h0i,h0,decide_true,Bool.true_and,Bool.not_not]
       cases hb : Qaq o.f3
       ·simp only [Bool.false_eq_true,if_false,Bool.false_and]
        exact Op_j1 o h true
       ·simp only [if_true,Bool.true_and]
        exact Op_j1 o h _
      ·have h0i : ¬ (Qaj o : Int) = 0:=by omega
       have e0 : decide (Qaj o = 0) = false:=Ze h0
       simp only [if_neg h0i,e0,Bool.false_and,Bool.not_false,Bool.true_and]
       exact Op_j1 o h _
    ·have e12 : decide (Qaj o <= 12) = false:=Ze h12
     rw [e12,Bool.false_and]
     have n12 : (Qaj o : Int) > 12:=by omega
     simp only [if_pos n12]
     exact Op_j1 o h true
 ·simp only [Bool.not_true,Bool.false_and]
  exact Ev.step (f:=fun _ => some false) (fun k => by simp only [r4_Op.j0]; rw [if_pos True.intro]) (Ev.now _)
theorem editOk_rest (o : SOp) : editOk o = (o.f6 == 0 && (o.f7 == 0 && (o.f8 == 0 && (decide (o.f5.length <= 200) && (!(o.f4.toList.isEmpty && o.f5.isEmpty) && restOk o))))):=by
 unfold editOk restOk goneOk
 have : decide (Qaj o = 0) = o.f4.toList.isEmpty:=by
  rw [Bool.eq_iff_iff,decide_eq_true_eq]; exact (runesOf_nil o.f4)
 rw [this]
 cases o.f6 == 0 <;> cases o.f7 == 0 <;> cases o.f8 == 0 <;> cases decide (o.f5.length <= 200) <;> cases o.f4.toList.isEmpty <;> cases o.f5.isEmpty <;> cases Qbq o.f4 <;> cases decide (Qaj o <= 12) <;> cases Qco o.f3 <;> cases Qaq o.f3 <;> cases ownEl o o.f3 <;> cases Qbs o none o.f5 <;> rfl
theorem Op_ev (o : SOp) (h : Sm2 o) : Ev (fun k => r4_Op.f k o.f0 o.f1 o.f2 o.f3.f0 o.f3.f1 o.f3.f2 o.f4 o.f5 o.f6 o.f7 o.f8) (opOk o):=by
 unfold r4_Op.f opOk
 simp only [ref4_name_f,Qcw,ref0_Num_f,Option.bind_some]
 cases nameOk o.f0 o.f1
 ·simp only [Bool.false_eq_true,if_false,Bool.false_and]; exact Ev.now _
 ·simp only [if_true,Bool.true_and]
  by_cases h2 : o.f2 = 2
  ·have h1 : ¬ o.f2 = 1:=by omega
   rw [if_neg h1]
   simp only [h2,if_true,beq_self_eq_true,Bool.true_and]
   unfold Qch
   refine Ev.congr (fun k => ?_) (Ev.now _)
   have hl : ((o.f5.length : Int) == 0) = o.f5.isEmpty:=isEmpty_len _
   have ht : (o.f4.toList = ([] : List UInt8)) ↔ o.f4.toList.isEmpty = true:=toList_isEmpty _
   simp only [hl,ht]
   cases nameOk o.f6 o.f7
   ·simp
   ·by_cases e6 : o.f6 = o.f0 <;> by_cases e7 : o.f7 = o.f1 <;> by_cases e8 : 0 <= o.f8 <;> by_cases e9 : o.f8 <= 268435456 <;> cases Qaq o.f3 <;> cases o.f4.toList.isEmpty <;> simp [e6,e7,e8,e9]
  ·have e2 : (o.f2 == 2) = false:=by simp [h2]
   simp only [if_neg h2]
   by_cases h1 : o.f2 = 1
   ·simp only [if_pos h1]
    rw [editOk_rest]
    by_cases e6 : o.f6 = 0
    ·simp only [if_pos e6]
     by_cases e7 : o.f7 = 0
     ·simp only [if_pos e7]
      by_cases e8 : o.f8 = 0
      ·simp only [if_pos e8]
       have b6 : (o.f6 == 0) = true:=by simp [e6]
       have b7 : (o.f7 == 0) = true:=by simp [e7]
       have b8 : (o.f8 == 0) = true:=by simp [e8]
       rw [b6,b7,b8,Bool.true_and,Bool.true_and,Bool.true_and]
       by_cases e5 : o.f5.length <= 200
       ·have n5 : ¬ (o.f5.length : Int) > 200:=by omega
        have d5 : decide (o.f5.length <= 200) = true:=Zd e5
        simp only [if_neg n5,d5,Bool.true_and,isEmpty_len]
        by_cases e4 : o.f4.toList = ([] : List UInt8)
        ·simp only [if_pos e4,List.isEmpty_iff.2 e4,Bool.true_and]; exact Op_j0 o h _
        ·have : o.f4.toList.isEmpty = false:=by cases hh : o.f4.toList.isEmpty; rfl; exact absurd (List.isEmpty_iff.1 hh) e4
         simp only [if_neg e4,this,Bool.false_and]; exact Op_j0 o h _
       ·have n5 : (o.f5.length : Int) > 200:=by omega
        have d5 : decide (o.f5.length <= 200) = false:=Ze e5
        simp only [if_pos n5,d5,Bool.false_and]; exact Op_j0 o h _
      ·have b8 : (o.f8 == 0) = false:=by simp [e8]
       simp only [if_neg e8,b8,Bool.false_and,Bool.and_false]; exact Op_j0 o h _
     ·have b7 : (o.f7 == 0) = false:=by simp [e7]
      simp only [if_neg e7,b7,Bool.false_and,Bool.and_false]; exact Op_j0 o h _
    ·have b6 : (o.f6 == 0) = false:=by simp [e6]
     simp only [if_neg e6,b6,Bool.false_and]; exact Op_j0 o h _
   ·simp only [if_neg h1,e2,Bool.false_and]; have hh:=Op_j0 o h true; simp only [Bool.not_true,Bool.false_and] at hh; exact hh
theorem Find_loop (l : List SOp) (hl : l.length <= 1000000000000) (a b : Int) : ∀ d i,i + d = l.length -> Ev (fun k => r4_Find.l0 k l a b (i : Int)) (Qbg (fun i => nameIs a b (Qad l i)) l.length d i)
 | 0,i,h => Ev.step (f:=fun _ => some (-1)) (fun k => by simp only [r4_Find.l0]; rw [if_neg (by omega)]) (Ev.now _)
 | d + 1,i,h => by
  have ih:=Find_loop l hl a b d (i + 1) (by omega)
  unfold Qbg
  rw [if_pos (show i < l.length by omega)]
  by_cases h0 : (Qad l (i : Int)).f0 = a
  ·by_cases h1 : (Qad l (i : Int)).f1 = b
   ·rw [if_pos (by unfold nameIs; simp [h0,h1])]
    refine Ev.step (f:=fun _ => some (i : Int)) (fun k => ?_) (Ev.now _)
    simp only [r4_Find.l0]
    rw [if_pos (by omega),if_pos (by omega),if_pos h0,if_pos h1]
   ·rw [if_neg (by unfold nameIs; simp [h1])]
    refine Ev.step (fun k => ?_) ih
    simp only [r4_Find.l0]
    rw [if_pos (by omega),if_pos (by omega),if_pos h0,if_neg h1,Qdm (show i < l.length by omega) (by omega)]
  ·rw [if_neg (by unfold nameIs; simp [h0])]
   refine Ev.step (fun k => ?_) ih
   simp only [r4_Find.l0]
   rw [if_pos (by omega),if_pos (by omega),if_neg h0,Qdm (show i < l.length by omega) (by omega)]
theorem Find_ev (l : List SOp) (hl : l.length <= 1000000000000) (a b : Int) : Ev (fun k => r4_Find.f k l a b) (Qbf l a b):=Find_loop l hl a b l.length 0 (Nat.zero_add _)
def runesN (o : SOp) : Nat:=if Qbq o.f4 = true then Qaj o else 0
theorem RunesO_ev (o : SOp) (h : o.f4.size <= 35184372088000) : Ev (fun k => r4_Runes.f k o.f0 o.f1 o.f2 o.f3.f0 o.f3.f1 o.f3.f2 o.f4 o.f5 o.f6 o.f7 o.f8) (runesN o : Int):=by
 refine Ev.bind (f:=fun _ (bt : List Int × Bool) => some (bt.1.length : Int)) (Runes_ev o.f4 h) ?_
 unfold runesN
 cases Qbq o.f4
 ·exact Ev.now _
 ·exact Ev.now _
theorem opOk_text {o : SOp} (h : opOk o = true) : runesN o = Qaj o:=by
 unfold runesN
 rcases Qdc h with ⟨_,h2⟩ | ⟨h1,h2⟩
 ·unfold editOk at h2; simp only [Bool.and_eq_true] at h2
  rw [if_pos h2.1.1.1.1.1.2]
 ·have:=(Qcr h).2 h1
  split <;> omega
def Qcs (l : List SOp) (e : SElem) : Bool:=Qaq e || (decide (0 <= Qbf l e.f0 e.f1) && decide (0 <= e.f2) && decide (e.f2 < (runesN (Qad l (Qbf l e.f0 e.f1)) : Int)))
theorem written_ev (l : List SOp) (hl : l.length <= 1000000000000) (hs : ∀ o ∈ l,o.f4.size <= 35184372088000) (e : SElem) : Ev (fun k => r4_written.f k l e.f0 e.f1 e.f2) (Qcs l e):=by
 unfold r4_written.f Qcs
 simp only [Qcw,Option.bind_some]
 cases Qaq e
 ·simp only [Bool.false_eq_true,if_false,Bool.false_or]
  refine Ev.bind (Find_ev l hl e.f0 e.f1) ?_
  rcases Qbh l e.f0 e.f1 with ⟨i,hi,_,_,_,ef⟩ | ⟨_,ef⟩
  ·rw [ef]
   have h0 : (i : Int) >= 0:=by omega
   have d0 : decide ((0 : Int) <= (i : Int)) = true:=Zd (by omega)
   simp only [if_pos h0,d0,Bool.true_and]
   by_cases h2 : e.f2 >= 0
   ·have d2 : decide ((0 : Int) <= e.f2) = true:=Zd h2
    have h3 : (i : Int) < (l.length : Int):=by omega
    have h4 : (0 : Int) <= (i : Int):=by omega
    simp only [if_pos h2,d2,if_pos h3,if_pos h4,Bool.true_and]
    refine Ev.bind (f:=fun _ t => some (decide (e.f2 < t))) (RunesO_ev (Qad l (i : Int)) (by rw [Qar _ _ hi]; exact hs _ (List.getElem_mem hi))) (Ev.now _)
   ·have d2 : decide ((0 : Int) <= e.f2) = false:=Ze (by omega)
    simp only [if_neg h2,d2,Bool.false_and]; exact Ev.now _
  ·rw [ef]
   have h0 : ¬ (-1 : Int) >= 0:=by omega
   simp only [if_neg h0]; exact Ev.now _
 ·simp only [if_true,Bool.true_or]; exact Ev.now _
theorem countS_take (l : List SOp) (a : Int) (i : Nat) (h : i < l.length) : Qbw (l.take (i + 1)) a = Qbw (l.take i) a + if l[i].f0 = a then 1 else 0:=by
 rw [List.take_succ_eq_append_getElem h,countS_app]
theorem Many_loop (l : List SOp) (hl : l.length <= 1000000000000) (a : Int) : ∀ d i,i + d = l.length -> Ev (fun k => r4_Many.l0 k l a (Qbw (l.take i) a : Int) (i : Int)) (Qbw l a : Int)
 | 0,i,h => by
  rw [List.take_of_length_le (by omega)]
  exact Ev.step (f:=fun _ => some (Qbw l a : Int)) (fun k => by simp only [r4_Many.l0]; rw [if_neg (by omega)]) (Ev.now _)
 | d + 1,i,h => by
  have ih:=Many_loop l hl a d (i + 1) (by omega)
  have hlt : i < l.length:=by omega
  have hc : Qbw (l.take i) a <= i:=Nat.le_trans (countS_le _ _) (by rw [List.length_take]; omega)
  rw [countS_take l a i hlt] at ih
  refine Ev.step (fun k => ?_) ih
  simp only [r4_Many.l0]
  rw [if_pos (by omega),if_pos (by omega),Qar _ _ hlt,Qdm hlt (by omega),Qak (i:=(Qbw (l.take i) a : Int) + 1) (by omega) (by omega)]
  by_cases h0 : l[i].f0 = a
  ·rw [if_pos h0,if_pos h0]; rfl
  ·rw [if_neg h0,if_neg h0]; rfl
theorem Many_ev (l : List SOp) (hl : l.length <= 1000000000000) (a : Int) : Ev (fun k => r4_Many.f k l a) (Qbw l a : Int):=Many_loop l hl a l.length 0 (Nat.zero_add _)
def editN (l : List SOp) (a b : Int) : Bool:=decide (0 <= Qbf l a b) && ((Qad l (Qbf l a b)).f2 == 1)
theorem Edit_ev (l : List SOp) (hl : l.length <= 1000000000000) (a b : Int) : Ev (fun k => r4_Edit.f k l a b) (editN l a b):=by
 refine Ev.bind (f:=fun _ t => if t >= 0 then (if 0 <= t then (if t < (l.length : Int) then some ((Qad l t).f2 == 1) else none) else none) else some false) (Find_ev l hl a b) ?_
 unfold editN
 rcases Qbh l a b with ⟨i,hi,_,_,_,ef⟩ | ⟨_,ef⟩
 ·rw [ef]
  refine Ev.congr (fun k => ?_) (Ev.now _)
  rw [if_pos (by omega),if_pos (by omega),if_pos (by omega),Zd (show (0 : Int) <= (i : Int) by omega),Bool.true_and]
 ·rw [ef]; exact Ev.now _
structure SmL (l : List SOp) : Prop where
 len : l.length <= 1000000000000
 ops : ∀ o ∈ l,Sm2 o
theorem SmL.take {l : List SOp} (h : SmL l) (n : Nat) : SmL (l.take n):=⟨by have:=h.len; rw [List.length_take]; omega,fun o ho => h.ops o (List.mem_of_mem_take ho)⟩
def goesN (l : List SOp) (o : SOp) : Bool:=opOk o && (decide (o.f1 = (Qbw l o.f0 : Int) + 1) && (Qcs l o.f3 && (o.f5.all (Qcs l) && (o.f2 == 1 || editN l o.f6 o.f7))))
theorem Goes_l0 (l : List SOp) (hl : SmL l) (o : SOp) (h : Sm2 o) : ∀ d i,i + d = o.f5.length -> Ev (fun k => r4_Goes.l0 k l (i : Int) o.f0 o.f1 o.f2 o.f3.f0 o.f3.f1 o.f3.f2 o.f4 o.f5 o.f6 o.f7 o.f8) ((o.f5.drop i).all (Qcs l) && (o.f2 == 1 || editN l o.f6 o.f7))
 | 0,i,hi => by
  rw [List.drop_eq_nil_of_le (by omega)]
  simp only [List.all_nil,Bool.true_and]
  by_cases h1 : o.f2 = 1
  ·have : (o.f2 == 1) = true:=by simp [h1]
   rw [this,Bool.true_or]
   exact Ev.step (f:=fun _ => some true) (fun k => by simp only [r4_Goes.l0]; rw [if_neg (by omega),if_pos h1]) (Ev.now _)
  ·have : (o.f2 == 1) = false:=by simp [h1]
   rw [this,Bool.false_or]
   refine Ev.step (f:=fun k => (r4_Edit.f k l o.f6 o.f7).bind fun t => some t) (fun k => by simp only [r4_Goes.l0]; rw [if_neg (by omega),if_neg h1]) (Ev.bind (f:=fun _ t => some t) (Edit_ev l hl.len o.f6 o.f7) (Ev.now _))
 | d + 1,i,hi => by
  have hlt : i < o.f5.length:=by omega
  have ih:=Goes_l0 l hl o h d (i + 1) (by omega)
  rw [List.drop_eq_getElem_cons hlt,List.all_cons]
  have hw:=written_ev l hl.len (fun o ho => (hl.ops o ho).1) o.f5[i]
  refine Ev.step (f:=fun k => (r4_written.f k l o.f5[i].f0 o.f5[i].f1 o.f5[i].f2).bind fun t => if t = true then r4_Goes.l0 k l ((i + 1 : Nat) : Int) o.f0 o.f1 o.f2 o.f3.f0 o.f3.f1 o.f3.f2 o.f4 o.f5 o.f6 o.f7 o.f8 else some false) (fun k => ?_) (Ev.bind (f:=fun k t => if t = true then r4_Goes.l0 k l ((i + 1 : Nat) : Int) o.f0 o.f1 o.f2 o.f3.f0 o.f3.f1 o.f3.f2 o.f4 o.f5 o.f6 o.f7 o.f8 else some false) hw ?_)
  ·simp only [r4_Goes.l0]
   rw [if_pos (by omega),if_pos (by omega),Qat _ _ hlt,Qdm hlt (by have:=h.2; omega)]
  ·cases Qcs l o.f5[i]
   ·simp only [Bool.false_and,Bool.false_eq_true,if_false]; exact Ev.now _
   ·simp only [Bool.true_and,if_true]; exact ih
theorem Goes_ev (l : List SOp) (hl : SmL l) (o : SOp) (h : Sm2 o) : Ev (fun k => r4_Goes.f k l o.f0 o.f1 o.f2 o.f3.f0 o.f3.f1 o.f3.f2 o.f4 o.f5 o.f6 o.f7 o.f8) (goesN l o):=by
 have hj : ∀ b : Bool,Ev (fun k => r4_Goes.j0 k l b o.f0 o.f1 o.f2 o.f3.f0 o.f3.f1 o.f3.f2 o.f4 o.f5 o.f6 o.f7 o.f8) (!b && (o.f5.all (Qcs l) && (o.f2 == 1 || editN l o.f6 o.f7))):=by
  intro b
  cases b
  ·simp only [Bool.not_false,Bool.true_and]
   exact Ev.step (fun k => by simp only [r4_Goes.j0]; rw [if_neg (by decide)]; rfl) (Goes_l0 l hl o h o.f5.length 0 (Nat.zero_add _))
  ·simp only [Bool.not_true,Bool.false_and]
   exact Ev.step (f:=fun _ => some false) (fun k => by simp only [r4_Goes.j0]; rw [if_pos True.intro]) (Ev.now _)
 have hjt:=hj true
 simp only [Bool.not_true,Bool.false_and] at hjt
 unfold r4_Goes.f goesN
 refine Ev.bind (Op_ev o h) ?_
 cases opOk o
 ·simp only [Bool.false_eq_true,if_false,Bool.false_and]; exact hjt
 ·simp only [if_true,Bool.true_and]
  refine Ev.bind (Many_ev l hl.len o.f0) ?_
  have hc:=countS_le l o.f0
  have hlen:=hl.len
  simp only [Qak (show -9223372036854775808 <= (Qbw l o.f0 : Int) + 1 by omega) (show (Qbw l o.f0 : Int) + 1 <= 9223372036854775807 by omega)]
  by_cases hq : o.f1 = (Qbw l o.f0 : Int) + 1
  ·simp only [if_pos hq,Zd hq,Bool.true_and]
   refine Ev.bind (written_ev l hl.len (fun o ho => (hl.ops o ho).1) o.f3) ?_
   have:=hj (!Qcs l o.f3)
   rw [Bool.not_not] at this
   exact this
  ·simp only [if_neg hq,Ze hq,Bool.false_and]; exact hjt
def Qdi (l : List SOp) : Nat:=(l.map runesN).sum
theorem totalN_take (l : List SOp) (i : Nat) (h : i < l.length) : Qdi (l.take (i + 1)) = Qdi (l.take i) + runesN l[i]:=by
 unfold Qdi; rw [List.take_succ_eq_append_getElem h,List.map_append,List.sum_append]; simp
theorem sizeOf_le (o : SOp) : Qaj o <= o.f4.size:=decFrom_len _ _ _
theorem Fits_loop (l : List SOp) (h40 : l.length <= 40) (hl : SmL l) : ∀ d i,i + d = l.length -> Qdi (l.take i) <= i * 35184372088000 -> Ev (fun k => r4_Fits.l0 k l (Qdi (l.take i) : Int) (i : Int)) (decide (Qdi l <= 200))
 | 0,i,h,_ => by
  rw [List.take_of_length_le (by omega)]
  have : decide ((Qdi l : Int) <= 200) = decide (Qdi l <= 200):=decide_eq_decide.2 (by omega)
  exact Ev.step (f:=fun _ => some (decide (Qdi l <= 200))) (fun k => by simp only [r4_Fits.l0]; rw [if_neg (by omega),if_pos (by omega),this]) (Ev.now _)
 | d + 1,i,h,ht => by
  have hlt : i < l.length:=by omega
  have hr : runesN l[i] <= 35184372088000:=by
   have:=(hl.ops _ (List.getElem_mem hlt)).1
   have:=sizeOf_le l[i]
   unfold runesN; split <;> omega
  have e:=totalN_take l i hlt
  have ih:=Fits_loop l h40 hl d (i + 1) (by omega) (by rw [e]; omega)
  rw [e] at ih
  have hR:=RunesO_ev l[i] (hl.ops _ (List.getElem_mem hlt)).1
  refine Ev.step (fun k => ?_) (Ev.bind (f:=fun k t => r4_Fits.l0 k l (wrap64 ((Qdi (l.take i) : Int) + t)) ((i + 1 : Nat) : Int)) hR ?_)
  ·simp only [r4_Fits.l0]
   rw [if_pos (by omega),if_pos (by omega),if_pos (by omega),Qar _ _ hlt,Qdm hlt (by omega)]
  ·rw [Qak (by omega) (by omega)]
   exact ih
theorem Fits_ev (l : List SOp) (h40 : l.length <= 40) (hl : SmL l) : Ev (fun k => r4_Fits.f k l) (decide (Qdi l <= 200)):=by
 have h:=Fits_loop l h40 hl l.length 0 (Nat.zero_add _) (by rw [List.take_zero]; exact Nat.zero_le _)
 have e : Qdi (l.take 0) = 0:=by rw [List.take_zero]; rfl
 rw [e] at h
 exact h
def rowR (l : List SOp) (i : Nat) : Bool:=(List.range' i (l.length - i)).all (fun j => goesN (l.take j) (Qad l (j : Int))) && decide (Qdi l <= 200)
theorem Row_loop (l : List SOp) (h40 : l.length <= 40) (hl : SmL l) : ∀ d i,i + d = l.length -> Ev (fun k => r4_Row.l0 k l (i : Int)) (rowR l i)
 | 0,i,h => by
  unfold rowR
  rw [show l.length - i = 0 by omega]
  simp only [List.range'_zero,List.all_nil,Bool.true_and]
  refine Ev.step (fun k => by simp only [r4_Row.l0]; rw [if_neg (by omega)]) (Ev.bind (f:=fun _ t => some t) (Fits_ev l h40 hl) (Ev.now _))
 | d + 1,i,h => by
  have hlt : i < l.length:=by omega
  have ih:=Row_loop l h40 hl d (i + 1) (by omega)
  have hG:=Goes_ev (l.take i) (hl.take i) l[i] (hl.ops _ (List.getElem_mem hlt))
  unfold rowR at ih ⊢
  rw [show l.length - i = (l.length - (i + 1)) + 1 by omega,List.range'_succ,List.all_cons,Qar _ _ hlt]
  refine Ev.step (fun k => ?_) (Ev.bind (f:=fun k t => if t = true then r4_Row.l0 k l ((i + 1 : Nat) : Int) else some false) hG ?_)
  ·simp only [r4_Row.l0]
   rw [if_pos (by omega),if_pos (by omega),if_pos (by omega),Qar _ _ hlt,Int.toNat_natCast,Qdm hlt (by omega)]
  ·cases goesN (l.take i) l[i]
   ·simp only [Bool.false_and,Bool.false_eq_true,if_false]; exact Ev.now _
   ·simp only [Bool.true_and,if_true]; exact ih
theorem writtenN_wr {l : List SOp} (hr : RowOk l) (e : SElem) : Qcs l e = true ↔ wr l e:=by
 unfold Qcs wr
 rw [Bool.or_eq_true]
 refine or_congr Iff.rfl ?_
 simp only [Bool.and_eq_true,decide_eq_true_eq]
 constructor
 ·rintro ⟨⟨h0,h1⟩,h2⟩
  rcases Qbh l e.f0 e.f1 with ⟨i,hi,e0,e1,_,ef⟩ | ⟨_,ef⟩
  ·rw [ef,Qar _ _ hi,opOk_text (hr.oks _ (List.getElem_mem hi))] at h2
   exact ⟨h1,l[i],List.getElem_mem hi,e0,e1,h2⟩
  ·omega
 ·rintro ⟨h1,p,hp,e0,e1,h2⟩
  obtain ⟨i,hi,ef,ei⟩:=Qdd hr hp
  rw [<- e0,<- e1,ef,Qar _ _ hi,ei,opOk_text (hr.oks p hp)]
  exact ⟨⟨by omega,h1⟩,h2⟩
theorem editN_iff {l : List SOp} (hr : RowOk l) (a b : Int) : editN l a b = true ↔ ∃ p ∈ l,p.f2 = 1 /\ p.f0 = a /\ p.f1 = b:=by
 unfold editN
 simp only [Bool.and_eq_true,decide_eq_true_eq,beq_iff_eq]
 constructor
 ·rintro ⟨h0,h1⟩
  rcases Qbh l a b with ⟨i,hi,e0,e1,_,ef⟩ | ⟨_,ef⟩
  ·rw [ef,Qar _ _ hi] at h1; exact ⟨l[i],List.getElem_mem hi,h1,e0,e1⟩
  ·omega
 ·rintro ⟨p,hp,h2,rfl,rfl⟩
  obtain ⟨i,hi,ef,ei⟩:=Qdd hr hp
  rw [ef,Qar _ _ hi,ei]
  exact ⟨by omega,h2⟩
theorem goesN_iff {l : List SOp} (hr : RowOk l) (o : SOp) : goesN l o = true ↔ GoesR l o:=by
 unfold goesN
 simp only [Bool.and_eq_true,decide_eq_true_eq,Bool.or_eq_true,beq_iff_eq,List.all_eq_true,writtenN_wr hr,editN_iff hr]
 constructor
 ·rintro ⟨h1,h2,h3,h4,h5⟩
  exact ⟨h1,h2,h3,h4,fun e => h5.elim (fun e1 => by omega) id⟩
 ·intro h
  refine ⟨h.ok,h.seq,h.after,h.gone, ?_⟩
  rcases Qdc h.ok with ⟨e,_⟩ | ⟨e,_⟩
  ·exact .inl e
  ·exact .inr (h.tog e)
theorem totalN_eq {l : List SOp} (h : ∀ o ∈ l,opOk o = true) : Qdi l = total l:=by
 unfold Qdi total
 rw [List.map_congr_left (fun o ho => opOk_text (h o ho))]
theorem rowR_iff (l : List SOp) (h40 : l.length <= 40) : rowR l 0 = true ↔ RowOk l:=by
 unfold rowR
 rw [Nat.sub_zero]
 simp only [Bool.and_eq_true,decide_eq_true_eq,List.all_eq_true,List.mem_range'_1]
 constructor
 ·rintro ⟨h1,h2⟩
  have key : ∀ n,n <= l.length -> (∀ i (h : i < l.length),i < n -> GoesR (l.take i) l[i]) /\ (∀ o ∈ l.take n,opOk o = true) /\ RowOk (l.take n):=by
   intro n
   induction n with
   | zero => intro _; exact ⟨fun i _ h => by omega,fun o ho => by simp at ho,by simpa using RowOk.nil⟩
   | succ n ih =>
    intro hn
    obtain ⟨a,b,c⟩:=ih (by omega)
    have hlt : n < l.length:=by omega
    have g:=h1 n ⟨Nat.zero_le _,by omega⟩
    rw [Qar _ _ hlt] at g
    have g':=(goesN_iff c l[n]).1 g
    have b' : ∀ o ∈ l.take (n + 1),opOk o = true:=by
     rw [List.take_succ_eq_append_getElem hlt]
     intro o ho
     rcases List.mem_append.1 ho with ho | ho
     ·exact b o ho
     ·simp at ho; subst ho; exact g'.ok
    refine ⟨fun i hi hin => ?_,b', ?_⟩
    ·by_cases e : i = n
     ·subst e; exact g'
     ·exact a i hi (by omega)
    ·rw [List.take_succ_eq_append_getElem hlt]
     refine .snoc c ⟨by rw [List.length_take]; omega,g'.ok,g'.seq,g'.after,g'.gone,g'.tog, ?_⟩
     have t1:=totalN_eq b'
     rw [List.take_succ_eq_append_getElem hlt,total_app] at t1
     have t2 : Qdi (l.take (n + 1)) <= Qdi l:=by
      have : Qdi (l.take (n + 1)) + Qdi (l.drop (n + 1)) = Qdi l:=by
       unfold Qdi; rw [<- List.sum_append,<- List.map_append,List.take_append_drop]
      omega
     rw [List.take_succ_eq_append_getElem hlt] at t2
     omega
  have:=(key l.length (Nat.le_refl _)).2.2
  rwa [List.take_length] at this
 ·intro h
  refine ⟨fun j hj => ?_,by rw [totalN_eq h.oks]; exact h.sums.2⟩
  rw [Qar _ _ (by omega)]
  exact (goesN_iff (h.take j) _).2 (((RowOk_iff l).1 h).2.2 j (by omega))
theorem Row_ev (l : List SOp) (hl : SmL l) : Ev (fun k => r4_Row.f k l) (mayB l):=by
 unfold r4_Row.f
 by_cases h40 : l.length <= 40
 ·have n40 : ¬ (l.length : Int) > 40:=by omega
  simp only [if_neg n40]
  have : mayB l = rowR l 0:=by rw [Bool.eq_iff_iff,Qci,rowR_iff l h40]
  rw [this]
  exact Row_loop l h40 hl l.length 0 (Nat.zero_add _)
 ·have n40 : (l.length : Int) > 40:=by omega
  simp only [if_pos n40]
  have : mayB l = false:=by unfold mayB; simp [h40]
  rw [this]; exact Ev.now _
end
section
def hungC (l : List SOp) (e : SElem) (k : Nat) : Bool:=!(Qad l (k : Int)).f4.toList.isEmpty && decide (key3 (Qad l (k : Int)).f3 = key3 e)
def hungR (l : List SOp) (e : SElem) (i : Nat) : List SElem:=((List.range i).reverse.filter (hungC l e)).map (fun k : Nat => (⟨(Qad l (k : Int)).f0,(Qad l (k : Int)).f1,0⟩ : SElem))
def tailR (l : List SOp) (e : SElem) : List SElem:=if Qaq e then [] else if Qcs l ⟨e.f0,e.f1,wrap64 (e.f2 + 1)⟩ then [⟨e.f0,e.f1,wrap64 (e.f2 + 1)⟩] else []
theorem hungR_succ (l : List SOp) (e : SElem) (i : Nat) : hungR l e (i + 1) = (if hungC l e i = true then [⟨(Qad l (i : Int)).f0,(Qad l (i : Int)).f1,0⟩] else []) ++ hungR l e i:=by
 unfold hungR
 rw [List.range_succ,List.reverse_append,List.reverse_cons,List.reverse_nil,List.nil_append,List.singleton_append,List.filter_cons]
 cases hungC l e i <;> rfl
theorem eqK_iff (x : SElem) (a b c : Int) : (x.f0 == a && (x.f1 == b && (x.f2 == c))) = decide (key3 x = key3 ⟨a,b,c⟩):=by
 rw [eqE_iff,decide_eq_decide]
 exact ⟨fun h => by rw [h],fun h => key3_inj h⟩
theorem Under_loop (l : List SOp) (hl : SmL l) (hn : l.length <= 1000000) (e : SElem) : ∀ i (x : List SElem),i <= l.length -> x.length + i <= 1000000 -> Ev (fun k => r4_Under.l0 k l x ((i : Int) - 1) e.f0 e.f1 e.f2) (x ++ (hungR l e i ++ tailR l e))
 | 0,x,hi,hx => by
  have e0 : hungR l e 0 = []:=rfl
  rw [e0,List.nil_append]
  unfold tailR
  refine Ev.step (f:=fun k => (some (Qaq e)).bind fun t => if t = true then some x else (r4_written.f k l e.f0 e.f1 (wrap64 (e.f2 + 1))).bind fun t => if t = true then (if x.length < 5864062014805 then some (x ++ [(⟨e.f0,e.f1,wrap64 (e.f2 + 1)⟩ : SElem)]) else none) else some x) (fun k => ?_) ?_
  ·simp only [r4_Under.l0]
   rw [if_neg (by omega),Qcw]
  ·simp only [Option.bind_some]
   cases Qaq e
   ·simp only [Bool.false_eq_true,if_false]
    refine Ev.bind (written_ev l hl.len (fun o ho => (hl.ops o ho).1) ⟨e.f0,e.f1,wrap64 (e.f2 + 1)⟩) ?_
    cases Qcs l ⟨e.f0,e.f1,wrap64 (e.f2 + 1)⟩
    ·simp only [Bool.false_eq_true,if_false,List.append_nil]; exact Ev.now _
    ·have hx' : x.length < 5864062014805:=by omega
     simp only [if_true,if_pos hx']; exact Ev.now _
   ·simp only [if_true,List.append_nil]; exact Ev.now _
 | i + 1,x,hi,hx => by
  have hlt : i < l.length:=by omega
  have hw : wrap64 ((((i + 1 : Nat) : Int) - 1) - 1) = (i : Int) - 1:=by rw [Qak (by omega) (by omega)]; omega
  have hr : Qad l (((i + 1 : Nat) : Int) - 1) = Qad l (i : Int):=by rw [show ((i + 1 : Nat) : Int) - 1 = (i : Int) by omega]
  rw [hungR_succ]
  have hk:=eqK_iff (Qad l (i : Int)).f3 e.f0 e.f1 e.f2
  have he : (⟨e.f0,e.f1,e.f2⟩ : SElem) = e:=rfl
  rw [he] at hk
  by_cases hz : (Qad l (i : Int)).f4.toList = []
  ·have hc : hungC l e i = false:=by unfold hungC; rw [hz]; rfl
   rw [hc]
   simp only [Bool.false_eq_true,if_false,List.nil_append]
   refine Ev.step (fun k => ?_) (Under_loop l hl hn e i x (by omega) (by omega))
   simp only [r4_Under.l0]
   rw [if_pos (by omega),if_pos (by omega),if_pos (by omega),hr,hw,if_pos hz]
  ·have hz' : (Qad l (i : Int)).f4.toList.isEmpty = false:=by
    cases hq : (Qad l (i : Int)).f4.toList with
    | nil => exact absurd hq hz
    | cons => rfl
   have hc : hungC l e i = decide (key3 (Qad l (i : Int)).f3 = key3 e):=by unfold hungC; rw [hz']; rfl
   rw [hc]
   by_cases hq : key3 (Qad l (i : Int)).f3 = key3 e
   ·have ih:=Under_loop l hl hn e i (x ++ [⟨(Qad l (i : Int)).f0,(Qad l (i : Int)).f1,0⟩]) (by omega) (by simp; omega)
    rw [if_pos (Zd hq)]
    rw [List.append_assoc] at ih ⊢
    refine Ev.step (fun k => ?_) ih
    simp only [r4_Under.l0]
    rw [if_pos (by omega),if_pos (by omega),if_pos (by omega),hr,hw,if_neg hz,hk,if_pos (Zd hq),if_pos (by omega)]
   ·rw [if_neg (by simp [hq]),List.nil_append]
    refine Ev.step (fun k => ?_) (Under_loop l hl hn e i x (by omega) (by omega))
    simp only [r4_Under.l0]
    rw [if_pos (by omega),if_pos (by omega),if_pos (by omega),hr,hw,if_neg hz,hk,if_neg (by simp [hq])]
theorem under_eq {l : List SOp} (h : RowOk l) {e : SElem} (he : e = bgE \/ e ∈ ordL l) : hungR l e l.length ++ tailR l e = chl l e:=by
 rw [chl_under h he]
 unfold underR hungR tailR
 congr 1
 rcases he with rfl | he
 ·rfl
 ·have hp:=ordL_pos h he
  obtain ⟨p,hp',e0,e1,h2,h3⟩:=(Qcm h e).1 he
  have hsz:=(Qcr (h.oks p hp')).1
  rw [Qak (by omega) (by omega)]
  have hb : Qaq (⟨e.f0,e.f1,e.f2 + 1⟩ : SElem) = false:=by
   unfold Qaq
   have : (e.f0 == 0) = false:=by simp; omega
   rw [this]; rfl
  have : Qcs l ⟨e.f0,e.f1,e.f2 + 1⟩ = writtenB l ⟨e.f0,e.f1,e.f2 + 1⟩:=by
   unfold Qcs writtenB
   rw [hb,Bool.false_or]
   rcases Qbh l e.f0 e.f1 with ⟨i,hi,_,_,_,ef⟩ | ⟨_,ef⟩
   ·simp only [ef,Qar _ _ hi,opOk_text (h.oks _ (List.getElem_mem hi))]
   ·simp only [ef]; rfl
  rw [this]
theorem Under_ev {l : List SOp} (hl : SmL l) (h : RowOk l) {e : SElem} (he : e = bgE \/ e ∈ ordL l) : Ev (fun k => r4_Under.f k l e.f0 e.f1 e.f2) (chl l e):=by
 have h40:=h.sums.1
 have:=Under_loop l hl (by omega) e l.length [] (Nat.le_refl _) (by simp; omega)
 rw [List.nil_append,under_eq h he] at this
 unfold r4_Under.f
 rw [Qak (by omega) (by omega)]
 exact this
theorem Order_push (l : List SOp) (x u : List SElem) {r : List SElem} : ∀ i (t : List SElem),i <= u.length -> t.length + i <= 1000000000 -> Ev (fun k => r4_Order.l0 k l x (t ++ (u.take i).reverse)) r -> Ev (fun k => r4_Order.l1 k l x t u ((i : Int) - 1)) r
 | 0,t,hi,ht,h => by
  rw [List.take_zero,List.reverse_nil,List.append_nil] at h
  refine Ev.step (fun k => ?_) h
  simp only [r4_Order.l1]
  rw [if_neg (by omega)]
 | i + 1,t,hi,ht,h => by
  have hlt : i < u.length:=by omega
  have hw : wrap64 ((((i + 1 : Nat) : Int) - 1) - 1) = (i : Int) - 1:=by rw [Qak (by omega) (by omega)]; omega
  have hr : Qaa u (((i + 1 : Nat) : Int) - 1) = u[i]:=by rw [show ((i + 1 : Nat) : Int) - 1 = (i : Int) by omega,Qat _ _ hlt]
  have ih:=Order_push l x u (r:=r) i (t ++ [u[i]]) (by omega) (by simp; omega) (by
   rw [List.take_succ_eq_append_getElem hlt,List.reverse_append,List.reverse_singleton,List.singleton_append] at h
   rw [List.append_assoc,List.singleton_append]; exact h)
  refine Ev.step (fun k => ?_) ih
  simp only [r4_Order.l1]
  rw [if_pos (by omega),if_pos (by omega),if_pos (by omega),if_pos (by omega),hr,hw]
theorem Order_one {l : List SOp} (hl : SmL l) (h : RowOk l) {e : SElem} (he : e = bgE \/ e ∈ ordL l) (x t : List SElem) {r : List SElem} (ht : t.length + (chl l e).length <= 1000000000) (hx : x.length <= 1000000000)
  (k : Ev (fun k => r4_Order.l0 k l (if Qaq e = true then x else x ++ [e]) (t ++ (chl l e).reverse)) r) : Ev (fun k => r4_Order.l0 k l x (t ++ [e])) r:=by
 have hlen : (t ++ [e]).length = t.length + 1:=by simp
 have hr : Qaa (t ++ [e]) (t.length : Int) = e:=by rw [Qat _ _ (by simp)]; simp
 have hj : ∀ y : List SElem,Ev (fun k => r4_Order.l0 k l y (t ++ (chl l e).reverse)) r -> Ev (fun k => r4_Order.j1 k l y t e.f0 e.f1 e.f2) r:=by
  intro y hy
  refine Ev.step (f:=fun k => (r4_Under.f k l e.f0 e.f1 e.f2).bind fun t366 => r4_Order.l1 k l y t t366 (wrap64 ((t366.length : Int) - 1))) (fun k => by simp only [r4_Order.j1]) (Ev.bind (f:=fun k t366 => r4_Order.l1 k l y t t366 (wrap64 ((t366.length : Int) - 1))) (Under_ev hl h he) ?_)
  rw [Qak (by omega) (by omega)]
  refine Order_push l y (chl l e) (chl l e).length t (Nat.le_refl _) ht ?_
  rw [List.take_length]; exact hy
 have h1 : wrap64 (((t ++ [e]).length : Int) - 1) = (t.length : Int):=by rw [hlen,Qak (by omega) (by omega)]; omega
 have hT : (t ++ [e]).take ((t.length : Int)).toNat = t:=by rw [Int.toNat_natCast]; simp
 refine Ev.step (f:=fun k => if Qaq e = true then r4_Order.j1 k l x t e.f0 e.f1 e.f2 else r4_Order.j1 k l (x ++ [e]) t e.f0 e.f1 e.f2) (fun k => ?_) ?_
 ·simp only [r4_Order.l0]
  rw [h1,if_pos (by omega),if_pos (by omega),if_pos (by omega),if_pos (by omega),hT,Option.bind_some,hr,Qcw,Option.bind_some,if_pos (show x.length < 5864062014805 by omega)]
 ·cases hb : Qaq e
  ·rw [hb] at k
   simp only [Bool.false_eq_true,if_false] at k ⊢
   exact hj _ k
  ·rw [hb] at k
   simp only [if_true] at k ⊢
   exact hj _ k
theorem walk_len {ch : SElem -> List SElem} {xs L : List SElem} (h : WalkL ch xs L) : xs.length <= L.length:=by
 induction h with
 | nil => exact Nat.le_refl _
 | cons h1 h2 ih1 ih2 => simp only [List.length_cons,List.length_append]; omega
theorem Order_walk {l : List SOp} (hl : SmL l) (h : RowOk l) {r : List SElem} {xs L : List SElem} (hw : WalkL (chl l) xs L) : ∀ (x t : List SElem),(∀ e ∈ L,e ∈ ordL l) -> x.length + L.length <= 1000000 -> t.length + L.length <= 1000000 ->
  Ev (fun k => r4_Order.l0 k l (x ++ L) t) r -> Ev (fun k => r4_Order.l0 k l x (t ++ xs.reverse)) r:=by
 induction hw with
 | nil => intro x t _ _ _ k; simpa using k
 | cons h1 h2 ih1 ih2 =>
  rename_i e xs L1 L2
  intro x t hm hx ht k
  simp only [List.length_cons,List.length_append] at hx ht
  have w1:=walk_len h1
  have w2:=walk_len h2
  have he : e ∈ ordL l:=hm e List.mem_cons_self
  have hb : Qaq e = false:=by
   cases hb : Qaq e
   ·rfl
   ·have:=(isBegin_iff e).1 hb
    have hp:=ordL_pos h he
    rw [this] at hp; simp [bgE] at hp
  rw [List.reverse_cons,<- List.append_assoc]
  refine Order_one hl h (.inr he) x (t ++ xs.reverse) (by simp; omega) (by omega) ?_
  rw [hb]
  simp only [Bool.false_eq_true,if_false]
  refine ih1 (x ++ [e]) (t ++ xs.reverse) (fun y hy => hm y (by simp [hy])) (by simp; omega) (by simp; omega) ?_
  refine ih2 (x ++ [e] ++ L1) t (fun y hy => hm y (by simp [hy])) (by simp; omega) (by omega) ?_
  have : x ++ [e] ++ L1 ++ L2 = x ++ e :: (L1 ++ L2):=by simp
  rw [this]; exact k
theorem Order_ev {l : List SOp} (hl : SmL l) (h : RowOk l) : Ev (fun k => r4_Order.f k l) (ordL l):=by
 have hlen : (ordL l).length <= 200:=by rw [(Qda h).2]; exact h.sums.2
 have hw:=ordL_walk h
 have w:=walk_len hw
 refine Order_one (e:=bgE) hl h (.inl rfl) [] [] (by simp; omega) (by simp) ?_
 have hb : Qaq bgE = true:=rfl
 rw [if_pos hb]
 refine Order_walk hl h hw [] [] (fun e he => he) (by simp; omega) (by simp; omega) ?_
 rw [List.nil_append]
 refine Ev.step (f:=fun _ => some (ordL l)) (fun k => ?_) (Ev.now _)
 simp only [r4_Order.l0]
 rw [if_neg (by simp)]
end
section
theorem CopyElems_loop (l : List SElem) (hl : l.length <= 1000000000000) : ∀ d i,i + d = l.length -> Ev (fun k => r0_CopyElems.l0 k l (l.take i) (i : Int)) l
 | 0,i,h => by
  rw [List.take_of_length_le (by omega)]
  refine Ev.step (f:=fun _ => some l) (fun k => ?_) (Ev.now _)
  simp only [r0_CopyElems.l0]
  rw [if_neg (by omega)]
 | d + 1,i,h => by
  have hlt : i < l.length:=by omega
  have ih:=CopyElems_loop l hl d (i + 1) (by omega)
  rw [List.take_succ_eq_append_getElem hlt] at ih
  refine Ev.step (fun k => ?_) ih
  simp only [r0_CopyElems.l0]
  rw [if_pos (by omega),if_pos (by omega),Qat _ _ hlt,if_pos (by rw [List.length_take]; omega),Qdm hlt (by omega)]
theorem CopyElems_ev (l : List SElem) (hl : l.length <= 1000000000000) : Ev (fun k => r0_CopyElems.f k l) l:=CopyElems_loop l hl l.length 0 (Nat.zero_add _)
theorem CopyOp_ev (o : SOp) (hl : o.f5.length <= 1000000000000) : Ev (fun k => r0_CopyOp.f k o.f0 o.f1 o.f2 o.f3.f0 o.f3.f1 o.f3.f2 o.f4 o.f5 o.f6 o.f7 o.f8) (o.f0,o.f1,o.f2,o.f3.f0,o.f3.f1,o.f3.f2,o.f4,o.f5,o.f6,o.f7,o.f8) :=
 Ev.bind (f:=fun _ t => some (o.f0,o.f1,o.f2,o.f3.f0,o.f3.f1,o.f3.f2,o.f4,t,o.f6,o.f7,o.f8)) (CopyElems_ev o.f5 hl) (Ev.now _)
theorem CopyOps_loop (l : List SOp) (hl : l.length <= 1000000) (hs : ∀ o ∈ l,o.f5.length <= 1000000000000) : ∀ d i,i + d = l.length -> Ev (fun k => r0_CopyOps.l0 k l (l.take i) (i : Int)) l
 | 0,i,h => by
  rw [List.take_of_length_le (by omega)]
  refine Ev.step (f:=fun _ => some l) (fun k => ?_) (Ev.now _)
  simp only [r0_CopyOps.l0]
  rw [if_neg (by omega)]
 | d + 1,i,h => by
  have hlt : i < l.length:=by omega
  have ih:=CopyOps_loop l hl hs d (i + 1) (by omega)
  rw [List.take_succ_eq_append_getElem hlt] at ih
  have hlen : (l.take i).length < 1256584717458:=by rw [List.length_take]; omega
  refine Ev.step (fun k => by simp only [r0_CopyOps.l0]; rw [if_pos (by omega),if_pos (by omega),Qar _ _ hlt,Qdm hlt (by omega)]) (Ev.bind (CopyOp_ev l[i] (hs _ (List.getElem_mem hlt))) ?_)
  simp only [if_pos hlen]
  exact ih
theorem CopyOps_ev (l : List SOp) (hl : l.length <= 1000000) (hs : ∀ o ∈ l,o.f5.length <= 1000000000000) : Ev (fun k => r0_CopyOps.f k l) l:=CopyOps_loop l hl hs l.length 0 (Nat.zero_add _)
end
section
theorem Behind_ev (l : List SOp) (hl : l.length <= 1000000) (hs : ∀ o ∈ l,o.f5.length <= 1000000000000) (o : SOp) (ho : o.f5.length <= 1000000000000) : Ev (fun k => r4_Behind.f k l o.f0 o.f1 o.f2 o.f3.f0 o.f3.f1 o.f3.f2 o.f4 o.f5 o.f6 o.f7 o.f8) (l ++ [o]):=by
 have hlen : l.length < 1256584717458:=by omega
 refine Ev.bind (CopyOps_ev l hl hs) (Ev.bind (CopyOp_ev o ho) ?_)
 simp only [if_pos hlen]
 exact Ev.now _
theorem cnt_loop (l : List SOp) (hl : l.length <= 1000000) (s q : Int) : ∀ d i,i + d = l.length -> ∀ n : Int,0 <= n -> n <= (i : Int) -> Ev (fun k => r4_Count.l0 k l s q n (i : Int)) ((l.drop i).foldl (cntStep s q) n)
  | 0,i,h,n,h0,h1 => by
    rw [List.drop_eq_nil_of_le (by omega)]
    refine Ev.step (f:=fun _ => some n) (fun k => ?_) (Ev.now _)
    simp only [r4_Count.l0]
    rw [if_neg (by omega)]
  | d + 1,i,h,n,h0,h1 => by
    have hlt : i < l.length:=by omega
    have ih0:=cnt_loop l hl s q d (i + 1) (by omega) n h0 (by omega)
    have ih1:=cnt_loop l hl s q d (i + 1) (by omega) (n + 1) (by omega) (by omega)
    have hw : wrap64 (n + 1) = n + 1:=Qak (by omega) (by omega)
    rw [List.drop_eq_getElem_cons hlt,List.foldl_cons]
    unfold cntStep
    unfold cntStep at ih0 ih1
    by_cases h2 : l[i].f2 = 2 <;> by_cases h6 : l[i].f6 = s <;> by_cases h7 : l[i].f7 = q <;> by_cases h8 : l[i].f8 = n <;>
      first
      | (rw [if_pos ⟨h2,h6,h7,h8⟩]
         refine Ev.step (fun k => ?_) ih1
         simp only [r4_Count.l0]
         rw [if_pos (by omega),if_pos (by omega),Qar _ _ hlt,Qdm hlt (by omega),if_pos h2,if_pos h6,if_pos h7,if_pos h8,hw])
      | (rw [if_neg (by simp [h2,h6,h7,h8])]
         refine Ev.step (fun k => ?_) ih0
         simp only [r4_Count.l0]
         rw [if_pos (by omega),if_pos (by omega),Qar _ _ hlt,Qdm hlt (by omega)]
         simp only [h2,h6,h7,h8,if_true,if_false])
theorem CountR_ev (l : List SOp) (hl : l.length <= 1000000) (s q : Int) : Ev (fun k => r4_Count.f k l s q) (cntR l s q):=cnt_loop l hl s q l.length 0 (Nat.zero_add _) 0 (Int.le_refl _) (Int.le_refl _)
theorem cntR_pos (s q : Int) : ∀ (l : List SOp) (n : Int),0 <= n -> 0 <= l.foldl (cntStep s q) n
 | [],n,h => h
 | o :: l,n,h => by
  rw [List.foldl_cons]
  refine cntR_pos s q l _ ?_
  unfold cntStep; split <;> omega
theorem EffectiveR_ev (l : List SOp) (hl : l.length <= 1000000) (s q : Int) : Ev (fun k => r4_Effective.f k l s q) (cntR l s q % 2 == 0):=by
 refine Ev.bind (f:=fun _ t => some ((Int.tmod t 2) == 0)) (CountR_ev l hl s q) ?_
 have hc : 0 <= cntR l s q:=cntR_pos s q l 0 (Int.le_refl _)
 rw [Int.tmod_eq_emod_of_nonneg hc]
 exact Ev.now _
theorem rd_works (l : List SOp) {i : Nat} (hi : i < l.length) : rdOf false (l.map (Qbo l)) (i : Int) = Qbo l l[i]:=by
 unfold rdOf
 rw [Int.toNat_natCast,List.getD_eq_getElem?_getD,List.getElem?_map,List.getElem?_eq_getElem hi]; rfl
def stays (l : List SOp) (e : SElem) (o : SOp) : Bool:=!Qbo l o || !decide (e ∈ o.f5)
theorem Vis_l2 {l : List SOp} (h : RowOk l) (acc all : List SElem) {i : Nat} (hi : i < all.length) (ha : all.length <= 1000000) (hacc : acc.length <= 1000000) {r : List SElem} : ∀ d j (b : Bool),j + d = l.length ->
  Ev (fun k => r4_Visible.l1 k l (l.map (Qbo l)) (if (b && (l.drop j).all (stays l all[i])) = true then acc ++ [all[i]] else acc) all ((i + 1 : Nat) : Int)) r ->
  Ev (fun k => r4_Visible.l2 k l (l.map (Qbo l)) acc all (i : Int) b (j : Int)) r
 | 0,j,b,hj,hn => by
  rw [List.drop_eq_nil_of_le (by omega),List.all_nil,Bool.and_true] at hn
  refine Ev.step (fun k => ?_) hn
  simp only [r4_Visible.l2]
  rw [if_neg (by omega)]
  cases b
  ·rw [if_neg (by decide),if_neg (by decide),Qdm hi (by omega)]
  ·rw [if_pos rfl,if_pos (by omega),if_pos (by omega),if_pos (by omega),Qat _ _ hi,if_pos rfl,Qdm hi (by omega)]
 | d + 1,j,b,hj,hn => by
  have hlt : j < l.length:=by omega
  have h40:=h.sums.1
  rw [List.drop_eq_getElem_cons hlt,List.all_cons] at hn
  cases b
  ·simp only [Bool.false_and] at hn
   refine Ev.step (fun k => ?_) hn
   simp only [r4_Visible.l2]
   rw [if_pos (by omega),if_neg (by decide),if_neg (by decide),Qdm hi (by omega)]
  ·simp only [Bool.true_and] at hn
   have hlen : ((l.map (Qbo l)).length : Int) = l.length:=by rw [List.length_map]
   cases hw : Qbo l l[j]
   ·have ih:=Vis_l2 h acc all hi ha hacc (r:=r) d (j + 1) true (by omega) (by
     have : stays l all[i] l[j] = true:=by unfold stays; rw [hw]; rfl
     rw [this,Bool.true_and] at hn
     rw [Bool.true_and]; exact hn)
    refine Ev.step (fun k => ?_) ih
    simp only [r4_Visible.l2]
    rw [if_pos (by omega),if_pos True.intro,if_pos (by omega),if_pos (by omega),rd_works l hlt,hw,if_neg (by decide),Qdm hlt (by omega)]
   ·have hg:=opOk_gone200 (h.oks _ (List.getElem_mem hlt))
    have hA:=At_ev l[j].f5 (by omega) all[i]
    have hs : stays l all[i] l[j] = decide (idxE l[j].f5 all[i] < 0):=by
     unfold stays
     rw [hw,Bool.not_true,Bool.false_or]
     by_cases hm : all[i] ∈ l[j].f5
     ·have:=(idxE_nonneg l[j].f5 all[i]).2 hm
      rw [Zd hm,Ze (by omega)]; rfl
     ·have : ¬ 0 <= idxE l[j].f5 all[i]:=fun hh => hm ((idxE_nonneg _ _).1 hh)
      rw [Ze hm,Zd (by omega)]; rfl
    rw [hs] at hn
    have ih:=Vis_l2 h acc all hi ha hacc (r:=r) d (j + 1) (decide (idxE l[j].f5 all[i] < 0)) (by omega) hn
    refine Ev.step (fun k => ?_) (Ev.bind (f:=fun k t => r4_Visible.l2 k l (l.map (Qbo l)) acc all (i : Int) (decide (t < 0)) ((j + 1 : Nat) : Int)) hA ih)
    simp only [r4_Visible.l2]
    rw [if_pos (by omega),if_pos True.intro,if_pos (by omega),if_pos (by omega),rd_works l hlt,hw,if_pos rfl,if_pos (by omega),if_pos (by omega),Qat _ _ hi,Qar _ _ hlt,Qdm hlt (by omega)]
theorem Vis_l1 {l : List SOp} (hl : SmL l) (h : RowOk l) (all : List SElem) (ha : all.length <= 200) (hm : ∀ e ∈ all,e ∈ ordL l) : ∀ d i (acc : List SElem),i + d = all.length -> acc.length <= i ->
  Ev (fun k => r4_Visible.l1 k l (l.map (Qbo l)) acc all (i : Int)) (acc ++ (all.drop i).filter fun e => Qbo l (Qad l (Qbf l e.f0 e.f1)) && l.all (stays l e))
 | 0,i,acc,hi,_ => by
  rw [List.drop_eq_nil_of_le (by omega),List.filter_nil,List.append_nil]
  refine Ev.step (f:=fun _ => some acc) (fun k => ?_) (Ev.now _)
  simp only [r4_Visible.l1]
  rw [if_neg (by omega)]
 | d + 1,i,acc,hi,hacc => by
  have hlt : i < all.length:=by omega
  have h40:=h.sums.1
  obtain ⟨q,hq,ef,_,_⟩:=elem_op h (hm _ (List.getElem_mem hlt))
  rw [List.drop_eq_getElem_cons hlt,List.filter_cons,ef,Qar _ _ hq]
  have ih:=fun a (h' : a.length <= i + 1) => Vis_l1 hl h all ha hm d (i + 1) a (by omega) h'
  have h2:=Vis_l2 h acc all hlt (by omega) (by omega) (r:=acc ++ (if (Qbo l l[q] && l.all (stays l all[i])) = true then all[i] :: (all.drop (i + 1)).filter (fun e => Qbo l (Qad l (Qbf l e.f0 e.f1)) && l.all (stays l e)) else (all.drop (i + 1)).filter (fun e => Qbo l (Qad l (Qbf l e.f0 e.f1)) && l.all (stays l e)))) l.length 0 (Qbo l l[q]) (Nat.zero_add _) (by
   rw [List.drop_zero]
   by_cases hc : (Qbo l l[q] && l.all (stays l all[i])) = true
   ·rw [if_pos hc,if_pos hc]
    have:=ih (acc ++ [all[i]]) (by simp; omega)
    rw [List.append_assoc] at this
    exact this
   ·rw [if_neg hc,if_neg hc]
    exact ih acc (by omega))
  have hlen : ((l.map (Qbo l)).length : Int) = l.length:=by rw [List.length_map]
  refine Ev.step (fun k => ?_) (Ev.bind (f:=fun k t => if 0 <= t then (if t < ((l.map (Qbo l)).length : Int) then r4_Visible.l2 k l (l.map (Qbo l)) acc all (i : Int) (rdOf false (l.map (Qbo l)) t) 0 else none) else none) (Find_ev l hl.len all[i].f0 all[i].f1) ?_)
  ·simp only [r4_Visible.l1]
   rw [if_pos (by omega),if_pos (by omega),Qat _ _ hlt]
  ·rw [ef,rd_works l hq]
   refine Ev.congr (fun k => ?_) h2
   rw [if_pos (by omega),if_pos (by omega)]
   rfl
theorem Vis_l0 {l : List SOp} (hl : SmL l) (h : RowOk l) : ∀ d i,i + d = l.length -> Ev (fun k => r4_Visible.l0 k l ((l.take i).map (Qbo l) ++ List.replicate (l.length - i) false) (i : Int)) (visR l)
 | 0,i,hi => by
  rw [List.take_of_length_le (by omega),show l.length - i = 0 by omega]
  simp only [List.replicate_zero,List.append_nil]
  have hlen : (ordL l).length <= 200:=by rw [(Qda h).2]; exact h.sums.2
  refine Ev.step (fun k => ?_) (Ev.bind (f:=fun k t => r4_Visible.l1 k l (l.map (Qbo l)) ([] : List SElem) t 0) (Order_ev hl h) (Vis_l1 hl h (ordL l) hlen (fun e he => he) _ 0 [] (Nat.zero_add _) (Nat.le_refl _)))
  simp only [r4_Visible.l0]
  rw [if_neg (by omega)]
 | d + 1,i,hi => by
  have hlt : i < l.length:=by omega
  have h40:=h.sums.1
  have ih:=Vis_l0 hl h d (i + 1) (by omega)
  have hset : ∀ b,b = Qbo l l[i] -> ((l.take i).map (Qbo l) ++ List.replicate (l.length - i) false).set i b = (l.take (i + 1)).map (Qbo l) ++ List.replicate (l.length - (i + 1)) false:=by
   intro b hb
   have hl : ((l.take i).map (Qbo l)).length = i:=by rw [List.length_map,List.length_take]; omega
   rw [List.set_append,if_neg (by omega),hl,Nat.sub_self,show l.length - i = (l.length - (i + 1)) + 1 by omega,List.replicate_succ,List.set_cons_zero,List.take_succ_eq_append_getElem hlt,List.map_append,hb]
   simp
  have hlen : (((l.take i).map (Qbo l) ++ List.replicate (l.length - i) false).length : Int) = l.length:=by
   rw [List.length_append,List.length_map,List.length_take,List.length_replicate]; omega
  by_cases h1 : l[i].f2 = 1
  ·have hE:=EffectiveR_ev l (by omega) l[i].f0 l[i].f1
   have hw : (cntR l l[i].f0 l[i].f1 % 2 == 0) = Qbo l l[i]:=by unfold Qbo; rw [h1]; rfl
   rw [hw] at hE
   refine Ev.step (fun k => ?_) (Ev.bind (f:=fun k t => if (i : Int) < (((l.take i).map (Qbo l) ++ List.replicate (l.length - i) false).length : Int) then r4_Visible.l0 k l (((l.take i).map (Qbo l) ++ List.replicate (l.length - i) false).set i t) ((i + 1 : Nat) : Int) else none) hE (Ev.congr (fun k => ?_) ih))
   ·simp only [r4_Visible.l0]
    rw [if_pos (by omega),if_pos (by omega),Qar _ _ hlt,if_pos h1,Qdm hlt (by omega),Int.toNat_natCast]
   ·rw [if_pos (by rw [hlen]; omega),hset _ rfl]
  ·refine Ev.step (fun k => ?_) ih
   simp only [r4_Visible.l0]
   rw [if_pos (by omega),if_pos (by omega),Qar _ _ hlt,if_neg h1,if_pos (by rw [hlen]; omega),Qdm hlt (by omega),Int.toNat_natCast,hset _ (by unfold Qbo; simp [h1])]
theorem Visible_ev {l : List SOp} (hl : SmL l) (h : RowOk l) : Ev (fun k => r4_Visible.f k l) (Qau l):=by
 have h40:=h.sums.1
 rw [seen_vis h]
 have:=Vis_l0 hl h l.length 0 (Nat.zero_add _)
 refine Ev.congr (fun k => ?_) this
 unfold r4_Visible.f
 rw [if_pos (by omega),if_pos (by omega),Int.toNat_natCast]
 simp
end
section
def tiny (o : SOp) : Prop:=o.f4.size <= 4000 /\ o.f5.length <= 1000
def Tiny (l : List SOp) : Prop:=∀ o ∈ l,tiny o
theorem OpsWeight_small (l : List SOp) (hl : l.length <= 140737488351232) (hs : ∀ o ∈ l,o.f4.size <= 140737488351232 /\ o.f5.length <= 140737488351232) : ∀ d i (t : Int),i + d = l.length -> 0 <= t -> t <= 200000000000000 ->
  ∃ r,Ev (fun k => w0_OpsWeight.l0 k l t (i : Int)) r /\ t <= r /\ r <= 400000000000000 /\ (r <= 900 -> ∀ j (hj : j < l.length),i <= j -> tiny l[j])
 | 0,i,t,h,h0,h1 => ⟨t,Ev.step (f:=fun _ => some t) (fun k => by simp only [w0_OpsWeight.l0]; rw [if_neg (by omega)]) (Ev.now _),Int.le_refl _,by omega,fun _ j hj hij => by omega⟩
 | d + 1,i,t,h,h0,h1 => by
  by_cases ht : t < 1048576
  ·have hlt : i < l.length:=by omega
   have hb:=hs _ (List.getElem_mem hlt)
   have hw : wrap64 (t + (wrap64 ((wrap64 (2 + (wrap64 ((l[i].f4.size : Int) / 4)))) + (l[i].f5.length : Int)))) = t + (2 + (l[i].f4.size : Int) / 4 + (l[i].f5.length : Int)):=by
    rw [Qak (i:=(l[i].f4.size : Int) / 4) (by omega) (by omega),Qak (i:=2 + (l[i].f4.size : Int) / 4) (by omega) (by omega),Qak (i:=2 + (l[i].f4.size : Int) / 4 + (l[i].f5.length : Int)) (by omega) (by omega),Qak (by omega) (by omega)]
   obtain ⟨r,hr,r1,r2,r3⟩:=OpsWeight_small l hl hs d (i + 1) (t + (2 + (l[i].f4.size : Int) / 4 + (l[i].f5.length : Int))) (by omega) (by omega) (by omega)
   rw [<- hw] at hr
   refine ⟨r,Ev.step (fun k => ?_) hr,by omega,r2,fun h9 j hj hij => ?_⟩
   ·simp only [w0_OpsWeight.l0]
    rw [if_pos (by omega),if_pos ht,if_pos (by omega),Qdm hlt (by omega),Qar _ _ hlt]
    rfl
   ·rcases Nat.lt_or_ge i j with hj2 | hj2
    ·exact r3 h9 j hj hj2
    ·obtain rfl : j = i:=by omega
     exact ⟨by omega,by omega⟩
  ·exact ⟨t,Ev.step (f:=fun _ => some t) (fun k => by simp only [w0_OpsWeight.l0]; rw [if_pos (by omega),if_neg ht]) (Ev.now _),Int.le_refl _,by omega,fun h9 => by omega⟩
theorem rd_LOp_nat (l : List (List SOp)) (i : Nat) (h : i < l.length) : Qbx l (i : Int) = l[i]:=by unfold Qbx; simp [h]
theorem Heavy_lp {l0 : List (List SOp)} {l1 : List SElem} {l2 : List SOp} {l3 : List Int} (hg : GoodAsk l0 l1 l2 l3) : ∀ d i (t : Int),i + d = l0.length -> 0 <= t -> t <= 900000000000000 ->
  ∃ b,Ev (fun k => w5_Heavy.l0 k t (i : Int) l0 l1 l2 l3) b /\ (b = false -> t <= 900 /\ ∀ j (hj : j < l0.length),i <= j -> l0[j].length <= 900 /\ Tiny l0[j])
 | 0,i,t,h,h0,h1 => ⟨_,Ev.step (f:=fun _ => some (decide (t > 900))) (fun k => by simp only [w5_Heavy.l0]; rw [if_neg (by omega)]) (Ev.now _),fun hb => ⟨by have:=of_decide_eq_false hb; omega,fun j hj hij => by omega⟩⟩
 | d + 1,i,t,h,h0,h1 => by
  by_cases ht : t < 1048576
  ·have hlt : i < l0.length:=by omega
   have hn:=hg.n0
   have hm:=hg.r0 _ (List.getElem_mem hlt)
   obtain ⟨q,hq,q1,q2,q3⟩:=OpsWeight_small l0[i] hm.1 hm.2 _ 0 (l0[i].length : Int) (Nat.zero_add _) (by omega) (by omega)
   obtain ⟨b,hr,r1⟩:=Heavy_lp hg d (i + 1) (t + q) (by omega) (by omega) (by omega)
   have hw : wrap64 (t + q) = t + q:=Qak (by omega) (by omega)
   refine ⟨b,Ev.step (fun k => ?_) (Ev.bind (f:=fun k q => w5_Heavy.l0 k (wrap64 (t + q)) ((i + 1 : Nat) : Int) l0 l1 l2 l3) hq (by rw [hw]; exact hr)),fun hb => ?_⟩
   ·simp only [w5_Heavy.l0]
    rw [if_pos (by omega),if_pos ht,if_pos (by omega),Qdm hlt (by omega),rd_LOp_nat _ _ hlt]
    rfl
   ·obtain ⟨k1,k2⟩:=r1 hb
    refine ⟨by omega,fun j hj hij => ?_⟩
    rcases Nat.lt_or_ge i j with hj2 | hj2
    ·exact k2 j hj hj2
    ·obtain rfl : j = i:=by omega
     refine ⟨by omega,fun o ho => ?_⟩
     obtain ⟨z,hz,rfl⟩:=List.getElem_of_mem ho
     exact q3 (by omega) z hz (Nat.zero_le _)
  ·exact ⟨_,Ev.step (f:=fun _ => some (decide (t > 900))) (fun k => by simp only [w5_Heavy.l0]; rw [if_pos (by omega),if_neg ht]) (Ev.now _),fun hb => by have:=of_decide_eq_false hb; omega⟩
theorem Heavy_small2 {l0 : List (List SOp)} {l1 : List SElem} {l2 : List SOp} {l3 : List Int} (hg : GoodAsk l0 l1 l2 l3) : ∃ b,Ev (fun k => w5_Heavy.f k l0 l1 l2 l3) b /\ (b = false -> (∀ x ∈ l0,x.length <= 900 /\ Tiny x) /\ l1.length <= 900 /\ l3.length <= 900 /\ Tiny l2):=by
 have n1:=hg.n1
 have n2:=hg.n2
 have n3:=hg.n3
 obtain ⟨q,hq,q1,q2,q3⟩:=OpsWeight_small l2 hg.n2 hg.r2 _ 0 (l2.length : Int) (Nat.zero_add _) (by omega) (by omega)
 have hw : wrap64 ((wrap64 ((l1.length : Int) + (l3.length : Int))) + q) = (l1.length : Int) + (l3.length : Int) + q:=by
  rw [Qak (i:=(l1.length : Int) + (l3.length : Int)) (by omega) (by omega),Qak (by omega) (by omega)]
 obtain ⟨b,hb,hr⟩:=Heavy_lp hg _ 0 ((l1.length : Int) + (l3.length : Int) + q) (Nat.zero_add _) (by omega) (by omega)
 refine ⟨b,Ev.bind (f:=fun k q => w5_Heavy.l0 k (wrap64 ((wrap64 ((l1.length : Int) + (l3.length : Int))) + q)) 0 l0 l1 l2 l3) hq (by rw [hw]; exact hb),fun h => ?_⟩
 obtain ⟨h1,h2⟩:=hr h
 refine ⟨fun x hx => ?_,by omega,by omega,fun o ho => by obtain ⟨z,hz,rfl⟩:=List.getElem_of_mem ho; exact q3 (by omega) z hz (Nat.zero_le _)⟩
 obtain ⟨j,hj,rfl⟩:=List.getElem_of_mem hx
 exact h2 j hj (Nat.zero_le _)
end
section
theorem Tiny.smL {l : List SOp} (h : Tiny l) (hn : l.length <= 1000) : SmL l:=⟨by omega,fun o ho => by have:=h o ho; unfold tiny at this; unfold Sm2; exact ⟨by omega,by omega⟩⟩
theorem Tiny.smalls {l : List SOp} (h : Tiny l) (hn : l.length <= 1000) : smalls l = true:=good_smalls ⟨by omega,fun o ho => by have:=h o ho; unfold tiny at this; exact ⟨by omega,by omega⟩⟩
theorem Tiny.snoc {l : List SOp} (h : Tiny l) {o : SOp} (ho : tiny o) : Tiny (l ++ [o]):=by
 intro x hx
 rcases List.mem_append.1 hx with hx | hx
 ·exact h x hx
 ·rw [List.mem_singleton] at hx; subst hx; exact ho
end
section
theorem doc_Visible_ok {L : List SOp} (hs : smalls L = true) (h : RowOk L) : doc_Visible.f L = some (Qau L,0):=by
 unfold doc_Visible.f
 rw [tree_May_f hs,(Qci L).2 h,Option.bind_some,if_pos rfl,doc_Seen_f hs h]; rfl
theorem doc_Visible_no {L : List SOp} (hs : smalls L = true) (hm : mayB L = false) : doc_Visible.f L = some ([],1):=by
 unfold doc_Visible.f
 rw [tree_May_f hs,hm]; rfl
end
section
theorem num7_f (a : Int) : w7_num.f a = some a:=rfl
theorem repV_cases (L : List SOp) (s a n : Int) (t : ByteArray) : (∃ o c,c ≠ 0 /\ repV L s a n t = (o,c)) \/ (0 <= a /\ a <= ((Qau L).length : Int) /\ 0 <= n /\ n <= ((Qau L).length : Int) - a /\ repV L s a n t = (repO L s a.toNat n.toNat t,0)):=by
 unfold repV
 by_cases h1 : badB L s t = true
 ·rw [if_pos h1]; exact .inl ⟨_,1,by decide,rfl⟩
 ·rw [if_neg h1]
  by_cases h2 : limB L a n t
  ·rw [if_pos h2]; exact .inl ⟨_,2,by decide,rfl⟩
  ·rw [if_neg h2]
   by_cases h3 : n = 0 /\ t.toList.isEmpty = true
   ·rw [if_pos h3]; exact .inl ⟨_,3,by decide,rfl⟩
   ·rw [if_neg h3]
    by_cases h4 : mayB (L ++ [repO L s a.toNat n.toNat t]) = true
    ·rw [if_pos h4]
     unfold limB at h2
     exact .inr ⟨by omega,by omega,by omega,by omega,rfl⟩
    ·rw [if_neg h4]; exact .inl ⟨_,6,by decide,rfl⟩
theorem rep_f {L : List SOp} (hs : smalls L = true) (s a n : Int) {t : ByteArray} (ht : t.size <= 1000000) {o : SOp} {c : Int} (h : repV L s a n t = (o,c)) : edit_Replace.f L s a n t = some (o.f0,o.f1,o.f2,o.f3.f0,o.f3.f1,o.f3.f2,o.f4,o.f5,o.f6,o.f7,o.f8,c):=by
 unfold edit_Replace.f
 rw [if_pos ⟨hs,ht⟩,h]
end
section
theorem text_pq : (⟨#[112,113]⟩ : ByteArray).size <= 1000000 /\ (Qba (⟨#[112,113]⟩ : ByteArray)).length = 2:=⟨by decide +kernel,by decide +kernel⟩
theorem text_rs : (⟨#[114,115]⟩ : ByteArray).size <= 1000000 /\ (Qba (⟨#[114,115]⟩ : ByteArray)).length = 2:=⟨by decide +kernel,by decide +kernel⟩
theorem RElemsR_loop (o : SOp) (hx : Qbq o.f4 = true) (ht : o.f4.size <= 4000) (h12 : Qaj o <= 12) : ∀ d i,i + d = Qaj o -> Ev (fun k => r4_Elems.l0 k ((List.range i).map fun j : Nat => (⟨o.f0,o.f1,(j : Int)⟩ : SElem)) (i : Int) o.f0 o.f1 o.f2 o.f3.f0 o.f3.f1 o.f3.f2 o.f4 o.f5 o.f6 o.f7 o.f8) (Qan o):=by
 have hr : Ev (fun k => r4_Runes.f k o.f0 o.f1 o.f2 o.f3.f0 o.f3.f1 o.f3.f2 o.f4 o.f5 o.f6 o.f7 o.f8) (Qaj o : Int):=by
  have:=Runes_ev o.f4 (by omega)
  rw [if_pos hx] at this
  exact Ev.bind (f:=fun _ bt312 => some (bt312.1.length : Int)) this (Ev.now _)
 intro d
 induction d with
 | zero =>
  intro i hi
  obtain rfl : i = Qaj o:=by omega
  refine Ev.step (fun k => by simp only [r4_Elems.l0]; rfl) (Ev.bind hr ?_)
  refine Ev.congr (fun k => ?_) (Ev.now (Qan o))
  rw [if_neg (by omega)]
  rfl
 | succ d ih =>
  intro i hi
  have ih:=ih (i + 1) (by omega)
  rw [List.range_succ,List.map_append] at ih
  refine Ev.step (fun k => by simp only [r4_Elems.l0]; rfl) (Ev.bind hr ?_)
  refine Ev.congr (fun k => ?_) ih
  rw [if_pos (by omega),if_pos (by simp; omega),Qdm (show i < Qaj o by omega) (by omega)]
  rfl
theorem RElemsR_ev (o : SOp) (hx : Qbq o.f4 = true) (ht : o.f4.size <= 4000) (h12 : Qaj o <= 12) : Ev (fun k => r4_Elems.f k o.f0 o.f1 o.f2 o.f3.f0 o.f3.f1 o.f3.f2 o.f4 o.f5 o.f6 o.f7 o.f8) (Qan o):=RElemsR_loop o hx ht h12 (Qaj o) 0 (Nat.zero_add _)
theorem vis_f {M : List SOp} (hs : smalls M = true) : doc_Visible.f M = some (if mayB M = true then Qau M else [],if mayB M = true then 0 else 1):=by
 cases hm : mayB M
 ·rw [doc_Visible_no hs hm]; rfl
 ·rw [doc_Visible_ok hs ((Qci M).1 hm)]; rfl
theorem pq_size (L : List SOp) (s : Int) (a n : Nat) : Qaj (repO L s a n ⟨#[112,113]⟩) = 2:=text_pq.2
theorem rs_size (L : List SOp) (s : Int) (a n : Nat) : Qaj (repO L s a n ⟨#[114,115]⟩) = 2:=text_rs.2
theorem pq_ok (L : List SOp) (s : Int) (a n : Nat) : Qbq (repO L s a n ⟨#[112,113]⟩).f4 = true:=(show Qbq (⟨#[112,113]⟩ : ByteArray) = true by decide +kernel)
theorem rs_ok (L : List SOp) (s : Int) (a n : Nat) : Qbq (repO L s a n ⟨#[114,115]⟩).f4 = true:=(show Qbq (⟨#[114,115]⟩ : ByteArray) = true by decide +kernel)
theorem pq_tiny {L : List SOp} {s : Int} {a n : Nat} (h : (repO L s a n ⟨#[112,113]⟩).f5.length <= 1000) : tiny (repO L s a n ⟨#[112,113]⟩):=⟨show (⟨#[112,113]⟩ : ByteArray).size <= 4000 by decide +kernel,h⟩
theorem rs_tiny {L : List SOp} {s : Int} {a n : Nat} (h : (repO L s a n ⟨#[114,115]⟩).f5.length <= 1000) : tiny (repO L s a n ⟨#[114,115]⟩):=⟨show (⟨#[114,115]⟩ : ByteArray).size <= 4000 by decide +kernel,h⟩
theorem race_ab {L : List SOp} (h : RowOk L) {s1 s2 : Int} {at_ n bt : Nat} {t u : ByteArray} {a b : SOp} (ha : at_ + n <= (Qau L).length) (hb : bt <= (Qau L).length) (ea : a = repO L s1 at_ n t) (eb : b = repO L s2 bt 0 u) (hx : RowOk (L ++ [a] ++ [b])) (hy : RowOk (L ++ [b] ++ [a])) :
  Race (Qau L).length n (Qau (L ++ [a] ++ [b])) a b /\ Race (Qau L).length n (Qau (L ++ [b] ++ [a])) a b:=by
 subst ea eb
 exact race_both h ha hb hx hy
theorem race_len {x y l n za zb : Nat} (h1 : x + n = l + za + zb) (h2 : y + n = l + za + zb) (a2 : za = 2) (b2 : zb = 2) (hl : l <= 200) (hn : n <= l) : x <= 1000 /\ y <= 1000 /\ x + n = l + 2 + 2 /\ y + n = l + 2 + 2 /\ (x : Int) = (y : Int):=by
 subst a2 b2
 exact ⟨by omega,by omega,h1,h2,by omega⟩
theorem race_wrap {m l n : Nat} (hl : l <= 200 /\ n <= l) (h : m + n = l + 2 + 2) : (m : Int) = wrap64 (wrap64 ((l : Int) - (n : Int)) + 4):=by
 rw [Qak (i:=(l : Int) - (n : Int)) (by omega) (by omega),Qak (by omega) (by omega)]
 omega
section
variable {l0 : List (List SOp)} {l1 : List SElem} {l2 : List SOp} {l3 : List Int}
theorem rd_chain (o : SOp) {j : Nat} (h : j < Qaj o) : Qaa (Qan o) (j : Int) = ⟨o.f0,o.f1,(j : Int)⟩:=by
 rw [Qat _ _ (by rw [Qcf]; exact h)]
 have:=chain_at (o:=o) j h
 rw [List.getElem?_eq_getElem (by rw [Qcf]; exact h)] at this
 exact Zo this
theorem ER_round (x3 : Int) {L : List SOp} {v : List SElem} {q : Int} {s u : List SElem} {a b o : SOp} (hs : s.length <= 1000) (hu : u.length <= 1000) (ns : s.Nodup) (nu : u.Nodup) {j : Nat} (hj : j < 2) (ho : Qam [Qan a,Qan b] (j : Int) = Qan o) (zo : Qaj o = 2)
  (fs : ∃ X Y,s = X ++ Qan o ++ Y) (fu : ∃ X Y,u = X ++ Qan o ++ Y) (hnext : Ev (fun k => w7_EditRaces.l2 k x3 L v q s u [Qan a,Qan b] ((j + 1 : Nat) : Int) l0 l1 l2 l3) true) :
  Ev (fun k => w7_EditRaces.l2 k x3 L v q s u [Qan a,Qan b] (j : Int) l0 l1 l2 l3) true:=by
 have p1 : (j : Int) < 2:=by omega
 have p2 : (0 : Int) <= (j : Int):=by omega
 have hw : wrap64 ((j : Int) + 1) = ((j + 1 : Nat) : Int):=Qdm (n:=2) hj (by decide)
 have zl : (Qan o).length = 2:=by rw [Qcf,zo]
 have q1 : (0 : Int) < ((Qan o).length : Int):=by rw [zl]; decide
 have q2 : (1 : Int) < ((Qan o).length : Int):=by rw [zl]; decide
 have z0 : 0 < Qaj o:=by omega
 have z1 : 1 < Qaj o:=by omega
 have s9 : s.length <= 1000000000:=Nat.le_trans hs (by decide)
 have u9 : u.length <= 1000000000:=Nat.le_trans hu (by decide)
 obtain ⟨X,Y,eX⟩:=fs
 obtain ⟨U,V,eU⟩:=fu
 have hX : X.length < 1001:=by rw [eX,List.length_append,List.length_append] at hs; omega
 have hU : U.length < 1001:=by rw [eU,List.length_append,List.length_append] at hu; omega
 have n1 : ¬ ((X.length + 0 : Nat) : Int) < 0:=Int.not_lt.2 (Int.natCast_nonneg _)
 have n2 : ¬ ((U.length + 0 : Nat) : Int) < 0:=Int.not_lt.2 (Int.natCast_nonneg _)
 have w1 : wrap64 (((X.length + 0 : Nat) : Int) + 1) = ((X.length + 1 : Nat) : Int):=Qdm (n:=1001) hX (by decide)
 have w2 : wrap64 (((U.length + 0 : Nat) : Int) + 1) = ((U.length + 1 : Nat) : Int):=Qdm (n:=1001) hU (by decide)
 have A0:=At_ev s s9 ⟨o.f0,o.f1,((0 : Nat) : Int)⟩
 have A1:=At_ev s s9 ⟨o.f0,o.f1,((1 : Nat) : Int)⟩
 have B0:=At_ev u u9 ⟨o.f0,o.f1,((0 : Nat) : Int)⟩
 have B1:=At_ev u u9 ⟨o.f0,o.f1,((1 : Nat) : Int)⟩
 rw [block_idx ns eX z0] at A0
 rw [block_idx ns eX z1] at A1
 rw [block_idx nu eU z0] at B0
 rw [block_idx nu eU z1] at B1
 have r0' : Qaa (Qan o) 0 = ⟨o.f0,o.f1,((0 : Nat) : Int)⟩:=rd_chain o (j:=0) z0
 have r1' : Qaa (Qan o) 1 = ⟨o.f0,o.f1,((1 : Nat) : Int)⟩:=rd_chain o (j:=1) z1
 refine Ev.step (fun k => by simp only [w7_EditRaces.l2]; rw [if_pos p1,if_pos p2,if_pos (show (j : Int) < (([Qan a,Qan b] : List (List SElem)).length : Int) from p1),ho,if_pos q1,r0',r1']) (Ev.bind A0 (Ev.bind B0 ?_))
 refine Ev.congr (fun k => by rw [if_neg n1,if_neg n2,if_pos q2]) (Ev.bind A1 ?_)
 refine Ev.congr (fun k => by rw [w1,if_pos rfl]) (Ev.bind B1 ?_)
 refine Ev.step (fun k => ?_) hnext
 rw [w2,bne_self_eq_false]
 simp only [w7_EditRaces.j8]
 rw [if_neg (by decide),hw]
theorem ER_last (x3 : Int) {L : List SOp} {v : List SElem} {q : Int} {s u : List SElem} {own : List (List SElem)} (hnext : Ev (fun k => w7_EditRaces.l1 k x3 L v (wrap64 (q + 1)) l0 l1 l2 l3) true) : Ev (fun k => w7_EditRaces.l2 k x3 L v q s u own ((1 + 1 : Nat) : Int) l0 l1 l2 l3) true :=
 Ev.step (fun k => by simp only [w7_EditRaces.l2]; rw [if_neg (show ¬ ((1 + 1 : Nat) : Int) < 2 by omega)]) hnext
theorem ER_j6 (x3 : Int) {L : List SOp} {v : List SElem} {q : Int} {s u : List SElem} {a b : SOp} (sx : s.length <= 1000) (sy : u.length <= 1000) (ns : s.Nodup) (nu : u.Nodup) (za : Qaj a = 2) (zb : Qaj b = 2) (xa : Qbq a.f4 = true) (xb : Qbq b.f4 = true) (ta : tiny a) (tb : tiny b)
  (fa : ∃ X Y,s = X ++ Qan a ++ Y) (ga : ∃ X Y,u = X ++ Qan a ++ Y) (fb : ∃ X Y,s = X ++ Qan b ++ Y) (gb : ∃ X Y,u = X ++ Qan b ++ Y)
  (hnext : Ev (fun k => w7_EditRaces.l1 k x3 L v (wrap64 (q + 1)) l0 l1 l2 l3) true) :
  Ev (fun k => w7_EditRaces.j6 k x3 L v q s u false l0 l1 l2 l3 a.f0 a.f1 a.f2 a.f3.f0 a.f3.f1 a.f3.f2 a.f4 a.f5 a.f6 a.f7 a.f8 b.f0 b.f1 b.f2 b.f3.f0 b.f3.f1 b.f3.f2 b.f4 b.f5 b.f6 b.f7 b.f8) true:=by
 have h3:=ER_round x3 sx sy ns nu (j:=1) (by omega) (o:=b) (a:=a) (b:=b) rfl zb fb gb (ER_last x3 hnext)
 have h2:=ER_round x3 sx sy ns nu (j:=0) (by omega) (o:=a) (a:=a) (b:=b) rfl za fa ga h3
 refine Ev.step (fun k => by simp only [w7_EditRaces.j6]; rw [if_neg (by decide)]) (Ev.bind (RElemsR_ev a xa ta.1 (by omega)) (Ev.bind (RElemsR_ev b xb tb.1 (by omega)) ?_))
 exact h2
theorem ER_j5 (x3 : Int) {L : List SOp} {v : List SElem} {q : Int} {n : Nat} {s u : List SElem} {a b : SOp} (hv : v.length <= 200 /\ n <= v.length) (sx : s.length <= 1000) (sy : u.length <= 1000) (ns : s.Nodup) (nu : u.Nodup) (za : Qaj a = 2) (zb : Qaj b = 2) (xa : Qbq a.f4 = true) (xb : Qbq b.f4 = true) (ta : tiny a) (tb : tiny b)
  (fa : ∃ X Y,s = X ++ Qan a ++ Y) (ga : ∃ X Y,u = X ++ Qan a ++ Y) (fb : ∃ X Y,s = X ++ Qan b ++ Y) (gb : ∃ X Y,u = X ++ Qan b ++ Y) (ls : s.length + n = v.length + 2 + 2) (lu : u.length + n = v.length + 2 + 2) (e : (s.length : Int) = (u.length : Int))
  (hnext : Ev (fun k => w7_EditRaces.l1 k x3 L v (wrap64 (q + 1)) l0 l1 l2 l3) true) :
  Ev (fun k => w7_EditRaces.j5 k x3 L v q (n : Int) s 0 u 0 false l0 l1 l2 l3 a.f0 a.f1 a.f2 a.f3.f0 a.f3.f1 a.f3.f2 a.f4 a.f5 a.f6 a.f7 a.f8 b.f0 b.f1 b.f2 b.f3.f0 b.f3.f1 b.f3.f2 b.f4 b.f5 b.f6 b.f7 b.f8) true:=by
 have hw:=race_wrap hv ls
 refine Ev.step (fun k => ?_) (ER_j6 x3 sx sy ns nu za zb xa xb ta tb fa ga fb gb hnext)
 simp only [w7_EditRaces.j5,num7_f,Option.bind_some,if_true]
 rw [if_neg (by decide),if_pos e,<- hw,bne_self_eq_false]
theorem ER_j4a (x3 : Int) {L : List SOp} (h : RowOk L) (ht : Tiny L) {q : Nat} {a b : SOp} {n : Nat} (hn : n <= (Qau L).length) (ta : tiny a) (tb : tiny b) (za : Qaj a = 2) (zb : Qaj b = 2) (xa : Qbq a.f4 = true) (xb : Qbq b.f4 = true)
  (hrace : RowOk (L ++ [a] ++ [b]) -> RowOk (L ++ [b] ++ [a]) -> Race (Qau L).length n (Qau (L ++ [a] ++ [b])) a b /\ Race (Qau L).length n (Qau (L ++ [b] ++ [a])) a b)
  (hnext : Ev (fun k => w7_EditRaces.l1 k x3 L (Qau L) (wrap64 ((q : Int) + 1)) l0 l1 l2 l3) true) :
  Ev (fun k => w7_EditRaces.j4 k x3 L (Qau L) (q : Int) (n : Int) false l0 l1 l2 l3 a.f0 a.f1 a.f2 a.f3.f0 a.f3.f1 a.f3.f2 a.f4 a.f5 a.f6 a.f7 a.f8 b.f0 b.f1 b.f2 b.f3.f0 b.f3.f1 b.f3.f2 b.f4 b.f5 b.f6 b.f7 b.f8) true:=by
 have h40:=h.sums.1
 have h200:=seen_len h
 have hL6 : L.length <= 1000000:=by omega
 have hL7 : L.length + 1 <= 1000000:=by omega
 have hL8 : L.length + 1 + 1 <= 1000:=by omega
 have ta9 : a.f5.length <= 1000000000000:=by have:=ta.2; omega
 have tb9 : b.f5.length <= 1000000000000:=by have:=tb.2; omega
 have tL : ∀ M : List SOp,Tiny M -> ∀ o ∈ M,o.f5.length <= 1000000000000:=fun M hM o ho => by have:=(hM o ho).2; omega
 have ta1:=ht.snoc ta
 have tb1:=ht.snoc tb
 have tx:=ta1.snoc tb
 have ty:=tb1.snoc ta
 have lx : (L ++ [a] ++ [b]).length <= 1000:=by rw [List.length_append,List.length_append]; exact hL8
 have ly : (L ++ [b] ++ [a]).length <= 1000:=by rw [List.length_append,List.length_append]; exact hL8
 have hB1:=Behind_ev L hL6 (tL _ ht) a ta9
 have hB2:=Behind_ev (L ++ [a]) (by rw [List.length_append]; exact hL7) (tL _ ta1) b tb9
 have hB3:=Behind_ev L hL6 (tL _ ht) b tb9
 have hB4:=Behind_ev (L ++ [b]) (by rw [List.length_append]; exact hL7) (tL _ tb1) a ta9
 have hVx:=vis_f (tx.smalls lx)
 have hVy:=vis_f (ty.smalls ly)
 have hRx:=Row_ev _ (tx.smL lx)
 have hRy:=Row_ev _ (ty.smL ly)
 have hno : ∀ (s u : List SElem) (c d : Int),Ev (fun k => w7_EditRaces.j5 k x3 L (Qau L) (q : Int) (n : Int) s c u d true l0 l1 l2 l3 a.f0 a.f1 a.f2 a.f3.f0 a.f3.f1 a.f3.f2 a.f4 a.f5 a.f6 a.f7 a.f8 b.f0 b.f1 b.f2 b.f3.f0 b.f3.f1 b.f3.f2 b.f4 b.f5 b.f6 b.f7 b.f8) true:=fun s u c d =>
  Ev.step (fun k => by simp only [w7_EditRaces.j5]; rw [if_pos True.intro]) hnext
 refine Ev.step (fun k => by simp only [w7_EditRaces.j4]; rw [if_neg (by decide)]) (Ev.bind hB1 (Ev.bind hB2 (Ev.bind hB3 (Ev.bind hB4 ?_))))
 simp only [hVx,hVy,Option.bind_some]
 refine Ev.bind hRx ?_
 cases mx : mayB (L ++ [a] ++ [b])
 ·simp only [Bool.false_eq_true,if_false]
  exact hno _ _ _ _
 ·simp only [if_true]
  refine Ev.bind hRy ?_
  cases my : mayB (L ++ [b] ++ [a])
  ·simp only [Bool.false_eq_true,if_false,Bool.not_false]
   exact hno _ _ _ _
  ·simp only [if_true,Bool.not_true]
   have kx:=(Qci _).1 mx
   have ky:=(Qci _).1 my
   obtain ⟨rx,ry⟩:=hrace kx ky
   obtain ⟨sx,sy,l1',l2',e⟩:=race_len rx.len ry.len za zb h200 hn
   exact ER_j5 x3 ⟨h200,hn⟩ sx sy rx.nodup ry.nodup za zb xa xb ta tb rx.fst ry.fst rx.snd ry.snd l1' l2' e hnext
theorem ER_j4 (x3 : Int) {L : List SOp} (h : RowOk L) (ht : Tiny L) {q : Nat} {a b : SOp} {at_ n bt : Nat} (hn : at_ + n <= (Qau L).length) (hb : bt <= (Qau L).length) (ea : a = repO L 1 at_ n ⟨#[112,113]⟩) (eb : b = repO L 2 bt 0 ⟨#[114,115]⟩)
  (hnext : Ev (fun k => w7_EditRaces.l1 k x3 L (Qau L) (wrap64 ((q : Int) + 1)) l0 l1 l2 l3) true) :
  Ev (fun k => w7_EditRaces.j4 k x3 L (Qau L) (q : Int) (n : Int) false l0 l1 l2 l3 a.f0 a.f1 a.f2 a.f3.f0 a.f3.f1 a.f3.f2 a.f4 a.f5 a.f6 a.f7 a.f8 b.f0 b.f1 b.f2 b.f3.f0 b.f3.f1 b.f3.f2 b.f4 b.f5 b.f6 b.f7 b.f8) true:=by
 have h200:=seen_len h
 have hn9 : n <= 1000:=by omega
 have hga:=rep_gone h (s:=1) (t:=(⟨#[112,113]⟩ : ByteArray)) hn
 have hgb:=rep_gone h (s:=2) (a:=bt) (n:=0) (t:=(⟨#[114,115]⟩ : ByteArray)) hb
 have za : Qaj a = 2:=by rw [ea]; exact pq_size _ _ _ _
 have zb : Qaj b = 2:=by rw [eb]; exact rs_size _ _ _ _
 have ta : tiny a:=by rw [ea]; exact pq_tiny (by rw [hga.2.1]; exact hn9)
 have tb : tiny b:=by rw [eb]; exact rs_tiny (by rw [hgb.2.1]; exact Nat.zero_le _)
 have xa : Qbq a.f4 = true:=by rw [ea]; exact pq_ok _ _ _ _
 have xb : Qbq b.f4 = true:=by rw [eb]; exact rs_ok _ _ _ _
 exact ER_j4a x3 h ht (Nat.le_trans (Nat.le_add_left _ _) hn) ta tb za zb xa xb (fun kx ky => race_ab h hn hb ea eb kx ky) hnext
theorem nat4 {x y : Int} {m : Nat} (a1 : 0 <= x) (a2 : x <= (m : Int)) (a3 : 0 <= y) (a4 : y <= (m : Int) - x) : y = (y.toNat : Int) /\ x.toNat + y.toNat <= m:=⟨by omega,by omega⟩
theorem nat2 {y : Int} {m : Nat} (b2 : y <= (m : Int)) : y.toNat <= m:=by omega
theorem ER_j3 (x3 : Int) {L : List SOp} (h : RowOk L) (ht : Tiny L) {q : Nat} (hq : q < 6) (x7 x8 : Int) (hnext : Ev (fun k => w7_EditRaces.l1 k x3 L (Qau L) (wrap64 ((q : Int) + 1)) l0 l1 l2 l3) true) :
  Ev (fun k => w7_EditRaces.j3 k x3 L (Qau L) (q : Int) x7 x8 l0 l1 l2 l3) true:=by
 have h40:=h.sums.1
 have h200:=seen_len h
 have hs:=ht.smalls (by omega)
 have hw : ¬ wrap64 (((Qau L).length : Int) + 1) = 0:=by rw [Qak (by omega) (by omega)]; omega
 generalize hy : Int.tmod (wrap64 ((q : Int) * 5)) (wrap64 (((Qau L).length : Int) + 1)) = y
 have hno : ∀ (a b : SOp),Ev (fun k => w7_EditRaces.j4 k x3 L (Qau L) (q : Int) x8 true l0 l1 l2 l3 a.f0 a.f1 a.f2 a.f3.f0 a.f3.f1 a.f3.f2 a.f4 a.f5 a.f6 a.f7 a.f8 b.f0 b.f1 b.f2 b.f3.f0 b.f3.f1 b.f3.f2 b.f4 b.f5 b.f6 b.f7 b.f8) true:=fun a b =>
  Ev.step (fun k => by simp only [w7_EditRaces.j4]; rw [if_pos True.intro]) hnext
 obtain ⟨b,d,hrb⟩ : ∃ b d,repV L 2 y 0 ⟨#[114,115]⟩ = (b,d):=⟨_,_,rfl⟩
 have fb:=rep_f hs 2 y 0 text_rs.1 hrb
 rcases repV_cases L 1 x7 x8 ⟨#[112,113]⟩ with ⟨a,c,hc,hra⟩ | ⟨a1,a2,a3,a4,hra⟩
 ·have fa:=rep_f hs 1 x7 x8 text_pq.1 hra
  refine Ev.step (fun k => ?_) (hno a b)
  simp only [w7_EditRaces.j3]
  rw [fa,Option.bind_some,if_neg hw,hy,fb,Option.bind_some]
  simp only [num7_f,Option.bind_some]
  rw [if_neg hc]
 ·obtain ⟨a,ea⟩ : ∃ a : SOp,a = repO L 1 x7.toNat x8.toNat ⟨#[112,113]⟩:=⟨_,rfl⟩
  rw [<- ea] at hra
  have fa:=rep_f hs 1 x7 x8 text_pq.1 hra
  rcases repV_cases L 2 y 0 ⟨#[114,115]⟩ with ⟨b',c,hc,hrb'⟩ | ⟨b1,b2,b3,b4,hrb'⟩
  ·rw [hrb'] at hrb
   obtain ⟨rfl,rfl⟩:=Prod.mk.inj hrb
   refine Ev.step (fun k => ?_) (hno a b')
   simp only [w7_EditRaces.j3]
   rw [fa,Option.bind_some,if_neg hw,hy,fb,Option.bind_some]
   simp only [num7_f,Option.bind_some,if_true]
   rw [bne_iff_ne.2 hc]
  ·rw [Int.toNat_zero] at hrb'
   rw [hrb'] at hrb
   obtain ⟨eb,ed⟩:=Prod.mk.inj hrb
   have eb:=eb.symm
   subst ed
   obtain ⟨e8,e9⟩:=nat4 a1 a2 a3 a4
   have e10:=nat2 b2
   clear hrb hrb' hra
   have hj:=ER_j4 (l0:=l0) (l1:=l1) (l2:=l2) (l3:=l3) x3 h ht (q:=q) (at_:=x7.toNat) (n:=x8.toNat) (bt:=y.toNat) e9 e10 ea eb hnext
   clear ea eb
   rw [<- e8] at hj
   refine Ev.step (fun k => ?_) hj
   simp only [w7_EditRaces.j3]
   rw [fa,Option.bind_some,if_neg hw,hy,fb,Option.bind_some]
   simp only [num7_f,Option.bind_some,if_true,bne_self_eq_false]
theorem ER_l1 (x3 : Int) {L : List SOp} (h : RowOk L) (ht : Tiny L) (hnext : Ev (fun k => w7_EditRaces.l0 k (wrap64 (x3 + 1)) l0 l1 l2 l3) true) : ∀ (d q : Nat),q + d = 6 -> Ev (fun k => w7_EditRaces.l1 k x3 L (Qau L) (q : Int) l0 l1 l2 l3) true
 | 0,q,hq => Ev.step (fun k => by simp only [w7_EditRaces.l1]; rw [if_neg (by omega)]) hnext
 | d + 1,q,hq => by
  have ih:=ER_l1 x3 h ht hnext d (q + 1) (by omega)
  have h200:=seen_len h
  have hw : ¬ wrap64 (((Qau L).length : Int) + 1) = 0:=by rw [Qak (by omega) (by omega)]; omega
  have hwq : wrap64 ((q : Int) + 1) = ((q + 1 : Nat) : Int):=by rw [Qak (by omega) (by omega)]; omega
  rw [<- hwq] at ih
  by_cases hlt : (Int.tmod (wrap64 ((wrap64 ((q : Int) * 3)) + x3)) (wrap64 (((Qau L).length : Int) + 1))) < ((Qau L).length : Int)
  ·refine Ev.step (fun k => ?_) (ER_j3 x3 h ht (by omega) (Int.tmod (wrap64 ((wrap64 ((q : Int) * 3)) + x3)) (wrap64 (((Qau L).length : Int) + 1))) (Int.tmod (q : Int) 2) ih)
   simp only [w7_EditRaces.l1]
   rw [if_pos (show (q : Int) < 6 by omega),if_neg hw,if_pos hlt]
  ·refine Ev.step (fun k => ?_) (ER_j3 x3 h ht (by omega) (Int.tmod (wrap64 ((wrap64 ((q : Int) * 3)) + x3)) (wrap64 (((Qau L).length : Int) + 1))) 0 ih)
   simp only [w7_EditRaces.l1]
   rw [if_pos (show (q : Int) < 6 by omega),if_neg hw,if_neg hlt]
theorem ER_end (x : Int) : Ev (fun k => w7_EditRaces.j1 k x false l0 l1 l2 l3) true :=
 Ev.step (f:=fun _ => some true) (fun k => by simp only [w7_EditRaces.j1]; rw [if_neg (by decide)]; rfl) (Ev.now _)
theorem ER_l0 (hg : GoodAsk l0 l1 l2 l3) (hsm : ∀ x ∈ l0,x.length <= 900 /\ Tiny x) : ∀ d i,i + d = l0.length -> Ev (fun k => w7_EditRaces.l0 k (i : Int) l0 l1 l2 l3) true
 | 0,i,h => by
  refine Ev.step (fun k => ?_) (ER_end (l0:=l0) (l1:=l1) (l2:=l2) (l3:=l3) (i : Int))
  simp only [w7_EditRaces.l0]; rw [if_neg (by omega)]
 | d + 1,i,h => by
  have ih:=ER_l0 hg hsm d (i + 1) (by omega)
  have hn0:=hg.n0
  have hlt : i < l0.length:=by omega
  have hw : wrap64 ((i : Int) + 1) = ((i + 1 : Nat) : Int):=Qdm hlt (by omega)
  by_cases h4 : (i : Int) < 4
  ·obtain ⟨hn,ht⟩:=hsm _ (List.getElem_mem hlt)
   have hR:=Row_ev l0[i] (ht.smL (by omega))
   refine Ev.step (f:=fun k => w7_EditRaces.j1 k (i : Int) true l0 l1 l2 l3) (fun k => ?_) ?_
   ·simp only [w7_EditRaces.l0]; rw [if_pos (by omega),Zd h4]
   ·refine Ev.step (fun k => by simp only [w7_EditRaces.j1]; rw [if_pos True.intro,if_pos (by omega),if_pos (by omega),rd_LOp_nat _ _ hlt]) (Ev.bind hR ?_)
    cases hm : mayB l0[i]
    ·simp only [Bool.false_eq_true,if_false]
     rw [hw]; exact ih
    ·have hr:=(Qci _).1 hm
     simp only [if_true]
     refine Ev.bind (Visible_ev (ht.smL (by omega)) hr) ?_
     exact ER_l1 (i : Int) hr ht (by rw [hw]; exact ih) 6 0 rfl
  ·refine Ev.step (fun k => ?_) (ER_end (l0:=l0) (l1:=l1) (l2:=l2) (l3:=l3) (i : Int))
   simp only [w7_EditRaces.l0]; rw [if_pos (by omega),Ze h4]
end
theorem PureEditRaces (l0 : List (List SOp)) (l1 : List SElem) (l2 : List SOp) (l3 : List Int) (hg : GoodAsk l0 l1 l2 l3) : ∃ k,w7_EditRaces.f k l0 l1 l2 l3 = some true:=by
 obtain ⟨b,hb,hsm⟩:=Heavy_small2 hg
 refine Ev.rounds (Ev.bind (f:=fun k t => if t = true then some true else w7_EditRaces.l0 k 0 l0 l1 l2 l3) hb ?_)
 cases b
 ·obtain ⟨k1,_⟩:=hsm rfl
  exact Ev.congr (fun k => if_neg (by decide)) (ER_l0 hg k1 _ 0 (Nat.zero_add _))
 ·exact Ev.congr (fun k => if_pos rfl) (Ev.now true)
end
end Go.Proofs.YtlllghajjamdpaaGreatDoor.L
end
