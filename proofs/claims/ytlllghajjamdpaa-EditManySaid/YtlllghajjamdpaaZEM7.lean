/- Part 7 of the proof that for every argument the law EditMany answers true: many edits, one behind the other, by sites in turn, are each a row's next op; the text is as if each had been done to it plainly. -/
import Derived.Test.YtlllghajjamdpaaZEM6
section
namespace Go.Proofs.Ytlllghajjamdpaa.L
open Go.RowKit Go.Proofs.YtlllghajjamdpaaW.PrintWords Go.Proofs.YtlllghajjamdpaaW.PrintLast Go.Proofs.YtlllghajjamdpaaW.PrintMore
set_option linter.unusedVariables false
set_option linter.unusedSimpArgs false
set_option maxHeartbeats 40000000
set_option maxRecDepth 1000000
section
section
variable {P : Program} {ops : Array Oper} {rest : List Oper} {o : Oper} {a : Act} {Q : Exit -> Act -> World -> Prop}
theorem lit_event {W : World} (hgd : o.guard = none) {N : Tmp} (_hd : o.dst = some N) {cs : Array Value} {t : TypeId} {n : Nat}
  (hrun : (execOp a.eval o).run P W = .ok (.value (.slice (some ⟨W.heap.size,0,none⟩) n n)) (W.alloc (.cells cs t (0,0))))
  (h : ∀ g,g = W.heap.size -> ∀ w1,w1.heap[g]? = some (.cells cs t (0,0)) -> Below W.heap.size W w1 -> wpList P ops Q rest (a.put o.dst (.slice (some ⟨g,0,none⟩) n n)) w1) : wpList P ops Q (o :: rest) a W :=
 Kd.event_run hgd hrun (h _ rfl _ (blk_new W _) (Qad (Below.refl _ _) _))
end
theorem one_reads {Rr : SOp -> List Value -> Prop} {W : World} {g : Nat} {o : SOp} {cells : List Value} {t : TypeId} (hb : W.heap[g]? = some (.cells cells.toArray t (0,0))) (hl : cells.length = 11) (hR : Rr o cells) : Qbe Rr kOp.sz W (some ⟨g,0,none⟩) 1 [o]:=by
 refine ⟨rfl,by omega,fun _ => ⟨_,rfl,fun j p hp => ?_⟩⟩
 have hj : j = 0:=by
  rcases j with _ | j
  ·rfl
  ·simp at hp
 subst hj
 simp only [List.getElem?_cons_zero,Option.some.injEq] at hp
 subst hp
 refine ⟨cells,hl,hR,fun i u hu => ?_⟩
 have ea : (⟨g,0,none⟩ : Addr).add (0 * kOp.sz + i) = ⟨g,i,none⟩:=by rw [Addr.add_lit,Nat.zero_mul,Nat.zero_add,Nat.zero_add]
 rw [ea,blk_cell hb i]
 simpa using hu
theorem one_op {W : World} {base g : Nat} {a0 a1 a2 a3 a4 a5 : Int} {a6 : ByteArray} {A7 : Option Addr} {m c7 : Nat} {l7 : List SElem} {a8 a9 a10 : Int} {t : TypeId} (hb : W.heap[g]? = some (.cells #[.int .i64 a0, .int .i64 a1, .int .i64 a2, .int .i64 a3, .int .i64 a4, .int .i64 a5, .string a6, .slice A7 m c7, .int .i64 a8, .int .i64 a9, .int .i64 a10] t (0,0))) (hR : RE W base (.slice A7 m c7) l7) : Kd.C kOp W (some ⟨g,0,none⟩) 1 [⟨a0,a1,a2,⟨a3,a4,a5⟩,a6,l7,a8,a9,a10⟩]:=by
 obtain ⟨rfl,h2,h3⟩:=Kd.R_reads' hR
 exact one_reads (cells:=[.int .i64 a0, .int .i64 a1, .int .i64 a2, .int .i64 a3, .int .i64 a4, .int .i64 a5, .string a6, .slice A7 l7.length c7, .int .i64 a8, .int .i64 a9, .int .i64 a10]) hb rfl (kOp_mk W ⟨a0,a1,a2,⟨a3,a4,a5⟩,a6,l7,a8,a9,a10⟩ h2 h3)
theorem insW : edit_Insert.f [] 1 0 (⟨#[97,98]⟩ : ByteArray) = some (1,1,1,0,0,0,(⟨#[97,98]⟩ : ByteArray),[],0,0,0,0):=by kernel_rfl
theorem txtW : doc_Text.f [⟨1,1,1,⟨0,0,0⟩,⟨#[97,98]⟩,[],0,0,0⟩] = some ((⟨#[97,98]⟩ : ByteArray),0):=by decide +kernel
theorem wakes7 (w : World) : Calls Try.prog 6 #[] w fun e w' => e = .returned (.bool true) /\ Below w.heap.size w w':=by
 have HB:=Zz.k (Below.refl w.heap.size w)
 go_enter Try.func6,Try.ntmps6
 go_wp2_with (first | ((with_reducible refine Qac (f:=19) rfl ?_); refine gl (some 6) Try.func19 #[.slice none 0 0, .int .i64 1, .int .i64 0, .string (⟨#[97,98]⟩ : ByteArray)] (h := ?_); (refine (edit_Insert.calls none 0 [] 1 0 (⟨#[97,98]⟩ : ByteArray) 1 1 1 0 0 0 (⟨#[97,98]⟩ : ByteArray) [] 0 0 0 0 _ (Kd.C_nil _ _) (Nat.le_refl _) insW).mono ?_); rintro e w2 ⟨v7,rfl,hR,hb⟩; obtain ⟨A7,c7,rfl⟩:=Kd.R_slice hR; refine ⟨_,rfl, ?_⟩; have HR7:=Zz.k hR; replace HB:=bs HB hb; clear hb hR) | ((with_reducible refine Qaf (N:=1) rfl ?_); refine bx 1 #[.int .i64 0, .int .i64 0, .int .i64 0, .int .i64 0, .int .i64 0, .int .i64 0, .string (⟨#[]⟩ : ByteArray), .slice none 0 0, .int .i64 0, .int .i64 0, .int .i64 0] 32 (h := ?_); intro gb1 hg w3 hbox hb; have BK1:=Zz.k hbox; have GE1:=Zz.k ((by rw [hg]; exact (Qap (bw HB)) : w.heap.size <= gb1)); replace HR7:=rb HR7 hb; replace HB:=bs HB hb; clear hb hbox hg; obtain ⟨_,_,_,_,_,_,_,_,_,_,_,_,_,_,_,_,_,_,_,_,_,_⟩:=kc11 BK1) | ((with_reducible refine Qaf (N:=11) rfl ?_); refine lit_event rfl rfl (cs:=#[.int .i64 1, .int .i64 1, .int .i64 1, .int .i64 0, .int .i64 0, .int .i64 0, .string (⟨#[97,98]⟩ : ByteArray), .slice A7 0 c7, .int .i64 0, .int .i64 0, .int .i64 0]) (t:=32) (n:=1) (hrun:=by first | (go_simp; done) | (go_simp; rfl)) ?_; intro gb2 hg w4 hbox hb; have HR8:=Zz.k (Kd.R_below (put11_R HR7.out BK1.out (.int .i64 1) (.int .i64 1) (.int .i64 1) (.int .i64 0) (.int .i64 0) (.int .i64 0) (.string (⟨#[97,98]⟩ : ByteArray)) (.slice A7 0 c7) (.int .i64 0) (.int .i64 0) (.int .i64 0)) hb); have BK2:=Zz.k hbox; replace HB:=bs HB hb; replace BK1:=Zz.k (blk_below (bp11 (kk BK1)) hb); clear hb hbox hg HR7) | ((with_reducible refine Qac (f:=7) rfl ?_); refine gl (some 12) Try.func7 #[.slice (some ⟨gb2,0,none⟩) 1 1] (h := ?_); (refine (doc_Text.calls (some ⟨gb2,0,none⟩) 1 [⟨1,1,1,⟨0,0,0⟩,⟨#[97,98]⟩,[],0,0,0⟩] (⟨#[97,98]⟩ : ByteArray) 0 _ (one_op BK2.out HR8.out) (Nat.le_refl _) txtW).mono ?_); rintro e w5 ⟨rfl,hb⟩; refine ⟨_,rfl, ?_⟩; replace HB:=bs HB hb; replace BK1:=bl BK1 hb; clear hb; obtain ⟨_,_,_,_,_,_,_,_,_,_,_,_,_,_,_,_,_,_,_,_,_,_⟩:=kc11 BK1) | ((with_reducible refine Qaf (N:=16) rfl ?_); (try (refine Qah (by rfl) ?_; dsimp only)); refine gl (some 16) Try.func5 #[.int .i64 0] (h := ?_); (refine (w7_num.calls 0 0 _ rfl).mono ?_); rintro e w6 ⟨rfl,hd⟩; refine ⟨_,rfl, ?_⟩; have hb:=hd.below; replace HB:=bs HB hb; replace BK1:=bl BK1 hb; clear hb hd; obtain ⟨_,_,_,_,_,_,_,_,_,_,_,_,_,_,_,_,_,_,_,_,_,_⟩:=kc11 BK1) | ((with_reducible refine Qaf (N:=20) rfl ?_); (try (refine Qah (by rfl) ?_; dsimp only)); refine gl (some 20) Try.func5 #[.int .i64 0] (h := ?_); (refine (w7_num.calls 0 0 _ rfl).mono ?_); rintro e w6 ⟨rfl,hd⟩; refine ⟨_,rfl, ?_⟩; have hb:=hd.below; replace HB:=bs HB hb; replace BK1:=bl BK1 hb; clear hb hd; obtain ⟨_,_,_,_,_,_,_,_,_,_,_,_,_,_,_,_,_,_,_,_,_,_⟩:=kc11 BK1))
 go_ret
 exact ⟨rfl,bw HB⟩
def w7_wakes.f : Option Bool:=some true
end
section
def Asc (l : List SElem) : Prop:=l.Pairwise fun a b => Qca a b = true
def Weak (l : List SElem) : Prop:=l.Pairwise fun a b => Qca b a = false
theorem el_eq {a b : SElem} (h1 : Qca a b = false) (h2 : Qca b a = false) : a = b:=by
 rw [elLess_not] at h1 h2
 cases a; cases b
 simp only at h1 h2
 rw [SElem.mk.injEq]
 exact ⟨by omega,by omega,by omega⟩
theorem el_asymm {a b : SElem} (h1 : Qca a b = true) : Qca b a = false:=by rw [elLess_not]; rw [elLess_iff] at h1; omega
theorem sort_weak (l : List SElem) : Weak (sortL l):=by
 have:=List.pairwise_mergeSort (le:=fun x y => !Qca y x) (fun a b c h1 h2 => by
  simp only [Bool.not_eq_true'] at h1 h2 ⊢
  rw [elLess_not] at h1 h2 ⊢; omega) (fun a b => by
  cases h : Qca b a
  ·rfl
  ·rw [el_asymm h]; rfl) l
 exact this.imp (fun h => by simpa using h)
theorem sort_mem (l : List SElem) (e : SElem) : e ∈ sortL l ↔ e ∈ l:=(List.mergeSort_perm l _).mem_iff
end
section
theorem runesBytes_from (ns : List Int) : ∀ s : ByteArray,ns.foldl (fun r n => r ++ Utf8.encode n) s = s ++ runesBytes ns:=by
 induction ns with
 | nil => intro s; show s = s ++ ByteArray.empty; exact ByteArray.append_empty.symm
 | cons n ns ih =>
  intro s
  unfold runesBytes
  rw [List.foldl_cons,List.foldl_cons,ih,ih,ByteArray.empty_append,ByteArray.append_assoc]
theorem runesBytes_app (a b : List Int) : runesBytes (a ++ b) = runesBytes a ++ runesBytes b:=by
 rw [<- runesBytes_from b (runesBytes a)]; unfold runesBytes; rw [List.foldl_append]
theorem runesBytes_one (r : Int) : runesBytes [r] = Utf8.encode r:=by
 unfold runesBytes; rw [List.foldl_cons,List.foldl_nil,ByteArray.empty_append]
end
section
theorem tog_at {l : List SOp} {t : SOp} (h : RowOk l) (hn : NextOk l t) {e : SElem} (he : e ∈ ordL l) : atR (l ++ [t]) e = atR l e:=by
 obtain ⟨p,hp,e0,e1,_,_⟩:=(Qbx h e).1 he
 obtain ⟨i,hi,ef,_⟩:=findOp_mem h hp
 rw [e0,e1] at ef
 have hf:=hn.fresh h p hp
 unfold atR
 rw [findOp_app_other l t e.f0 e.f1 (by rw [<- e0,<- e1]; exact fun hh => hf ⟨hh.1.symm,hh.2.symm⟩),ef,rd_Op_app _ _ _ hi]
end
section
theorem chain_new {L : List SOp} {o : SOp} (h : RowOk L) (hn : NextOk L o) {e : SElem} (he : e ∈ Qao o) : e ∉ ordL L:=by
 intro hm
 obtain ⟨p,hp,e0,e1,_⟩:=(Qbx h e).1 hm
 have hc:=(mem_chain o e).1 he
 exact hn.fresh h p hp ⟨by omega,by omega⟩
theorem wr_ord {L : List SOp} (h : RowOk L) {e : SElem} (hw : wr L e) (hb : Qan e = false) : e ∈ ordL L:=by
 rcases hw with h1 | ⟨h0,p,hp,k0,k1,k2⟩
 ·rw [hb] at h1; cases h1
 ·exact (Qbx h _).2 ⟨p,hp,k0,k1,h0,k2⟩
theorem gone_old {L : List SOp} {o : SOp} (h : RowOk L) (hn : NextOk L o) {e : SElem} (he : e ∈ o.f5) : e ∈ ordL L:=wr_ord h (hn.gone e he) (opOk_goneMem hn.ok e he).1
theorem goneE_old {L : List SOp} (h : RowOk L) {e : SElem} (hg : goneE L e = true) : e ∈ ordL L:=by
 unfold goneE at hg
 rw [List.any_eq_true] at hg
 obtain ⟨p,hp,hq⟩:=hg
 rw [Bool.and_eq_true,decide_eq_true_iff] at hq
 obtain ⟨i,hi,rfl⟩:=List.getElem_of_mem hp
 obtain ⟨hn,hr⟩:=isPrefix_next h i hi
 have hm:=gone_old hr hn hq.2
 obtain ⟨q,hq,k⟩:=(Qbx hr e).1 hm
 exact (Qbx h e).2 ⟨q,List.mem_of_mem_take hq,k⟩
theorem ord_snoc {L : List SOp} {o : SOp} (h : RowOk L) (hn : NextOk L o) (e : SElem) : e ∈ ordL (L ++ [o]) ↔ e ∈ ordL L \/ e ∈ Qao o:=by
 rw [Qbx (.snoc h hn),Qbx h,mem_chain]
 constructor
 ·rintro ⟨p,hp,k⟩
  rcases List.mem_append.1 hp with hp | hp
  ·exact .inl ⟨p,hp,k⟩
  ·rw [List.mem_singleton] at hp; subst hp; exact .inr k
 ·rintro (⟨p,hp,k⟩ | k)
  ·exact ⟨p,List.mem_append_left _ hp,k⟩
  ·exact ⟨o,List.mem_append_right _ (List.mem_singleton.2 rfl),k⟩
theorem new_works {L : List SOp} {o : SOp} (h : RowOk L) (hn : NextOk L o) (h1 : o.f2 = 1) : workE (L ++ [o]) o = true:=by
 unfold workE
 rw [cnt_other (by omega),cnt_fresh h (hn.fresh h),h1]; rfl
theorem ins_seen {L : List SOp} {o : SOp} (h : RowOk L) (hn : NextOk L o) (h1 : o.f2 = 1) : Qak (L ++ [o]) = (ordL (L ++ [o])).filter fun e => decide (e ∈ Qao o) || (decide (e ∈ Qak L) && !decide (e ∈ o.f5)):=by
 have hw : ∀ p,workE (L ++ [o]) p = workE L p:=fun p => workE_cnt (cnt_other (by omega) _ _)
 have hwo:=new_works h hn h1
 show (ordL (L ++ [o])).filter _ = _
 refine List.filter_congr fun e he => ?_
 have hgo : goneE (L ++ [o]) e = (goneE L e || decide (e ∈ o.f5)):=by
  unfold goneE
  rw [List.any_append,any_same L _ (fun p => workE L p && decide (e ∈ p.f5)) (fun p _ => by rw [hw])]
  congr 1
  rw [List.any_cons,List.any_nil,Bool.or_false,hwo,Bool.true_and]
 have hth : thereE (L ++ [o]) e = (thereE L e || decide (e ∈ Qao o)):=by
  unfold thereE
  rw [List.any_append,any_same L _ (fun p => workE L p && decide (e ∈ Qao p)) (fun p _ => by rw [hw])]
  congr 1
  rw [List.any_cons,List.any_nil,Bool.or_false,hwo,Bool.true_and]
 rw [hgo,hth]
 by_cases hc : e ∈ Qao o
 ·have hno:=chain_new h hn hc
  have g1 : goneE L e = false:=by
   cases hg : goneE L e
   ·rfl
   ·exact absurd (goneE_old h hg) hno
  have g2 : e ∉ o.f5:=fun hx => hno (gone_old h hn hx)
  rw [g1,Ze g2,Zd hc]
  cases thereE L e <;> rfl
 ·have ho : e ∈ ordL L:=by
   rcases (ord_snoc h hn e).1 he with h2 | h2
   ·exact h2
   ·exact absurd h2 hc
  have hs : decide (e ∈ Qak L) = !(goneE L e || !thereE L e):=by
   rw [Bool.eq_iff_iff,decide_eq_true_iff,seen_mem]
   cases goneE L e <;> cases thereE L e <;> simp [ho]
  rw [hs,Ze hc]
  cases goneE L e <;> cases thereE L e <;> cases decide (e ∈ o.f5) <;> rfl
theorem cut_here (v : List SElem) (hv : v.Nodup) (a n : Nat) : (v.take a).filter (fun e => !decide (e ∈ (v.drop a).take n)) = v.take a /\ (v.drop a).filter (fun e => !decide (e ∈ (v.drop a).take n)) = v.drop (a + n):=by
 have hs : v = v.take a ++ v.drop a:=(List.take_append_drop _ _).symm
 have hnd:=hv
 rw [hs] at hnd
 obtain ⟨_,n2,n3⟩:=List.nodup_append.1 hnd
 constructor
 ·rw [List.filter_eq_self]
  intro e he
  rw [Bool.not_eq_true',decide_eq_false_iff_not]
  exact fun hx => n3 e he e (List.mem_of_mem_take hx) rfl
 ·have hd : v.drop a = (v.drop a).take n ++ (v.drop a).drop n:=(List.take_append_drop _ _).symm
  have n4:=n2
  rw [hd] at n4
  obtain ⟨_,_,n5⟩:=List.nodup_append.1 n4
  have e1 : ((v.drop a).take n).filter (fun e => !decide (e ∈ (v.drop a).take n)) = []:=by
   rw [List.filter_eq_nil_iff]
   intro e he
   rw [Zd he]; decide
  have e2 : ((v.drop a).drop n).filter (fun e => !decide (e ∈ (v.drop a).take n)) = (v.drop a).drop n:=by
   rw [List.filter_eq_self]
   intro e he
   rw [Bool.not_eq_true',decide_eq_false_iff_not]
   exact fun hx => n5 e hx e he rfl
  have e3 : (v.drop a).filter (fun e => !decide (e ∈ (v.drop a).take n)) = ((v.drop a).take n).filter (fun e => !decide (e ∈ (v.drop a).take n)) ++ ((v.drop a).drop n).filter (fun e => !decide (e ∈ (v.drop a).take n)):=by
   rw [<- List.filter_append,<- hd]
  rw [e3,e1,e2,List.nil_append,List.drop_drop]
theorem seen_sub (L : List SOp) : (ordL L).filter (fun e => decide (e ∈ Qak L)) = Qak L:=by
 show _ = (ordL L).filter _
 refine List.filter_congr fun e he => ?_
 rw [Bool.eq_iff_iff,decide_eq_true_iff,seen_mem]
 cases goneE L e <;> cases thereE L e <;> simp [he]
theorem filter_two (X : List SElem) (L : List SOp) (o : SOp) (hx : ∀ e ∈ X,e ∉ Qao o) : X.filter (fun e => decide (e ∈ Qao o) || (decide (e ∈ Qak L) && !decide (e ∈ o.f5))) = (X.filter fun e => decide (e ∈ Qak L)).filter fun e => !decide (e ∈ o.f5):=by
 rw [List.filter_filter]
 refine List.filter_congr fun e he => ?_
 rw [Ze (hx e he),Bool.false_or,Bool.and_comm]
theorem ins_at {L : List SOp} {o : SOp} (h : RowOk L) (hn : NextOk L o) (h1 : o.f2 = 1) {a n : Nat} (ha : a <= (Qak L).length)
  (hg : ∀ e,e ∈ o.f5 ↔ e ∈ ((Qak L).drop a).take n) (hf : (Qan o.f3 = true /\ (a = 0 \/ Qao o = [])) \/ (Qan o.f3 = false /\ ∃ h0 : a - 1 < (Qak L).length,0 < a /\ o.f3 = (Qak L)[a - 1])) :
  Qak (L ++ [o]) = (Qak L).take a ++ Qao o ++ (Qak L).drop (a + n):=by
 have hv:=seen_nodup h
 obtain ⟨c1,c2⟩:=cut_here (Qak L) hv a n
 have hq : ∀ X : List SElem,X.filter (fun e => !decide (e ∈ o.f5)) = X.filter (fun e => !decide (e ∈ ((Qak L).drop a).take n)):=fun X => List.filter_congr fun e _ => by rw [decide_eq_decide.2 (hg e)]
 have hco : (Qao o).filter (fun e => decide (e ∈ Qao o) || (decide (e ∈ Qak L) && !decide (e ∈ o.f5))) = Qao o:=by
  rw [List.filter_eq_self]
  intro e he
  rw [Zd he]; rfl
 have hno : ∀ e ∈ ordL L,e ∉ Qao o:=fun e he hc => chain_new h hn hc he
 have hall : (Qak L).filter (fun e => !decide (e ∈ o.f5)) = (Qak L).take a ++ (Qak L).drop (a + n):=by
  have : (Qak L).filter (fun e => !decide (e ∈ o.f5)) = ((Qak L).take a).filter (fun e => !decide (e ∈ o.f5)) ++ ((Qak L).drop a).filter (fun e => !decide (e ∈ o.f5)):=by rw [<- List.filter_append,List.take_append_drop]
  rw [this,hq,hq,c1,c2]
 rw [ins_seen h hn h1]
 rcases insO_form h hn (Qbw h).1 with ⟨hb,e⟩ | ⟨hb,A,B,e1,hA,hB,e⟩
 ·rw [e,List.filter_append,hco,filter_two _ L o hno,seen_sub,hall]
  rcases hf with ⟨_,h0 | h0⟩ | ⟨hb',_⟩
  ·subst h0; simp
  ·rw [h0]; simp
  ·rw [hb] at hb'; cases hb'
 ·rcases hf with ⟨hb',_⟩ | ⟨_,h0,hpos,hx⟩
  ·rw [hb] at hb'; cases hb'
  ·have hms : o.f3 ∈ Qak L:=by rw [hx]; exact List.getElem_mem h0
   have hs : Qak L = A.filter (fun e => decide (e ∈ Qak L)) ++ o.f3 :: B.filter (fun e => decide (e ∈ Qak L)):=by
    have:=seen_sub L
    rw [e1,List.filter_append,List.filter_cons,if_pos (by rw [Zd hms])] at this
    exact this.symm
   have hlen : (A.filter (fun e => decide (e ∈ Qak L))).length = a - 1:=by
    have h3 : (A.filter (fun e => decide (e ∈ Qak L))).length < (Qak L).length:=by
     have:=congrArg List.length hs
     rw [List.length_append,List.length_cons] at this; omega
    have h4 : (Qak L)[(A.filter (fun e => decide (e ∈ Qak L))).length] = o.f3:=by
     have : (Qak L)[(A.filter (fun e => decide (e ∈ Qak L))).length]? = some o.f3:=by
      conv => lhs; arg 1; rw [hs]
      rw [List.getElem?_append_right (Nat.le_refl _),Nat.sub_self]; rfl
     rw [List.getElem?_eq_getElem h3] at this
     exact Zo this
    exact (List.getElem_inj hv).1 (h4.trans hx)
   have hta : (Qak L).take a = A.filter (fun e => decide (e ∈ Qak L)) ++ [o.f3]:=by
    conv => lhs; rw [hs]
    rw [List.take_append,hlen,List.take_of_length_le (by omega),show a - (a - 1) = 1 by omega]
    rfl
   have hda : (Qak L).drop a = B.filter (fun e => decide (e ∈ Qak L)):=by
    conv => lhs; rw [hs]
    rw [List.drop_append,hlen,List.drop_of_length_le (by omega),show a - (a - 1) = 1 by omega]
    rfl
   have n1 : o.f3 ∉ o.f5:=by
    intro hm
    have:=(hg o.f3).1 hm
    have h6:=List.filter_eq_self.1 c1 o.f3 (by rw [hta]; simp)
    rw [Zd this] at h6; cases h6
   have sA : ∀ e ∈ A,e ∉ Qao o:=fun e he => hno e (by rw [e1]; simp [he])
   have sB : ∀ e ∈ B,e ∉ Qao o:=fun e he => hno e (by rw [e1]; simp [he])
   have hF : (decide (o.f3 ∈ Qao o) || (decide (o.f3 ∈ Qak L) && !decide (o.f3 ∈ o.f5))) = true:=by rw [Zd hms,Ze n1]; cases decide (o.f3 ∈ Qao o) <;> rfl
   rw [e,List.filter_append,List.filter_cons,if_pos hF,List.filter_append,hco,filter_two A L o sA,filter_two B L o sB,<- hda,hq ((Qak L).drop a),c2]
   have hA2 : (A.filter fun e => decide (e ∈ Qak L)).filter (fun e => !decide (e ∈ o.f5)) = A.filter fun e => decide (e ∈ Qak L):=by
    rw [hq,List.filter_eq_self]
    intro e he
    exact List.filter_eq_self.1 c1 e (by rw [hta]; exact List.mem_append_left _ he)
   rw [hA2,hta]
   simp
theorem chain_runes {L : List SOp} {o : SOp} (h : RowOk L) (hn : NextOk L o) : (Qao o).map (atR (L ++ [o])) = Qaq o.f4:=by
 have hr:=RowOk.snoc h hn
 have hi : L.length < (L ++ [o]).length:=by simp
 have hf:=findOp_at hr hi
 have ho : (L ++ [o])[L.length] = o:=by simp
 rw [ho] at hf
 refine List.ext_getElem (by rw [List.length_map,Qbt]; rfl) fun k h1 h2 => ?_
 rw [List.getElem_map]
 have hk : k < Qaj o:=h2
 have hc : (Qao o)[k]'(by rw [Qbt]; exact hk) = ⟨o.f0,o.f1,(k : Int)⟩:=by
  have:=chain_at k hk
  rw [List.getElem?_eq_getElem (by rw [Qbt]; exact hk)] at this
  exact Zo this
 rw [hc]
 unfold atR
 rw [hf,rd_Op_last]
 show (Qaq o.f4).getD k 0 = _
 rw [List.getD_eq_getElem?_getD,List.getElem?_eq_getElem h2]; rfl
theorem ins_runes {L : List SOp} {o : SOp} (h : RowOk L) (hn : NextOk L o) {a n : Nat} (hs : Qak (L ++ [o]) = (Qak L).take a ++ Qao o ++ (Qak L).drop (a + n)) :
  (Qak (L ++ [o])).map (atR (L ++ [o])) = ((Qak L).map (atR L)).take a ++ Qaq o.f4 ++ ((Qak L).map (atR L)).drop (a + n):=by
 have hm : ∀ X : List SElem,(∀ e ∈ X,e ∈ ordL L) -> X.map (atR (L ++ [o])) = X.map (atR L):=fun X hX => List.map_congr_left fun e he => tog_at h hn (hX e he)
 rw [hs,List.map_append,List.map_append,chain_runes h hn,hm _ (fun e he => (seen_mem.1 (List.mem_of_mem_take he)).1),hm _ (fun e he => (seen_mem.1 (List.mem_of_mem_drop he)).1),List.map_take,List.map_drop]
theorem ins_text {L : List SOp} {o : SOp} (h : RowOk L) (hn : NextOk L o) {a n : Nat} (hs : Qak (L ++ [o]) = (Qak L).take a ++ Qao o ++ (Qak L).drop (a + n)) :
  plainR (L ++ [o]) = runesBytes (((Qak L).map (atR L)).take a) ++ runesBytes (Qaq o.f4) ++ runesBytes (((Qak L).map (atR L)).drop (a + n)):=by
 unfold plainR
 rw [ins_runes h hn hs,runesBytes_app,runesBytes_app]
end
section
theorem sort_asc {l : List SElem} (h : l.Nodup) : Asc (sortL l):=by
 have hw:=sort_weak l
 have hn : (sortL l).Nodup:=(List.mergeSort_perm l _).nodup_iff.2 h
 have:=List.Pairwise.and hw hn
 refine this.imp (fun {a b} hab => ?_)
 cases hc : Qca a b
 ·exact absurd (el_eq hc hab.1) hab.2
 ·rfl
theorem goneFrom_of {o : SOp} : ∀ (l : List SElem) (p : Option SElem),Asc l -> (∀ e ∈ l,Qan e = false /\ Qbq e = true /\ ownEl o e = false) -> (∀ q,p = some q -> ∀ e ∈ l,Qca q e = true) -> Qbb o p l = true
 | [],_,_,_,_ => by cases ‹Option SElem› <;> rfl
 | x :: r,p,h,hg,hp => by
  obtain ⟨h1,h2⟩:=List.pairwise_cons.1 h
  obtain ⟨g1,g2,g3⟩:=hg x List.mem_cons_self
  have ih:=goneFrom_of r (some x) h2 (fun e he => hg e (List.mem_cons_of_mem _ he)) (fun q hq e he => by injection hq with hq; subst hq; exact h1 e he)
  cases p with
  | none => unfold Qbb; rw [g1,g2,g3,ih]; rfl
  | some q =>
   unfold Qbb
   rw [g1,g2,g3,ih]
   show (true && true && true && Qca q x && true) = true
   rw [hp q rfl x List.mem_cons_self]; rfl
theorem seen_good {L : List SOp} (h : RowOk L) {e : SElem} (he : e ∈ Qak L) : Qan e = false /\ Qbq e = true /\ wr L e /\ e.f1 <= (Qbg L e.f0 : Int):=by
 obtain ⟨p,hp,e0,e1,e2,e3⟩:=(Qbx h e).1 (seen_mem.1 he).1
 have hk:=opOk_pos (h.oks p hp)
 have hz:=(Qci (h.oks p hp)).1
 have hq:=mem_seq h p hp
 have hb : Qan e = false:=by
  have : (e.f0 == 0) = false:=by rw [beq_eq_false_iff_ne]; omega
  unfold Qan; rw [this]; rfl
 refine ⟨hb, ?_, .inr ⟨e2,p,hp,e0,e1,e3⟩,by rw [<- e0,<- e1]; exact hq⟩
 unfold Qbq nameOk
 rw [hb]
 simp only [Bool.false_or,Bool.and_eq_true,decide_eq_true_eq]
 exact ⟨⟨⟨⟨⟨by omega,by omega⟩,by omega⟩,by omega⟩,by omega⟩,by omega⟩
theorem repA_cases {L : List SOp} (a : Nat) (ha : a <= (Qak L).length) (t : ByteArray) : (repA L a t = ⟨0,0,0⟩ /\ (a = 0 \/ t.toList.isEmpty = true)) \/ ∃ h0 : a - 1 < (Qak L).length,0 < a /\ t.toList.isEmpty = false /\ repA L a t = (Qak L)[a - 1]:=by
 unfold repA
 by_cases h : 0 < a /\ t.toList.isEmpty = false
 ·rw [if_pos h]
  exact .inr ⟨by omega,h.1,h.2,Qat _ _ (by omega)⟩
 ·rw [if_neg h]
  refine .inl ⟨rfl, ?_⟩
  cases ht : t.toList.isEmpty
  ·rcases Nat.eq_zero_or_pos a with h0 | h0
   ·exact .inl h0
   ·exact absurd ⟨h0,ht⟩ h
  ·exact .inr rfl
theorem rep_own {L : List SOp} {s : Int} {a n : Nat} {t : ByteArray} {e : SElem} (h : e.f1 <= (Qbg L e.f0 : Int)) : ownEl (repO L s a n t) e = false:=by
 have e0 : (repO L s a n t).f0 = s:=rfl
 have e1 : (repO L s a n t).f1 = ((Qbg L s + 1 : Nat) : Int):=rfl
 unfold ownEl
 rw [e0,e1]
 by_cases hs : e.f0 = s
 ·have : (e.f1 == ((Qbg L s + 1 : Nat) : Int)) = false:=by rw [beq_eq_false_iff_ne]; rw [hs] at h; omega
  rw [this,Bool.and_false]
 ·rw [beq_eq_false_iff_ne.2 hs,Bool.false_and]
theorem rep_next {L : List SOp} (h : RowOk L) {s : Int} (hs : 1 <= s /\ s <= 8) {a n : Nat} (ha : a + n <= (Qak L).length) {t : ByteArray} (ht : Qbz t = true) (h12 : (Qaq t).length <= 12) (hne : ¬ (n = 0 /\ t.toList.isEmpty = true)) (hlen : L.length + 1 <= 40) (hsum : total L + (Qaq t).length <= 200) : NextOk L (repO L s a n t):=by
 have hc:=countS_le L s
 have hg : ∀ e ∈ repG L a n,e ∈ Qak L:=fun e he => List.mem_of_mem_drop (List.mem_of_mem_take ((sort_mem _ e).1 he))
 have hsl : (Qak L).length <= 200:=Nat.le_trans (List.length_filter_le _ _) (by rw [(Qbw h).2]; exact h.sums.2)
 have hgl : (repG L a n).length = n:=by unfold repG; rw [sort_len,List.length_take,List.length_drop]; omega
 have hnd : (((Qak L).drop a).take n).Nodup:=((seen_nodup h).sublist (List.drop_sublist _ _)).sublist (List.take_sublist _ _)
 have hA : (Qan (repA L a t) = true /\ repA L a t = ⟨0,0,0⟩) \/ (t.toList.isEmpty = false /\ repA L a t ∈ Qak L):=by
  rcases repA_cases (L:=L) a (by omega) t with ⟨e,_⟩ | ⟨h0,_,h1,e⟩
  ·rw [e]; exact .inl ⟨rfl,rfl⟩
  ·rw [e]; exact .inr ⟨h1,List.getElem_mem h0⟩
 refine ⟨hlen, ?_,rfl, ?_,fun e he => (seen_good h (hg e he)).2.2.1,fun h2 => absurd (show (1 : Int) = 2 from h2) (by decide),hsum⟩
 ·have hgo : goneOk (repO L s a n t) = true:=by
   unfold goneOk
   rw [Bool.and_eq_true]
   refine ⟨goneFrom_of _ none (sort_asc hnd) (fun e he => ?_) (fun q hq => by cases hq),Zd (by show (repG L a n).length <= 200; omega)⟩
   have:=seen_good h (hg e he)
   exact ⟨this.1,this.2.1,rep_own this.2.2.2⟩
  have h3 : Qbq (repA L a t) = true /\ ownEl (repO L s a n t) (repA L a t) = false /\ (t.toList.isEmpty && !Qan (repA L a t)) = false:=by
   rcases hA with ⟨e,e2⟩ | ⟨e,hm⟩
   ·refine ⟨by unfold Qbq; rw [e]; rfl, ?_,by rw [e,Bool.not_true,Bool.and_false]⟩
    have : ((0 : Int) == s) = false:=by rw [beq_eq_false_iff_ne]; omega
    unfold ownEl
    rw [e2]
    show (((0 : Int) == s) && _) = false
    rw [this]; rfl
   ·have:=seen_good h hm
    exact ⟨this.2.1,rep_own this.2.2.2,by rw [e]; rfl⟩
  have h4 : (t.toList.isEmpty && (repG L a n).isEmpty) = false:=by
   cases he : t.toList.isEmpty
   ·rfl
   ·have : n ≠ 0:=fun h0 => hne ⟨h0,he⟩
    cases hr : repG L a n with
    | nil => rw [hr] at hgl; exact absurd hgl.symm this
    | cons x r => rfl
  have h5 : nameOk s ((Qbg L s + 1 : Nat) : Int) = true:=by
   unfold nameOk
   simp only [Bool.and_eq_true,decide_eq_true_eq]
   exact ⟨⟨⟨hs.1,hs.2⟩,by omega⟩,by omega⟩
  unfold opOk
  rw [show nameOk (repO L s a n t).f0 (repO L s a n t).f1 = true from h5,if_pos (show (repO L s a n t).f2 = 1 from rfl),Bool.true_and]
  unfold editOk
  rw [hgo,show Qbq (repO L s a n t).f3 = true from h3.1,show ownEl (repO L s a n t) (repO L s a n t).f3 = false from h3.2.1,show ((repO L s a n t).f4.toList.isEmpty && !Qan (repO L s a n t).f3) = false from h3.2.2,show ((repO L s a n t).f4.toList.isEmpty && (repO L s a n t).f5.isEmpty) = false from h4,show Qbz (repO L s a n t).f4 = true from ht,Zd (show Qaj (repO L s a n t) <= 12 from h12)]
  rfl
 ·rcases hA with ⟨e,_⟩ | ⟨_,hm⟩
  ·exact .inl e
  ·exact (seen_good h hm).2.2.1
theorem rep_seen {L : List SOp} {s : Int} {a n : Nat} {t : ByteArray} (h : RowOk L) (hn : NextOk L (repO L s a n t)) (ha : a + n <= (Qak L).length) : Qak (L ++ [repO L s a n t]) = (Qak L).take a ++ Qao (repO L s a n t) ++ (Qak L).drop (a + n):=by
 refine ins_at h hn rfl (by omega) (fun e => sort_mem _ e) ?_
 rcases repA_cases (L:=L) a (by omega) t with ⟨e,h0⟩ | ⟨h0,h1,h2,e⟩
 ·refine .inl ⟨by show Qan (repA L a t) = true; rw [e]; rfl,h0.imp id (fun h1 => ?_)⟩
  refine List.eq_nil_of_length_eq_zero ?_
  rw [Qbt]
  exact (runesOf_nil t).2 h1
 ·refine .inr ⟨?_,h0,h1,e⟩
  show Qan (repA L a t) = false
  rw [e]
  exact (seen_good h (List.getElem_mem h0)).1
end
section
def S4 (k : Nat) : ByteArray:=if k = 0 then ⟨#[97,98]⟩ else if k = 1 then ⟨#[]⟩ else if k = 2 then ⟨#[99]⟩ else ⟨#[119,120,121,122]⟩
structure PlainT (s : ByteArray) : Prop where
 ok : Qbz s = true
 len : (Qaq s).length <= 4
 asc : ∀ r ∈ Qaq s,0 <= r /\ r < 128
 back : runesBytes (Qaq s) = s
 small : s.size <= 4
theorem S4_plain (k : Nat) : PlainT (S4 k):=by
 unfold S4
 split
 ·exact ⟨by decide +kernel,by decide +kernel,by decide +kernel,by decide +kernel,by decide +kernel⟩
 ·split
  ·exact ⟨by decide +kernel,by decide +kernel,by decide +kernel,by decide +kernel,by decide +kernel⟩
  ·split
   ·exact ⟨by decide +kernel,by decide +kernel,by decide +kernel,by decide +kernel,by decide +kernel⟩
   ·exact ⟨by decide +kernel,by decide +kernel,by decide +kernel,by decide +kernel,by decide +kernel⟩
theorem encode_one {r : Int} (h : 0 <= r /\ r < 128) : (Utf8.encode r).size = 1:=by
 have hv : Utf8.valid r = true:=by
  unfold Utf8.valid
  simp
  omega
 unfold Utf8.encode
 simp only [hv,if_true]
 rw [if_pos (by omega)]
 rfl
theorem bytes_len : ∀ (rs : List Int),(∀ r ∈ rs,0 <= r /\ r < 128) -> (runesBytes rs).size = rs.length
 | [],_ => rfl
 | r :: rs,h => by
  have e : runesBytes (r :: rs) = Utf8.encode r ++ runesBytes rs:=by
   rw [show r :: rs = [r] ++ rs from rfl,runesBytes_app,runesBytes_one]
  rw [e,ByteArray.size_append,encode_one (h r List.mem_cons_self),bytes_len rs (fun x hx => h x (List.mem_cons_of_mem _ hx)),List.length_cons]
  omega
structure Inv (j : Nat) (L : List SOp) (p : ByteArray) : Prop where
 row : RowOk L
 len : L.length <= j
 tot : total L <= 4 * j
 txt : plainR L = p
 asc : ∀ r ∈ (Qak L).map (atR L),0 <= r /\ r < 128
 sm : ∀ o ∈ L,o.f4.size <= 4 /\ o.f5.length <= 200
theorem Inv.size {j : Nat} {L : List SOp} {p : ByteArray} (h : Inv j L p) : p.size = (Qak L).length:=by
 rw [<- h.txt]
 unfold plainR
 rw [bytes_len _ h.asc,List.length_map]
theorem Inv.smalls {j : Nat} {L : List SOp} {p : ByteArray} (h : Inv j L p) (hj : j <= 40) : smalls L = true:=good_smalls ⟨by have:=h.len; omega,fun o ho => by have:=h.sm o ho; omega⟩
theorem Inv.nil : Inv 0 [] ⟨#[]⟩:=by
 refine ⟨.nil,Nat.le_refl _,Nat.le_refl _, ?_, ?_, ?_⟩
 ·rfl
 ·intro r hr; cases hr
 ·intro o ho; cases ho
theorem Inv.more {j : Nat} {L : List SOp} {p : ByteArray} (h : Inv j L p) : Inv (j + 1) L p:=⟨h.row,by have:=h.len; omega,by have:=h.tot; omega,h.txt,h.asc,h.sm⟩
theorem Inv.next {j : Nat} {L : List SOp} {p : ByteArray} (h : Inv j L p) (hj : j < 30) {s : Int} (hs : 1 <= s /\ s <= 8) {a n : Nat} (ha : a + n <= p.size) {t : ByteArray} (ht : PlainT t) (hne : ¬ (n = 0 /\ t.toList.isEmpty = true)) : NextOk L (repO L s a n t):=by
 have h1:=h.len
 have h2:=h.tot
 have h3:=ht.len
 exact rep_next h.row hs (by rw [<- h.size]; exact ha) ht.ok (by omega) hne (by omega) (by omega)
theorem Inv.step {j : Nat} {L : List SOp} {p : ByteArray} (h : Inv j L p) (hj : j < 30) {s : Int} (hs : 1 <= s /\ s <= 8) {a n : Nat} (ha : a + n <= p.size) {t : ByteArray} (ht : PlainT t) (hne : ¬ (n = 0 /\ t.toList.isEmpty = true)) :
  Inv (j + 1) (L ++ [repO L s a n t]) (p.extract 0 a ++ t ++ p.extract (a + n) p.size):=by
 have hn:=h.next hj hs ha ht hne
 have hsz:=h.size
 have ha' : a + n <= (Qak L).length:=by rw [<- hsz]; exact ha
 have hse:=rep_seen h.row hn ha'
 have hr:=ins_runes h.row hn hse
 have hx:=ins_text h.row hn hse
 have hf4 : (repO L s a n t).f4 = t:=rfl
 rw [hf4] at hr hx
 have hlen : ((Qak L).map (atR L)).length = (Qak L).length:=List.length_map ..
 have hp : ∀ i,i <= p.size -> p = runesBytes (((Qak L).map (atR L)).take i) ++ runesBytes (((Qak L).map (atR L)).drop i) /\ (runesBytes (((Qak L).map (atR L)).take i)).size = i:=by
  intro i hi
  constructor
  ·rw [<- runesBytes_app,List.take_append_drop,<- h.txt]; rfl
  ·rw [bytes_len _ (fun r hr => h.asc r (List.mem_of_mem_take hr)),List.length_take]; omega
 obtain ⟨p1,q1⟩:=hp a (by omega)
 obtain ⟨p2,q2⟩:=hp (a + n) ha
 have e1 : p.extract 0 a = runesBytes (((Qak L).map (atR L)).take a):=by
  conv => lhs; rw [p1]
  exact ByteArray.extract_append_eq_left q1.symm
 have e2 : p.extract (a + n) p.size = runesBytes (((Qak L).map (atR L)).drop (a + n)):=by
  have hz : p.size = (runesBytes (((Qak L).map (atR L)).take (a + n))).size + (runesBytes (((Qak L).map (atR L)).drop (a + n))).size:=by
   conv => lhs; rw [p2]
   exact ByteArray.size_append
  rw [hz]
  conv => lhs; rw [p2]
  exact ByteArray.extract_append_eq_right q2.symm rfl
 refine ⟨.snoc h.row hn,by rw [List.length_append,List.length_singleton]; have:=h.len; omega, ?_, ?_, ?_, ?_⟩
 ·rw [total_app]
  have h2:=h.tot
  have h3 : Qaj (repO L s a n t) <= 4:=ht.len
  omega
 ·rw [hx,ht.back,e1,e2]
 ·intro r hm
  rw [hr,List.mem_append,List.mem_append] at hm
  rcases hm with (hm | hm) | hm
  ·exact h.asc r (List.mem_of_mem_take hm)
  ·exact ht.asc r hm
  ·exact h.asc r (List.mem_of_mem_drop hm)
 ·intro o ho
  rcases List.mem_append.1 ho with ho | ho
  ·exact h.sm o ho
  ·rw [List.mem_singleton] at ho
   subst ho
   refine ⟨ht.small, ?_⟩
   show (sortL _).length <= 200
   have : (Qak L).length <= 200:=Nat.le_trans (List.length_filter_le _ _) (by rw [(Qbw h.row).2]; exact h.row.sums.2)
   rw [sort_len,List.length_take,List.length_drop]; omega
end
section
theorem doc_Plain_f {L : List SOp} (hs : smalls L = true) (h : RowOk L) : doc_Plain.f L = some (plainR L):=by unfold doc_Plain.f; exact if_pos ⟨hs,(Qbp L).2 h⟩
theorem doc_Text_ok {L : List SOp} (hs : smalls L = true) (h : RowOk L) : doc_Text.f L = some (plainR L,0):=by
 unfold doc_Text.f
 rw [tree_May_f hs,(Qbp L).2 h,Option.bind_some,if_pos rfl,doc_Plain_f hs h]; rfl
end
section
attribute [local go_sem] Qcg Qce max_two min_two Qbm Qbl Qcf Qcd
def tree_Check.f (l0 : List (SOp)) : Option (Int):=(tree_May.f l0).bind fun t196 => (if t196 = true then (some 0) else (some 1))
theorem tree_Check.calls (A0 : Option Addr) (c0 : Nat) (l0 : List (SOp)) (r : Int) (w : World) (hr0 : Kd.C kOp w A0 l0.length l0) (hc0 : l0.length <= c0) (h : tree_Check.f l0 = some r) :
  Calls Try.prog 8 #[.slice A0 l0.length c0] w fun e w' => e = .returned (.int .i64 r) /\ Below w.heap.size w w':=by
 have HR0:=Zz.k hr0
 have HC0:=Zz.k hc0
 clear hr0 hc0
 have HB:=Zz.k (Below.refl w.heap.size w)
 unfold tree_Check.f at h; have H:=h
 clear h
 obtain ⟨t196,A2,H⟩:=bE H
 by_cases c3 : t196 = true
 ·subst c3
  rw [if_pos rfl] at H
  obtain rfl:=Zo H
  go_enter Try.func8,Try.ntmps8
  go_wp2_with (first | ((with_reducible refine Qac (f:=9) rfl ?_); refine gl (some 4) Try.func9 #[.slice A0 l0.length c0] (h := ?_); (with_reducible refine (tree_May.calls _ _ l0 true _ ?side1 ?side2 A2.out).mono ?_); (case side1 => repeat (first | exact HR0.out | (with_reducible refine Kd.C_alloc ?_ _) | (with_reducible refine Kd.C_drewN ?_ _) | (with_reducible refine Kd.C_drew ?_))); (case side2 => exact HC0.out); rintro e w4 ⟨rfl,hb⟩; refine ⟨_,rfl, ?_⟩; replace HB:=bs HB hb; clear hb))
  go_ret
  exact ⟨re,bw HB⟩
 replace c3:=Zf c3
 subst c3
 rw [if_neg nft] at H
 obtain rfl:=Zo H
 go_enter Try.func8,Try.ntmps8
 go_wp2_with (first | ((with_reducible refine Qac (f:=9) rfl ?_); refine gl (some 4) Try.func9 #[.slice A0 l0.length c0] (h := ?_); (with_reducible refine (tree_May.calls _ _ l0 false _ ?side1 ?side2 A2.out).mono ?_); (case side1 => repeat (first | exact HR0.out | (with_reducible refine Kd.C_alloc ?_ _) | (with_reducible refine Kd.C_drewN ?_ _) | (with_reducible refine Kd.C_drew ?_))); (case side2 => exact HC0.out); rintro e w5 ⟨rfl,hb⟩; refine ⟨_,rfl, ?_⟩; replace HB:=bs HB hb; clear hb))
 go_ret
 exact ⟨re,bw HB⟩
end
section
theorem cuts {x n ps ss : Nat} (h1 : x <= ps) (h2 : x + n <= ps) (h3 : ps <= 1000) (h4 : ss <= 1000000) : (0 : Int) <= (x : Int) /\ (x : Int) <= (ps : Int) /\ wrap64 ((x : Int) + (n : Int)) = (x : Int) + (n : Int) /\ (0 : Int) <= (x : Int) + (n : Int) /\ (x : Int) + (n : Int) <= (ps : Int) /\ ((x : Int) + (n : Int)).toNat = x + n /\ ¬ 9223372036854775807 < min x ps + ss /\ ¬ 9223372036854775807 < min x ps + ss + (ps - (x + n)) :=
 ⟨by omega,by omega,Qai (by omega) (by omega),by omega,by omega,by omega,by omega,by omega⟩
theorem many_text {j : Nat} {L : List SOp} {p : ByteArray} (h : Inv (j + 1) L p) (hj : j < 30) : doc_Text.f L = some (p,0):=by
 rw [doc_Text_ok (h.smalls (by omega)) h.row,h.txt]
theorem many_check {j : Nat} {L : List SOp} {p : ByteArray} (h : Inv (j + 1) L p) (hj : j < 30) : tree_Check.f L = some 0:=by
 unfold tree_Check.f
 rw [tree_May_f (h.smalls (by omega)),(Qbp L).2 h.row]; rfl
theorem site_bound {k : Nat} (h : k < 4) : 1 <= 1 + (k : Int) /\ 1 + (k : Int) <= 8:=by omega
theorem not_empty {n : Nat} {s : ByteArray} (h : ¬ (n = 0 /\ s.toList.isEmpty = true)) (h0 : n = 0) : s.toList.isEmpty = false:=by
 cases hs : s.toList.isEmpty
 ·rfl
 ·exact absurd ⟨h0,hs⟩ h
theorem apart7 {W : World} {base : Nat} {v v7 : Value} {L : List SOp} {l : List SElem} (h : Kd.R kOp 32 W base (fun _ => True) v L) (h7 : RE W base v7 l) : Kd.R Qaw 30 W base (fun k => some k ≠ v.ownBlock) v7 l:=by
 cases hv : v.ownBlock with
 | none => exact Kd.R_mono h7 (fun k _ => by simp)
 | some g =>
  obtain ⟨_,inner,ho,_⟩:=h
  obtain ⟨_,cells,hb⟩:=q_typed (q_of_own ho) g hv
  exact Kd.R_mono (Kd.R_types h7 hb (by decide)) (fun k hk => by intro e; injection e with e; exact hk.2 e)
theorem inv_small {j : Nat} {L : List SOp} {p : ByteArray} (h : Inv j L p) : p.size <= 1000:=by
 have h1:=h.size
 have h2 : (Qak L).length <= 200:=Nat.le_trans (List.length_filter_le _ _) (by rw [(Qbw h.row).2]; exact h.row.sums.2)
 omega
theorem mfacts (j ps n3 : Nat) (hj : j < 30) (hp : ps <= 1000) (hn : n3 <= 140737488351232) : ∃ x y k3 k4 : Nat,(x <= ps /\ x + y <= ps) /\ k4 < 4 /\ wrap64 ((j : Int) * 7) = (j : Int) * 7 /\ wrap64 ((n3 : Int) * 3) = (n3 : Int) * 3 /\ wrap64 ((j : Int) * 7 + (n3 : Int) * 3) = (j : Int) * 7 + (n3 : Int) * 3 /\ wrap64 ((ps : Int) + 1) = (ps : Int) + 1 /\ ¬ ((ps : Int) + 1 = 0) /\ Int.tmod ((j : Int) * 7 + (n3 : Int) * 3) ((ps : Int) + 1) = (x : Int) /\ wrap64 ((j : Int) * 5) = (j : Int) * 5 /\ wrap64 ((ps : Int) - (x : Int)) = (ps : Int) - (x : Int) /\ wrap64 ((ps : Int) - (x : Int) + 1) = (ps : Int) - (x : Int) + 1 /\ ¬ ((ps : Int) - (x : Int) + 1 = 0) /\ Int.tmod ((j : Int) * 5) ((ps : Int) - (x : Int) + 1) = (y : Int) /\ Int.tmod (j : Int) 3 = (k3 : Int) /\ Int.tmod (j : Int) 4 = (k4 : Int) /\ wrap64 (1 + (k4 : Int)) = 1 + (k4 : Int) /\ (0 : Int) <= (k4 : Int) /\ (k4 : Int) < 4:=by
 obtain ⟨x,hx⟩ : ∃ x : Nat,x = (j * 7 + n3 * 3) % (ps + 1):=⟨_,rfl⟩
 have hxl : x <= ps:=by rw [hx]; have:=Nat.mod_lt (j * 7 + n3 * 3) (show ps + 1 > 0 by omega); omega
 obtain ⟨y,hy⟩ : ∃ y : Nat,y = (j * 5) % (ps - x + 1):=⟨_,rfl⟩
 have hyl : x + y <= ps:=by rw [hy]; have:=Nat.mod_lt (j * 5) (show ps - x + 1 > 0 by omega); omega
 refine ⟨x,y,j % 3,j % 4,⟨hxl,hyl⟩,by omega,Qai (by omega) (by omega),Qai (by omega) (by omega),Qai (by omega) (by omega),Qai (by omega) (by omega),by omega, ?_,Qai (by omega) (by omega),Qai (by omega) (by omega),Qai (by omega) (by omega),by omega, ?_, ?_, ?_,Qai (by omega) (by omega),by omega,by omega⟩
 ·rw [Int.tmod_eq_emod_of_nonneg (by omega),hx]; push_cast; rfl
 ·rw [Int.tmod_eq_emod_of_nonneg (by omega),hy,show (ps : Int) - (x : Int) + 1 = ((ps - x + 1 : Nat) : Int) by omega]; push_cast; rfl
 ·rw [Int.tmod_eq_emod_of_nonneg (by omega)]; omega
 ·rw [Int.tmod_eq_emod_of_nonneg (by omega)]; omega
theorem S4_cell {W : World} {g : Nat} {t : TypeId} (hb : W.heap[g]? = some (.cells #[.string (⟨#[97,98]⟩ : ByteArray), .string (⟨#[]⟩ : ByteArray), .string (⟨#[99]⟩ : ByteArray), .string (⟨#[119,120,121,122]⟩ : ByteArray)] t (0,0))) {k : Nat} (hk : k < 4) : W.cell? ⟨g,k,none⟩ = some (.string (S4 k)):=by
 rw [blk_cell hb k]
 rcases k with _ | _ | _ | _ | k
 ·rfl
 ·rfl
 ·rfl
 ·rfl
 ·omega
theorem site_ok {k : Nat} (h : k < 4) : siteOk (1 + (k : Int)) = true:=by
 unfold siteOk
 rw [Zd (by omega),Zd (by omega)]; rfl
theorem Inv.bad {j : Nat} {L : List SOp} {p : ByteArray} (h : Inv j L p) {k : Nat} (hk : k < 4) {t : ByteArray} (ht : PlainT t) : badB L (1 + (k : Int)) t = false:=by
 unfold badB
 rw [(Qbp L).2 h.row,site_ok hk,ht.ok]; rfl
theorem Inv.lim {j : Nat} {L : List SOp} {p : ByteArray} (h : Inv j L p) {a n : Nat} (ha : a + n <= p.size) {t : ByteArray} (ht : PlainT t) : ¬ limB L (a : Int) (n : Int) t:=by
 unfold limB
 have h1:=h.size
 have h2:=ht.len
 omega
theorem Inv.rep {j : Nat} {L : List SOp} {p : ByteArray} (h : Inv j L p) (hj : j < 30) {k : Nat} (hk : k < 4) {a n : Nat} (ha : a + n <= p.size) {t : ByteArray} (ht : PlainT t) (hne : ¬ (n = 0 /\ t.toList.isEmpty = true)) :
  repV L (1 + (k : Int)) (a : Int) (n : Int) t = (repO L (1 + (k : Int)) a n t,0):=by
 unfold repV
 rw [if_neg (by rw [h.bad hk ht]; decide),if_neg (h.lim ha ht),if_neg (fun hh => hne ⟨by omega,hh.2⟩),Int.toNat_natCast,Int.toNat_natCast,if_pos ((Qbp _).2 (.snoc h.row (h.next hj (by omega) ha ht hne)))]
theorem Inv.rep0 {j : Nat} {L : List SOp} {p : ByteArray} (h : Inv j L p) {k : Nat} (hk : k < 4) {a : Nat} (ha : a <= p.size) {t : ByteArray} (ht : PlainT t) (hne : t.toList.isEmpty = true) :
  repV L (1 + (k : Int)) (a : Int) 0 t = (⟨0,0,0,⟨0,0,0⟩,⟨#[]⟩,[],0,0,0⟩,3):=by
 unfold repV
 have hl : ¬ limB L (a : Int) 0 t:=h.lim (n:=0) (a:=a) (by omega) ht
 rw [if_neg (by rw [h.bad hk ht]; decide),if_neg hl,if_pos ⟨rfl,hne⟩]
theorem EditMany_calls (A0 A1 A2 A3 : Option Addr) (n0 c0 n1 c1 n2 c2 n3 c3 : Nat) (w : World) (hn3 : n3 <= 140737488351232) :
  Calls Try.prog 3 #[.agg #[.slice A0 n0 c0, .slice A1 n1 c1, .slice A2 n2 c2, .slice A3 n3 c3]] w fun e w' => e = .returned (.bool true) /\ Below w.heap.size w w':=by
 have hu24:=Try.underlying24
 have HB:=Zz.k (Below.refl w.heap.size w)
 have HN3:=Zz.k hn3
 clear hn3
 go_enter Try.func3,Try.ntmps3
 go_wp2_with (first | ((with_reducible refine Qaf (N:=1) rfl ?_); refine bx 1 #[.slice A0 n0 c0, .slice A1 n1 c1, .slice A2 n2 c2, .slice A3 n3 c3] 27 (h := ?_); intro gb1 hg w1 hbox hb; have BK1:=Zz.k hbox; have GE1:=Zz.k ((by rw [hg]; exact (Qap (bw HB)) : w.heap.size <= gb1)); replace HB:=bs HB hb; clear hb hbox hg))
 have HRV:=Zz.k (Kd.R_nil kOp 32 w1 w.heap.size (fun _ => True))
 go_loopg [3,4,5] 30 (fun gg s3 s4 s5 wr => ∃ (j : Nat) (L : List SOp) (p : ByteArray) (v : Value),j <= 30 /\ 30 - j <= gg /\ s3 = v /\ s4 = .string p /\ s5 = .int .i64 j /\ Zz (Kd.R kOp 32 wr w.heap.size (fun _ => True) v L) /\ Zz (Inv j L p) /\ Zz (wr.heap[gb1]? = some (.cells #[.slice A0 n0 c0, .slice A1 n1 c1, .slice A2 n2 c2, .slice A3 n3 c3] 27 (0,0))) /\ Zz (Below w.heap.size w wr))
 case atStart => exact ⟨0,[],⟨#[]⟩,_,by omega,by omega,rfl,rfl,rfl,HRV,⟨Inv.nil⟩,BK1,HB⟩
 case round =>
  clear HRV BK1 HB
  obtain ⟨j,L,p,v,hj,hgk,rfl,rfl,rfl,HRV,HI,BK1,HB⟩:=hrel
  by_cases hlt : j < 30
  ·obtain ⟨g1,rfl⟩ : ∃ g1,gk = g1 + 1:=⟨gk - 1,by omega⟩
   have hjz : (j : Int) < 30:=Int.ofNat_lt.2 hlt
   obtain ⟨AL,cL,rfl⟩:=Kd.R_slice HRV.out
   have hps2 : p.size <= 1000:=inv_small HI.out
   obtain ⟨x,y,k3,k4,hXY,hk4,e1,e2,e3,e4,e5,e6,e7,e8,e9,e10,e11,e12,e13,e14,e15,e16⟩:=mfacts j p.size n3 hlt hps2 HN3.out
   have HK4:=Zz.k hk4
   have HLB:=Zz.k (show (L.length + 1) * 112 <= 140737488355328 by have:=HI.out.len; omega)
   have HXY:=Zz.k hXY
   have HPS:=Zz.k hps2
   have HSM:=Zz.k (HI.out.smalls (Nat.le_trans hj (by decide)))
   have HPT:=Zz.k (S4_plain k4)
   obtain ⟨sv,hsv⟩ : ∃ sv : ByteArray,sv = S4 k4:=⟨_,rfl⟩
   have HSV4:=Zz.k hsv
   rw [<- hsv] at HPT
   have HSV:=Zz.k (Nat.le_trans HPT.out.small (show 4 <= 1000000 by decide))
   clear hXY hk4 hps2 hsv
   obtain ⟨_,_,_,_,_,_,_,_⟩:=kc4 BK1
   go_upto_if 38 with (fail)
   go_cut [7] from 13 to 110 (fun s7 wx => ∃ n : Nat,s7 = .int .i64 (n : Int) /\ x + n <= p.size /\ wx = wr)
   case first =>
    by_cases h3 : (k3 : Int) = 0
    ·go_wp2
     go_meet
     case rel => exact ⟨0,rfl,HXY.out.1,rfl⟩
    ·go_wp2
     go_meet
     case rel => exact ⟨y,rfl,HXY.out.2,rfl⟩
   case rest =>
    obtain ⟨n,rfl,hn,rfl⟩:=hcut
    by_cases hE : n = 0 /\ sv.toList.isEmpty = true
    ·obtain ⟨rfl,hem⟩:=hE
     obtain ⟨o,ho⟩ : ∃ o : SOp,o = ⟨0,0,0,⟨0,0,0⟩,⟨#[]⟩,[],0,0,0⟩:=⟨_,rfl⟩
     have HV:=Zz.k (show repV L (1 + (k4 : Int)) (x : Int) 0 sv = (o,3) by rw [ho]; exact HI.out.rep0 HK4.out HXY.out.1 HPT.out hem)
     clear ho hn
     go_wp2_with (first | ((with_reducible refine Qaf (N:=39) rfl ?_); refine lit_event rfl rfl (cs:=#[.string (⟨#[97,98]⟩ : ByteArray), .string (⟨#[]⟩ : ByteArray), .string (⟨#[99]⟩ : ByteArray), .string (⟨#[119,120,121,122]⟩ : ByteArray)]) (t:=9) (n:=4) (hrun:=by first | (go_simp; done) | (go_simp; rfl)) ?_; intro gb2 hg w4 hbox hb; have hcell : w4.cell? ⟨gb2,k4,none⟩ = some (.string sv):=(by rw [HSV4.out]; exact S4_cell hbox HK4.out); replace HRV:=rb HRV hb; replace BK1:=bl BK1 hb; replace HB:=bs HB hb; clear hb hbox hg))
     refine (Replace_calls AL cL L (1 + (k4 : Int)) (x : Int) 0 sv w4 (cr (W:=w4) HRV) (Kd.R_reads' HRV.out).2.1 HSM.out HSV.out o 3 HV.out).mono ?_
     rintro e w5 ⟨v7,rfl,hR,hb⟩
     obtain ⟨AG,cG,rfl⟩:=Kd.R_slice hR
     have HR7:=Zz.k (Kd.R_lower hR (Qap (bw HB)))
     replace HRV:=rb HRV hb
     replace BK1:=bl BK1 hb
     replace HB:=bs HB hb
     clear hb hR
     go_wp2_with (first | ((with_reducible refine Qaf (N:=9) rfl ?_); refine bx 9 #[.int .i64 0, .int .i64 0, .int .i64 0, .int .i64 0, .int .i64 0, .int .i64 0, .string (⟨#[]⟩ : ByteArray), .slice none 0 0, .int .i64 0, .int .i64 0, .int .i64 0] 32 (h := ?_); intro gb9 hg w6 hbox hb; have BK9:=Zz.k hbox; have GE9:=Zz.k ((by rw [hg]; exact (Qap (bw HB)) : w.heap.size <= gb9)); have NB19:=bn BK1 hg; have NB91:=bm BK1 hg; have HRV9:=Zz.k (Kd.R_below (Kd.R_mono (Kd.R_bound (rk HRV)) (fun k hk => (⟨trivial,by rw [hg]; exact Nat.ne_of_lt hk.2.2.1⟩ : True /\ k ≠ gb9))) hb); replace HR7:=rb HR7 hb; replace BK1:=bl BK1 hb; replace HB:=bs HB hb; clear hb hbox hg; have hnb:=NB19.out; have hnc:=NB91.out; obtain ⟨_,_,_,_,_,_,_,_,_,_,_,_,_,_,_,_,_,_,_,_,_,_⟩:=kc11 BK9) | (refine Qch (p:=9) rfl rfl rfl (w1:=put11 w6 gb9 (.int .i64 o.f0) (.int .i64 o.f1) (.int .i64 o.f2) (.int .i64 o.f3.f0) (.int .i64 o.f3.f1) (.int .i64 o.f3.f2) (.string o.f4) (.slice AG o.f5.length cG) (.int .i64 o.f6) (.int .i64 o.f7) (.int .i64 o.f8)) (hrun:=by first | (go_simp; done) | (go_simp; rfl)) ?_; intro w66 hw66; have HRV2:=Zz.k (Kd.R_mono (rf11 HRV9.out) (fun _ _ => trivial) : Kd.R kOp 32 (put11 w6 gb9 (.int .i64 o.f0) (.int .i64 o.f1) (.int .i64 o.f2) (.int .i64 o.f3.f0) (.int .i64 o.f3.f1) (.int .i64 o.f3.f2) (.string o.f4) (.slice AG o.f5.length cG) (.int .i64 o.f6) (.int .i64 o.f7) (.int .i64 o.f8)) w.heap.size (fun _ => True) _ _); replace HR7:=Zz.k (put11_R HR7.out BK9.out (.int .i64 o.f0) (.int .i64 o.f1) (.int .i64 o.f2) (.int .i64 o.f3.f0) (.int .i64 o.f3.f1) (.int .i64 o.f3.f2) (.string o.f4) (.slice AG o.f5.length cG) (.int .i64 o.f6) (.int .i64 o.f7) (.int .i64 o.f8)); replace BK1:=Zz.k (put11_far BK1.out NB19.out (.int .i64 o.f0) (.int .i64 o.f1) (.int .i64 o.f2) (.int .i64 o.f3.f0) (.int .i64 o.f3.f1) (.int .i64 o.f3.f2) (.string o.f4) (.slice AG o.f5.length cG) (.int .i64 o.f6) (.int .i64 o.f7) (.int .i64 o.f8)); replace HB:=Zz.k (put11_below HB.out GE9.out (.int .i64 o.f0) (.int .i64 o.f1) (.int .i64 o.f2) (.int .i64 o.f3.f0) (.int .i64 o.f3.f1) (.int .i64 o.f3.f2) (.string o.f4) (.slice AG o.f5.length cG) (.int .i64 o.f6) (.int .i64 o.f7) (.int .i64 o.f8)); replace BK9:=Zz.k (put11_here BK9.out (.int .i64 o.f0) (.int .i64 o.f1) (.int .i64 o.f2) (.int .i64 o.f3.f0) (.int .i64 o.f3.f1) (.int .i64 o.f3.f2) (.string o.f4) (.slice AG o.f5.length cG) (.int .i64 o.f6) (.int .i64 o.f7) (.int .i64 o.f8)); rw [<- hw66] at HRV2 HR7 BK1 HB BK9; clear HRV9 HRV hw66; have HRV:=HRV2; clear HRV2) | ((with_reducible refine Qaf (N:=62) rfl ?_); (try (refine Qah (by rfl) ?_; dsimp only)); refine gl (some 62) Try.func5 #[.int .i64 3] (h := ?_); (refine (w7_num.calls 3 3 _ rfl).mono ?_); rintro e w7 ⟨rfl,hd⟩; refine ⟨_,rfl, ?_⟩; have hb:=hd.below; replace HRV:=rb HRV hb; replace BK1:=bl BK1 hb; replace HB:=bs HB hb; clear hb hd))
     go_roundg g1
     case measure => omega
     case rel => exact ⟨j + 1,L,p,_,by omega,by omega,rfl,rfl,by go_num,HRV,⟨HI.out.more⟩,BK1,HB⟩
    ·have HNE:=Zz.k hE
     have HNX:=Zz.k (HI.out.next hlt (s:=1 + (k4 : Int)) (site_bound HK4.out) hn HPT.out hE)
     have HST:=Zz.k (HI.out.step hlt (s:=1 + (k4 : Int)) (site_bound HK4.out) hn HPT.out hE)
     obtain ⟨o,ho⟩ : ∃ o : SOp,o = repO L (1 + (k4 : Int)) x n sv:=⟨_,rfl⟩
     have HV:=Zz.k (show repV L (1 + (k4 : Int)) (x : Int) (n : Int) sv = (o,0) by rw [ho]; exact HI.out.rep hlt HK4.out hn HPT.out hE)
     rw [<- ho] at HST HNX
     obtain ⟨L2,hL2⟩ : ∃ L2 : List SOp,L2 = L ++ [o]:=⟨_,rfl⟩
     rw [<- hL2] at HST
     have HL2:=Zz.k hL2
     obtain ⟨p2,hp2⟩ : ∃ p2 : ByteArray,p2 = p.extract 0 x ++ sv ++ p.extract (x + n) p.size:=⟨_,rfl⟩
     rw [<- hp2] at HST
     have HP2:=Zz.k hp2
     have HN:=Zz.k hn
     clear ho hL2 hp2 hn hE
     go_upto_region 12 with (first | ((with_reducible refine Qaf (N:=39) rfl ?_); refine lit_event rfl rfl (cs:=#[.string (⟨#[97,98]⟩ : ByteArray), .string (⟨#[]⟩ : ByteArray), .string (⟨#[99]⟩ : ByteArray), .string (⟨#[119,120,121,122]⟩ : ByteArray)]) (t:=9) (n:=4) (hrun:=by first | (go_simp; done) | (go_simp; rfl)) ?_; intro gb2 hg w4 hbox hb; have hcell : w4.cell? ⟨gb2,k4,none⟩ = some (.string sv):=(by rw [HSV4.out]; exact S4_cell hbox HK4.out); replace HRV:=rb HRV hb; replace BK1:=bl BK1 hb; replace HB:=bs HB hb; clear hb hbox hg))
     refine (Replace_calls AL cL L (1 + (k4 : Int)) (x : Int) (n : Int) sv w4 (cr (W:=w4) HRV) (Kd.R_reads' HRV.out).2.1 HSM.out HSV.out o 0 HV.out).mono ?_
     rintro e w5 ⟨v7,rfl,hR,hb⟩
     obtain ⟨AG,cG,rfl⟩:=Kd.R_slice hR
     have HR7:=Zz.k (Kd.R_lower hR (Qap (bw HB)))
     replace HRV:=rb HRV hb
     replace BK1:=bl BK1 hb
     replace HB:=bs HB hb
     clear hb hR
     go_upto_region 12 with (first | ((with_reducible refine Qaf (N:=9) rfl ?_); refine bx 9 #[.int .i64 0, .int .i64 0, .int .i64 0, .int .i64 0, .int .i64 0, .int .i64 0, .string (⟨#[]⟩ : ByteArray), .slice none 0 0, .int .i64 0, .int .i64 0, .int .i64 0] 32 (h := ?_); intro gb9 hg w6 hbox hb; have BK9:=Zz.k hbox; have GE9:=Zz.k ((by rw [hg]; exact (Qap (bw HB)) : w.heap.size <= gb9)); have NB19:=bn BK1 hg; have NB91:=bm BK1 hg; have HRV9:=Zz.k (Kd.R_below (Kd.R_mono (Kd.R_bound (rk HRV)) (fun k hk => (⟨trivial,by rw [hg]; exact Nat.ne_of_lt hk.2.2.1⟩ : True /\ k ≠ gb9))) hb); replace HR7:=rb HR7 hb; replace BK1:=bl BK1 hb; replace HB:=bs HB hb; clear hb hbox hg; have hnb:=NB19.out; have hnc:=NB91.out; obtain ⟨_,_,_,_,_,_,_,_,_,_,_,_,_,_,_,_,_,_,_,_,_,_⟩:=kc11 BK9) | (refine Qch (p:=9) rfl rfl rfl (w1:=put11 w6 gb9 (.int .i64 o.f0) (.int .i64 o.f1) (.int .i64 o.f2) (.int .i64 o.f3.f0) (.int .i64 o.f3.f1) (.int .i64 o.f3.f2) (.string o.f4) (.slice AG o.f5.length cG) (.int .i64 o.f6) (.int .i64 o.f7) (.int .i64 o.f8)) (hrun:=by first | (go_simp; done) | (go_simp; rfl)) ?_; intro w66 hw66; have HRV2:=Zz.k (Kd.R_mono (rf11 HRV9.out) (fun _ _ => trivial) : Kd.R kOp 32 (put11 w6 gb9 (.int .i64 o.f0) (.int .i64 o.f1) (.int .i64 o.f2) (.int .i64 o.f3.f0) (.int .i64 o.f3.f1) (.int .i64 o.f3.f2) (.string o.f4) (.slice AG o.f5.length cG) (.int .i64 o.f6) (.int .i64 o.f7) (.int .i64 o.f8)) w.heap.size (fun _ => True) _ _); replace HR7:=Zz.k (put11_R HR7.out BK9.out (.int .i64 o.f0) (.int .i64 o.f1) (.int .i64 o.f2) (.int .i64 o.f3.f0) (.int .i64 o.f3.f1) (.int .i64 o.f3.f2) (.string o.f4) (.slice AG o.f5.length cG) (.int .i64 o.f6) (.int .i64 o.f7) (.int .i64 o.f8)); replace BK1:=Zz.k (put11_far BK1.out NB19.out (.int .i64 o.f0) (.int .i64 o.f1) (.int .i64 o.f2) (.int .i64 o.f3.f0) (.int .i64 o.f3.f1) (.int .i64 o.f3.f2) (.string o.f4) (.slice AG o.f5.length cG) (.int .i64 o.f6) (.int .i64 o.f7) (.int .i64 o.f8)); replace HB:=Zz.k (put11_below HB.out GE9.out (.int .i64 o.f0) (.int .i64 o.f1) (.int .i64 o.f2) (.int .i64 o.f3.f0) (.int .i64 o.f3.f1) (.int .i64 o.f3.f2) (.string o.f4) (.slice AG o.f5.length cG) (.int .i64 o.f6) (.int .i64 o.f7) (.int .i64 o.f8)); replace BK9:=Zz.k (put11_here BK9.out (.int .i64 o.f0) (.int .i64 o.f1) (.int .i64 o.f2) (.int .i64 o.f3.f0) (.int .i64 o.f3.f1) (.int .i64 o.f3.f2) (.string o.f4) (.slice AG o.f5.length cG) (.int .i64 o.f6) (.int .i64 o.f7) (.int .i64 o.f8)); rw [<- hw66] at HRV2 HR7 BK1 HB BK9; clear HRV9 HRV hw66; have HRV:=HRV2; clear HRV2))
     go_cut [7,60] from 13 to 110 (fun s7 s60 wx => s7 = .int .i64 (n : Int) /\ s60 = .bool false /\ wx = w66)
     case first =>
      by_cases hn0 : (n : Int) = 0
      ·have ht0 : sv.toList.isEmpty = false:=not_empty HNE.out (by omega)
       go_wp2
       go_meet
       case rel => exact ⟨by rw [hn0],rfl,rfl⟩
      ·go_wp2
       go_meet
       case rel => exact ⟨rfl,rfl,rfl⟩
     case rest =>
      obtain ⟨rfl,rfl,rfl⟩:=hcut
      obtain ⟨_,_,_,_,_,_,_,_,_,_,_,_,_,_,_,_,_,_,_,_,_,_⟩:=kc11 BK9
      go_upto_region 18 with (first | ((with_reducible refine Qaf (N:=65) rfl ?_); (try (refine Qah (by rfl) ?_; dsimp only)); refine gl (some 65) Try.func5 #[.int .i64 0] (h := ?_); (refine (w7_num.calls 0 0 _ rfl).mono ?_); rintro e w7 ⟨rfl,hd⟩; refine ⟨_,rfl, ?_⟩; have hb:=hd.below; replace HRV:=rb HRV hb; replace HR7:=rb HR7 hb; replace BK9:=bl BK9 hb; replace BK1:=bl BK1 hb; replace HB:=bs HB hb; clear hb hd; obtain ⟨_,_,_,_,_,_,_,_,_,_,_,_,_,_,_,_,_,_,_,_,_,_⟩:=kc11 BK9) | ((with_reducible refine Qaf (N:=79) rfl ?_); refine lit_event rfl rfl (cs:=#[.int .i64 o.f0, .int .i64 o.f1, .int .i64 o.f2, .int .i64 o.f3.f0, .int .i64 o.f3.f1, .int .i64 o.f3.f2, .string o.f4, .slice AG o.f5.length cG, .int .i64 o.f6, .int .i64 o.f7, .int .i64 o.f8]) (t:=32) (n:=1) (hrun:=by first | (go_simp; done) | (go_simp; rfl)) ?_; intro gb79 hg w9 hbox hb; have BKL:=Zz.k hbox; replace HRV:=rb HRV hb; replace HR7:=rb HR7 hb; replace BK1:=bl BK1 hb; replace HB:=bs HB hb; clear hb hbox hg) | ((with_reducible refine gate_builtin (b:=.append) (xs:=#[.tmp 77, .tmp 79]) rfl ?_); at_builtin; refine Kd.R_append_rows kOp (w0:=w) w.heap.size rfl (.tmp 77) (.tmp 79) 24 32 _ 112 rfl hu24 infoOp rfl (by decide) (by decide) (.slice AL L.length cL) L [o] (some ⟨gb79,0,none⟩) 1 1 (fun _ => True) (fun k => some k ≠ (Value.slice AL L.length cL).ownBlock) rfl rfl HRV.out (one_reads (cells:=[.int .i64 o.f0, .int .i64 o.f1, .int .i64 o.f2, .int .i64 o.f3.f0, .int .i64 o.f3.f1, .int .i64 o.f3.f2, .string o.f4, .slice AG o.f5.length cG, .int .i64 o.f6, .int .i64 o.f7, .int .i64 o.f8]) BKL.out rfl (kOp_mkM _ _ _ o (apart7 HRV.out HR7.out))) (fun _ _ h => h) (fun k hk => ⟨trivial,hk⟩) (fun _ _ => trivial) HB.out HB.out.size HLB.out ?_; intro v2 w10 ho2 hb hg hat; rw [<- HL2.out] at ho2; obtain ⟨AL2,cL2,rfl⟩:=Kd.R_slice ho2; replace BK1:=Zz.k (blk_grown BK1.out hg (Kd.R_ne HRV.out BK1.out (by decide))); have HRW:=Zz.k ho2; replace HB:=Zz.k hb; clear HRV HR7 BKL ho2 hb hg hat))
      obtain ⟨hx0,hx1,hx2,hx3,hx4,hx5,hx6,hx7⟩:=cuts HXY.out.1 HN.out HPS.out HSV.out
      refine stR (S:=fun _ => True) 12 t_lectionarylaw7_EditMany.bits18 t_lectionarylaw7_EditMany.tab18 (hS:=trivial) (h:=fun hS HT HW => ?_)
      replace HRW:=Zz.k (show Kd.R kOp 32 w10.drew w.heap.size (fun _ => True) (.slice AL2 L2.length cL2) L2 from rk HRW)
      replace BK1:=Zz.k (show w10.drew.heap[gb1]? = some _ from kk BK1)
      replace HB:=Zz.k (show Below w.heap.size w w10.drew from bw HB)
      generalize w10.drew = w11 at HRW BK1 HB ⊢
      refine pu HT 0 81 1 (h := ?_)
      refine pu HT 1 82 3 (h := ?_)
      refine pu HT 2 83 7 (h := ?_)
      refine pu HT 3 84 15 (h := ?_)
      refine pu HT 4 85 31 (h := ?_)
      refine pu HT 5 86 63 (h := ?_)
      refine pu HT 6 87 127 (h := ?_)
      refine pu HT 7 88 255 (h := ?_)
      refine pu HT 8 89 511 (h := ?_)
      refine pu HT 9 90 1023 (h := ?_)
      refine pu HT 10 91 2047 (h := ?_)
      refine pu HT 11 4 4095 (h := ?_)
      refine dn HT (h := ?_)
      clear HT HW hS hx0 hx1 hx2 hx3 hx4 hx5 hx6 hx7
      rw [<- HP2.out]
      go_upto_region 19 with (fail)
      go_wp2_with (fail)
      refine (doc_Text.calls AL2 cL2 L2 p2 0 w11 (cr (W:=w11) HRW) (Kd.R_reads' HRW.out).2.1 (many_text HST.out hlt)).mono ?_
      rintro e w12 ⟨rfl,hb⟩
      replace HRW:=rb HRW hb
      replace BK1:=bl BK1 hb
      replace HB:=bs HB hb
      clear hb
      go_wp2_with (first | ((with_reducible refine Qaf (N:=98) rfl ?_); (try (refine Qah (by rfl) ?_; dsimp only)); refine gl (some 98) Try.func5 #[.int .i64 0] (h := ?_); (refine (w7_num.calls 0 0 _ rfl).mono ?_); rintro e w7 ⟨rfl,hd⟩; refine ⟨_,rfl, ?_⟩; have hb:=hd.below; replace HRW:=rb HRW hb; replace BK1:=bl BK1 hb; replace HB:=bs HB hb; clear hb hd) | ((with_reducible refine Qac (f:=8) rfl ?_); (try (refine Qah (by rfl) ?_; dsimp only)); refine gl (some 107) Try.func8 #[.slice AL2 L2.length cL2] (h := ?_); (refine (tree_Check.calls AL2 cL2 L2 0 _ (cr HRW) (Kd.R_reads' HRW.out).2.1 (many_check HST.out hlt)).mono ?_); rintro e w13 ⟨rfl,hb⟩; refine ⟨_,rfl, ?_⟩; replace HRW:=rb HRW hb; replace BK1:=bl BK1 hb; replace HB:=bs HB hb; clear hb) | ((with_reducible refine Qaf (N:=108) rfl ?_); (try (refine Qah (by rfl) ?_; dsimp only)); refine gl (some 108) Try.func5 #[.int .i64 0] (h := ?_); (refine (w7_num.calls 0 0 _ rfl).mono ?_); rintro e w7 ⟨rfl,hd⟩; refine ⟨_,rfl, ?_⟩; have hb:=hd.below; replace HRW:=rb HRW hb; replace BK1:=bl BK1 hb; replace HB:=bs HB hb; clear hb hd))
      go_roundg g1
      case measure => omega
      case rel => exact ⟨j + 1,L2,p2,_,by omega,by omega,rfl,rfl,by go_num,HRW,HST,BK1,HB⟩
  ·have hjz : ¬ (j : Int) < 30:=by omega
   go_wp2_with (first | ((with_reducible refine Qac (f:=6) rfl ?_); refine gl (some 111) Try.func6 #[] (h := ?_); (refine (wakes7 _).mono ?_); rintro e w8 ⟨rfl,hb⟩; refine ⟨_,rfl, ?_⟩; replace HB:=bs HB hb; clear hb))
   go_ret
   exact ⟨rfl,bw HB⟩
end
end Go.Proofs.Ytlllghajjamdpaa.L
end
