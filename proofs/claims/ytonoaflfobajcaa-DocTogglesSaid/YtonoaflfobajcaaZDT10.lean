/- Part 10 of the proof that for every argument the law DocToggles answers true: with a toggle that does not count the text is as it was, with two of one edit too, with one what it wrote is visible no more, or again. -/
import Derived.Test.YtonoaflfobajcaaZDT9
section
namespace Go.Proofs.Ytonoaflfobajcaa.L
open Go.RowKit Go.Proofs.YtonoaflfobajcaaW.PrintWords Go.Proofs.YtonoaflfobajcaaW.PrintLast Go.Proofs.YtonoaflfobajcaaW.PrintMore
set_option linter.unusedVariables false
set_option linter.unusedSimpArgs false
theorem cntR_app (l : List SOp) (o : SOp) (s q : Int) : cntR (l ++ [o]) s q = cntStep s q (cntR l s q) o:=by unfold cntR; rw [List.foldl_append]; rfl
theorem any_same {α : Type} : ∀ (ms : List α) (f g : α → Bool),(∀ o ∈ ms,f o = g o) → ms.any f = ms.any g
 | [],_,_,_ => rfl
 | o :: ms,f,g,h => by rw [List.any_cons,List.any_cons,h o List.mem_cons_self,any_same ms f g (fun x hx => h x (List.mem_cons_of_mem _ hx))]
theorem any_no {α : Type} (ms : List α) (f : α → Bool) (h : ∀ o ∈ ms,f o = false) : ms.any f = false:=by
 rw [any_same ms f (fun _ => false) h]; simp
theorem workE_tog (m : List SOp) {t : SOp} (h2 : t.f2 = 2) : workE m t = false:=by unfold workE; rw [h2]; rfl
theorem tog_seen {l ts : List SOp} (ho : ordL (l ++ ts) = ordL l) (h2 : ∀ t ∈ ts,t.f2 = 2) (hw : ∀ o ∈ l,workE (l ++ ts) o = workE l o) : seenL (l ++ ts) = seenL l:=by
 unfold seenL
 rw [ho]
 refine List.filter_congr fun e _ => ?_
 have key : ∀ f : SOp → Bool,((l ++ ts).any fun o => workE (l ++ ts) o && f o) = (l.any fun o => workE l o && f o):=by
  intro f
  rw [List.any_append,any_no ts _ (fun t ht => by rw [workE_tog _ (h2 t ht)]; rfl),Bool.or_false]
  exact any_same l _ _ (fun o ho => by rw [hw o ho])
 unfold goneE thereE
 rw [key,key]
theorem tog_ord {l : List SOp} {t : SOp} (hn : NextOk l t) (h2 : t.f2 = 2) : ordL (l ++ [t]) = ordL l:=by
 rw [ordL_app]
 have h0:=(opOk_size2 hn.ok).2 h2
 have hc : chainE t = []:=List.eq_nil_of_length_eq_zero (by rw [chain_length,h0])
 rcases opOk_kinds hn.ok with ⟨h1,_⟩ | ⟨_,ht⟩
 ·omega
 ·unfold toggleOk at ht
  simp only [Bool.and_eq_true] at ht
  unfold insO
  rw [if_pos ht.1.1.2,hc,List.nil_append]
theorem tog_next {l : List SOp} (h : RowOk l) (hl : l.length + 1 ≤ 40) {p : SOp} (hp : p ∈ l) (h1 : p.f2 = 1) {s g : Int} (hs : 1 ≤ s ∧ s ≤ 8) (hg : 0 ≤ g ∧ g ≤ 268435456) : NextOk l ⟨s,((countS l s + 1 : Nat) : Int),2,⟨0,0,0⟩,(⟨#[]⟩ : ByteArray),[],p.f0,p.f1,g⟩:=by
 have hc:=countS_le l s
 have hnm:=opOk_pos (h.oks p hp)
 have hq:=mem_seq h p hp
 have h0 : sizeOf' ⟨s,((countS l s + 1 : Nat) : Int),2,⟨0,0,0⟩,(⟨#[]⟩ : ByteArray),[],p.f0,p.f1,g⟩ = 0:=by unfold sizeOf' runesOf; rfl
 refine ⟨hl, ?_,(by show ((countS l s + 1 : Nat) : Int) = (countS l s : Int) + 1; omega), .inl rfl,(fun e he => nomatch he),fun _ => ⟨p,hp,h1,rfl,rfl⟩,(by rw [h0]; have:=h.sums.2; omega)⟩
 have hne : ¬ (p.f0 = s ∧ p.f1 = ((countS l s + 1 : Nat) : Int)):=by
  rintro ⟨e0,e1⟩
  rw [e0] at hq; omega
 unfold opOk toggleOk nameOk
 simp only [Bool.and_eq_true,decide_eq_true_eq]
 refine ⟨⟨⟨⟨hs.1,hs.2⟩,by omega⟩,by omega⟩, ?_⟩
 rw [if_neg (by decide)]
 simp only [Bool.and_eq_true,decide_eq_true_eq,Bool.not_eq_true',Bool.and_eq_false_iff,beq_eq_false_iff_ne]
 refine ⟨rfl,⟨⟨⟨⟨⟨⟨⟨⟨⟨hnm.1,hnm.2.1⟩,hnm.2.2.1⟩,hnm.2.2.2⟩, ?_⟩,hg.1⟩,hg.2⟩,rfl⟩,(by unfold ByteArray.toList; unfold ByteArray.toList.loop; rfl)⟩,rfl⟩⟩
 by_cases e0 : p.f0 = s
 ·exact .inr (fun e1 => hne ⟨e0,e1⟩)
 ·exact .inl e0
theorem smalls_snoc {l : List SOp} (h : smalls l = true) (hl : l.length ≤ 1000000) {o : SOp} (h4 : o.f4.size ≤ 1000000) (h5 : o.f5.length ≤ 1000000) : smalls (l ++ [o]) = true:=by
 unfold smalls SmB at h ⊢
 simp only [Bool.and_eq_true,decide_eq_true_eq,List.all_eq_true] at h ⊢
 refine ⟨by rw [List.length_append,List.length_singleton]; omega,fun x hx => ?_⟩
 rcases List.mem_append.1 hx with hx | hx
 ·exact h.2 x hx
 ·rw [List.mem_singleton] at hx; subst hx; exact ⟨by omega,by omega⟩
end Go.Proofs.Ytonoaflfobajcaa.L
end

section
namespace Go.Proofs.Ytonoaflfobajcaa.L
open Go.RowKit Go.Proofs.YtonoaflfobajcaaW.PrintWords Go.Proofs.YtonoaflfobajcaaW.PrintLast Go.Proofs.YtonoaflfobajcaaW.PrintMore
set_option linter.unusedVariables false
set_option linter.unusedSimpArgs false
theorem doc_Plain_f {L : List SOp} (hs : smalls L = true) (h : RowOk L) : doc_Plain.f L = some (plainR L):=by unfold doc_Plain.f; exact if_pos ⟨hs,(mayB_iff L).2 h⟩
theorem doc_Text_ok {L : List SOp} (hs : smalls L = true) (h : RowOk L) : doc_Text.f L = some (plainR L,0):=by
 unfold doc_Text.f
 rw [tree_May_f hs,(mayB_iff L).2 h,Option.bind_some,if_pos rfl,doc_Plain_f hs h]; rfl
theorem doc_Text_no {L : List SOp} (hs : smalls L = true) (hm : mayB L = false) : doc_Text.f L = some ((⟨#[]⟩ : ByteArray),1):=by
 unfold doc_Text.f
 rw [tree_May_f hs,hm]; rfl
end Go.Proofs.Ytonoaflfobajcaa.L
end

section
namespace Go.Proofs.Ytonoaflfobajcaa.L
open Go.RowKit Go.Proofs.YtonoaflfobajcaaW.PrintWords Go.Proofs.YtonoaflfobajcaaW.PrintLast Go.Proofs.YtonoaflfobajcaaW.PrintMore
set_option linter.unusedVariables false
set_option linter.unusedSimpArgs false
theorem tog_plain {l ts : List SOp} (ho : ordL (l ++ ts) = ordL l) (h2 : ∀ t ∈ ts,t.f2 = 2) (hw : ∀ o ∈ l,workE (l ++ ts) o = workE l o) (ha : ∀ e ∈ ordL l,atR (l ++ ts) e = atR l e) : plainR (l ++ ts) = plainR l:=by
 unfold plainR
 rw [tog_seen ho h2 hw]
 congr 1
 exact List.map_congr_left fun e he => ha e (seen_mem.1 he).1
theorem tog_at {l : List SOp} {t : SOp} (h : RowOk l) (hn : NextOk l t) {e : SElem} (he : e ∈ ordL l) : atR (l ++ [t]) e = atR l e:=by
 obtain ⟨p,hp,e0,e1,_,_⟩:=(mem_ordL h e).1 he
 obtain ⟨i,hi,ef,_⟩:=findOp_mem h hp
 rw [e0,e1] at ef
 have hf:=hn.fresh h p hp
 unfold atR
 rw [findOp_app_other l t e.f0 e.f1 (by rw [← e0,← e1]; exact fun hh => hf ⟨hh.1.symm,hh.2.symm⟩),ef,rd_Op_app _ _ _ hi]
end Go.Proofs.Ytonoaflfobajcaa.L
end

section
namespace Go.Proofs.Ytonoaflfobajcaa.L
open Go.RowKit Go.Proofs.YtonoaflfobajcaaW.PrintWords Go.Proofs.YtonoaflfobajcaaW.PrintLast Go.Proofs.YtonoaflfobajcaaW.PrintMore
set_option linter.unusedVariables false
set_option linter.unusedSimpArgs false
theorem idle_ok {l : List SOp} {o : SOp} (hs : smalls (l ++ [o]) = true) (hl : l.length ≤ 1000000) (h : RowOk (l ++ [o])) : doc_Idle.f l o.f0 o.f1 o.f2 o.f3.f0 o.f3.f1 o.f3.f2 o.f4 o.f5 o.f6 o.f7 o.f8 = some (idleR l o,0):=by
 show idleF l o = _
 unfold idleF
 rw [if_pos ⟨hs,hl⟩,if_pos ((mayB_iff _).2 h)]
end Go.Proofs.Ytonoaflfobajcaa.L
end

section
namespace Go.Proofs.Ytonoaflfobajcaa.L
open Go.RowKit Go.Proofs.YtonoaflfobajcaaW.PrintWords Go.Proofs.YtonoaflfobajcaaW.PrintLast Go.Proofs.YtonoaflfobajcaaW.PrintMore
set_option linter.unusedVariables false
set_option linter.unusedSimpArgs false
theorem doc_Edit_at {L : List SOp} (hs : smalls L = true) (h : RowOk L) {i : Nat} (hi : i < L.length) {a b : Int} (hf : findOp L a b = (i : Int)) : doc_Edit.f L a b = some (if L[i].f2 = 1 then ((i : Int),0) else (0,3)):=by
 have h40:=h.sums.1
 unfold doc_Edit.f
 rw [tree_May_f hs,(mayB_iff L).2 h,Option.bind_some,if_pos rfl,tree_Find_f (by omega),Option.bind_some,hf,if_neg (by omega),if_pos (by omega),if_pos (by omega),rd_Op_nat _ _ hi]
 split <;> rfl
theorem cntR_nonneg {L : List SOp} (h : RowOk L) {i : Nat} (hi : i < L.length) : 0 ≤ cntR L L[i].f0 L[i].f1 ∧ cntR L L[i].f0 L[i].f1 ≤ L.length:=by
 rw [← counts_at h hi,List.getD_eq_getElem?_getD]
 cases hq : (countsL L)[i]? with
 | none => exact ⟨Int.le_refl _,by simp⟩
 | some y => exact counts_bound y (List.mem_of_getElem? hq)
theorem Count_ev {L : List SOp} (hs : smalls L = true) (h : RowOk L) {i : Nat} (hi : i < L.length) {a b : Int} (hf : findOp L a b = (i : Int)) : Ev (fun k => doc_Count.f k L a b) (if L[i].f2 = 1 then (cntR L L[i].f0 L[i].f1,0) else (0,3)):=by
 by_cases h1 : L[i].f2 = 1
 ·rw [if_pos h1]
  refine Ev.congr (f:=fun k => (doc_Counts.f k L).bind fun t => if 0 ≤ (i : Int) then (if (i : Int) < (t.length : Int) then some (rd t (i : Int),(0 : Int)) else none) else none) (fun k => ?_) (Ev.bind (f:=fun _ t => if 0 ≤ (i : Int) then (if (i : Int) < (t.length : Int) then some (rd t (i : Int),(0 : Int)) else none) else none) (Counts_ev h) ?_)
  ·unfold doc_Count.f
   rw [doc_Edit_at hs h hi hf,if_pos h1]; rfl
  ·refine Ev.congr (fun k => ?_) (Ev.now _)
   rw [if_pos (by omega),if_pos (by rw [counts_length]; omega)]
   unfold rd
   rw [Int.toNat_natCast,counts_at h hi]
 ·rw [if_neg h1]
  refine Ev.congr (fun k => ?_) (Ev.now _)
  unfold doc_Count.f
  rw [doc_Edit_at hs h hi hf,if_neg h1]; rfl
theorem Effective_ev {L : List SOp} (hs : smalls L = true) (h : RowOk L) {i : Nat} (hi : i < L.length) {a b : Int} (hf : findOp L a b = (i : Int)) : Ev (fun k => doc_Effective.f k L a b) (workE L L[i],if L[i].f2 = 1 then 0 else 3):=by
 refine Ev.bind (f:=fun _ (bt : Int × Int) => if bt.2 = 0 then some ((Int.tmod bt.1 2) == 0,bt.2) else some (false,bt.2)) (Count_ev hs h hi hf) ?_
 refine Ev.congr (fun k => ?_) (Ev.now _)
 unfold workE
 by_cases h1 : L[i].f2 = 1
 ·rw [if_pos h1,if_pos h1,if_pos rfl,h1,Int.tmod_eq_emod_of_nonneg (cntR_nonneg h hi).1]; rfl
 ·rw [if_neg h1,if_neg h1,if_neg (by decide)]
  have : (L[i].f2 == 1) = false:=by simp [h1]
  rw [this]; rfl
end Go.Proofs.Ytonoaflfobajcaa.L
end

section
namespace Go.Proofs.Ytonoaflfobajcaa.L
open Go.RowKit Go.Proofs.YtonoaflfobajcaaW.PrintWords Go.Proofs.YtonoaflfobajcaaW.PrintLast Go.Proofs.YtonoaflfobajcaaW.PrintMore
set_option linter.unusedVariables false
set_option linter.unusedSimpArgs false
theorem CopyElems_loop (l : List SElem) (hl : l.length ≤ 1000000000000) : ∀ d i,i + d = l.length → Ev (fun k => r0_CopyElems.l0 k l (l.take i) (i : Int)) l
 | 0,i,h => by
  rw [List.take_of_length_le (by omega)]
  refine Ev.step (f:=fun _ => some l) (fun k => ?_) (Ev.now _)
  simp only [r0_CopyElems.l0]
  rw [if_neg (by omega)]
 | d + 1,i,h => by
  have hlt : i < l.length:=by omega
  have ih:=CopyElems_loop l hl d (i + 1) (by omega)
  rw [List.take_succ_eq_append_getElem hlt] at ih
  refine Ev.step (fun k => ?_) ih
  simp only [r0_CopyElems.l0]
  rw [if_pos (by omega),if_pos (by omega),rd_Elem_nat _ _ hlt,if_pos (by rw [List.length_take]; omega),wrapS hlt (by omega)]
theorem CopyElems_ev (l : List SElem) (hl : l.length ≤ 1000000000000) : Ev (fun k => r0_CopyElems.f k l) l:=CopyElems_loop l hl l.length 0 (Nat.zero_add _)
theorem CopyOp_ev (o : SOp) (hl : o.f5.length ≤ 1000000000000) : Ev (fun k => r0_CopyOp.f k o.f0 o.f1 o.f2 o.f3.f0 o.f3.f1 o.f3.f2 o.f4 o.f5 o.f6 o.f7 o.f8) (o.f0,o.f1,o.f2,o.f3.f0,o.f3.f1,o.f3.f2,o.f4,o.f5,o.f6,o.f7,o.f8) :=
 Ev.bind (f:=fun _ t => some (o.f0,o.f1,o.f2,o.f3.f0,o.f3.f1,o.f3.f2,o.f4,t,o.f6,o.f7,o.f8)) (CopyElems_ev o.f5 hl) (Ev.now _)
theorem CopyOps_loop (l : List SOp) (hl : l.length ≤ 1000000) (hs : ∀ o ∈ l,o.f5.length ≤ 1000000000000) : ∀ d i,i + d = l.length → Ev (fun k => r0_CopyOps.l0 k l (l.take i) (i : Int)) l
 | 0,i,h => by
  rw [List.take_of_length_le (by omega)]
  refine Ev.step (f:=fun _ => some l) (fun k => ?_) (Ev.now _)
  simp only [r0_CopyOps.l0]
  rw [if_neg (by omega)]
 | d + 1,i,h => by
  have hlt : i < l.length:=by omega
  have ih:=CopyOps_loop l hl hs d (i + 1) (by omega)
  rw [List.take_succ_eq_append_getElem hlt] at ih
  have hlen : (l.take i).length < 1256584717458:=by rw [List.length_take]; omega
  refine Ev.step (fun k => by simp only [r0_CopyOps.l0]; rw [if_pos (by omega),if_pos (by omega),rd_Op_nat _ _ hlt,wrapS hlt (by omega)]) (Ev.bind (CopyOp_ev l[i] (hs _ (List.getElem_mem hlt))) ?_)
  simp only [if_pos hlen]
  exact ih
theorem CopyOps_ev (l : List SOp) (hl : l.length ≤ 1000000) (hs : ∀ o ∈ l,o.f5.length ≤ 1000000000000) : Ev (fun k => r0_CopyOps.f k l) l:=CopyOps_loop l hl hs l.length 0 (Nat.zero_add _)
end Go.Proofs.Ytonoaflfobajcaa.L
end

section
namespace Go.Proofs.Ytonoaflfobajcaa.L
open Go.RowKit Go.Proofs.YtonoaflfobajcaaW.PrintWords Go.Proofs.YtonoaflfobajcaaW.PrintLast Go.Proofs.YtonoaflfobajcaaW.PrintMore
set_option linter.unusedVariables false
set_option linter.unusedSimpArgs false
theorem wakes6_f : w6_wakes.f = some true:=by decide +kernel
theorem num6_f (a : Int) : w6_num.f a = some a:=rfl
theorem rune6_f : r1_Rune.f 97 = some true:=by decide +kernel
def togO (s q a b g : Int) : SOp:=⟨s,q,2,⟨0,0,0⟩,(⟨#[]⟩ : ByteArray),[],a,b,g⟩
theorem togO_eq (s q a b g : Int) : (⟨s,q,2,⟨0,0,0⟩,(⟨#[]⟩ : ByteArray),[],a,b,g⟩ : SOp) = togO s q a b g:=rfl
theorem cnt_tog (L : List SOp) (s q a b g c d : Int) : cntR (L ++ [togO s q a b g]) c d = if a = c ∧ b = d ∧ g = cntR L c d then cntR L c d + 1 else cntR L c d:=by
 rw [cntR_app]
 unfold cntStep togO
 simp
theorem workE_eq {L M : List SOp} {o : SOp} (h : cntR M o.f0 o.f1 % 2 = cntR L o.f0 o.f1 % 2) : workE M o = workE L o:=by unfold workE; rw [h]
theorem even_two (x : Int) : (x + 1 + 1) % 2 = x % 2:=by omega
theorem even_flip {x : Int} : (x % 2 == 0) ≠ ((x + 1) % 2 == 0):=by
 intro h
 rcases Int.emod_two_eq x with e | e
 ·have e1 : (x + 1) % 2 = 1:=by omega
  rw [e,e1] at h; cases h
 ·have e1 : (x + 1) % 2 = 0:=by omega
  rw [e,e1] at h; cases h
structure TogOk (L : List SOp) (i : Nat) (hi : i < L.length) (s g : Int) : Prop where
 sL : smalls (L ++ [togO s ((countS L s + 1 : Nat) : Int) L[i].f0 L[i].f1 (cntR L L[i].f0 L[i].f1 + 1 + g)]) = true
 rL : RowOk (L ++ [togO s ((countS L s + 1 : Nat) : Int) L[i].f0 L[i].f1 (cntR L L[i].f0 L[i].f1 + 1 + g)])
 sO : smalls (L ++ [togO s ((countS L s + 1 : Nat) : Int) L[i].f0 L[i].f1 (cntR L L[i].f0 L[i].f1)]) = true
 rO : RowOk (L ++ [togO s ((countS L s + 1 : Nat) : Int) L[i].f0 L[i].f1 (cntR L L[i].f0 L[i].f1)])
 sT : smalls (L ++ [togO s ((countS L s + 1 : Nat) : Int) L[i].f0 L[i].f1 (cntR L L[i].f0 L[i].f1)] ++ [togO s ((countS L s + 1 + 1 : Nat) : Int) L[i].f0 L[i].f1 (cntR L L[i].f0 L[i].f1 + 1)]) = true
 rT : RowOk (L ++ [togO s ((countS L s + 1 : Nat) : Int) L[i].f0 L[i].f1 (cntR L L[i].f0 L[i].f1)] ++ [togO s ((countS L s + 1 + 1 : Nat) : Int) L[i].f0 L[i].f1 (cntR L L[i].f0 L[i].f1 + 1)])
 pL : plainR (L ++ [togO s ((countS L s + 1 : Nat) : Int) L[i].f0 L[i].f1 (cntR L L[i].f0 L[i].f1 + 1 + g)]) = plainR L
 pT : plainR (L ++ [togO s ((countS L s + 1 : Nat) : Int) L[i].f0 L[i].f1 (cntR L L[i].f0 L[i].f1)] ++ [togO s ((countS L s + 1 + 1 : Nat) : Int) L[i].f0 L[i].f1 (cntR L L[i].f0 L[i].f1 + 1)]) = plainR L
 flip : (workE L L[i] == workE (L ++ [togO s ((countS L s + 1 : Nat) : Int) L[i].f0 L[i].f1 (cntR L L[i].f0 L[i].f1)]) L[i]) = false
 iL : idleR L (togO s ((countS L s + 1 : Nat) : Int) L[i].f0 L[i].f1 (cntR L L[i].f0 L[i].f1 + 1 + g)) = true
 iO : idleR L (togO s ((countS L s + 1 : Nat) : Int) L[i].f0 L[i].f1 (cntR L L[i].f0 L[i].f1)) = false
theorem tog_ok {L : List SOp} (hs : smalls L = true) (h : RowOk L) (hl : L.length + 2 ≤ 40) {i : Nat} (hi : i < L.length) (h1 : L[i].f2 = 1) {s g : Int} (hsite : 1 ≤ s ∧ s ≤ 8) (hg : 0 ≤ g ∧ g ≤ 2) : TogOk L i hi s g:=by
 have hc:=cntR_nonneg h hi
 have hp:=List.getElem_mem hi
 have nL:=tog_next h (by omega) hp h1 hsite (g:=cntR L L[i].f0 L[i].f1 + 1 + g) (by omega)
 have nO:=tog_next h (by omega) hp h1 hsite (g:=cntR L L[i].f0 L[i].f1) (by omega)
 rw [togO_eq] at nL nO
 have rO:=RowOk.snoc h nO
 have hcS : countS (L ++ [togO s ((countS L s + 1 : Nat) : Int) L[i].f0 L[i].f1 (cntR L L[i].f0 L[i].f1)]) s = countS L s + 1:=by rw [countS_app]; exact congrArg _ (if_pos rfl)
 have nT:=tog_next rO (by rw [List.length_append]; exact hl) (List.mem_append_left _ hp) h1 hsite (g:=cntR L L[i].f0 L[i].f1 + 1) (by omega)
 rw [togO_eq,hcS] at nT
 have rT:=RowOk.snoc rO nT
 have z0 : (⟨#[]⟩ : ByteArray).size ≤ 1000000:=Nat.zero_le _
 have z1 : ([] : List SElem).length ≤ 1000000:=Nat.zero_le _
 have sO : smalls (L ++ [togO s ((countS L s + 1 : Nat) : Int) L[i].f0 L[i].f1 (cntR L L[i].f0 L[i].f1)]) = true:=smalls_snoc hs (by omega) z0 z1
 have e1 : ∀ c d,cntR (L ++ [togO s ((countS L s + 1 : Nat) : Int) L[i].f0 L[i].f1 (cntR L L[i].f0 L[i].f1 + 1 + g)]) c d = cntR L c d:=by
  intro c d
  rw [cnt_tog,if_neg]
  rintro ⟨rfl,rfl,e⟩
  omega
 have e2 : ∀ c d,cntR (L ++ [togO s ((countS L s + 1 : Nat) : Int) L[i].f0 L[i].f1 (cntR L L[i].f0 L[i].f1)] ++ [togO s ((countS L s + 1 + 1 : Nat) : Int) L[i].f0 L[i].f1 (cntR L L[i].f0 L[i].f1 + 1)]) c d % 2 = cntR L c d % 2:=by
  intro c d
  rw [cnt_tog,cnt_tog]
  by_cases e : L[i].f0 = c ∧ L[i].f1 = d
  ·obtain ⟨rfl,rfl⟩:=e
   rw [if_pos (⟨rfl,rfl,rfl⟩ : L[i].f0 = L[i].f0 ∧ L[i].f1 = L[i].f1 ∧ cntR L L[i].f0 L[i].f1 = cntR L L[i].f0 L[i].f1),if_pos ⟨rfl,rfl,rfl⟩]
   exact even_two _
  ·rw [if_neg (fun x => e ⟨x.1,x.2.1⟩),if_neg (fun x => e ⟨x.1,x.2.1⟩)]
 have oL:=tog_ord nL rfl
 have oO:=tog_ord nO rfl
 have oT:=(tog_ord nT rfl).trans oO
 refine ⟨smalls_snoc hs (by omega) z0 z1, .snoc h nL,sO,rO,smalls_snoc sO (by rw [List.length_append]; show L.length + 1 ≤ 1000000; omega) z0 z1,rT, ?_, ?_, ?_, ?_, ?_⟩
 ·refine tog_plain oL (fun t ht => by rw [List.mem_singleton] at ht; subst ht; rfl) (fun o ho => workE_eq (by rw [e1])) (fun e he => tog_at h nL he)
 ·rw [List.append_assoc] at oT rT e2 ⊢
  refine tog_plain oT (fun t ht => ?_) (fun o ho => workE_eq (e2 _ _)) (fun e he => ?_)
  ·rcases List.mem_append.1 ht with ht | ht <;> (rw [List.mem_singleton] at ht; subst ht; rfl)
  ·rw [← List.append_assoc,tog_at rO nT (by rw [oO]; exact he),tog_at h nO he]
 ·refine beq_eq_false_iff_ne.2 ?_
  unfold workE
  rw [h1,cnt_tog,if_pos ⟨rfl,rfl,rfl⟩]
  show (true && _) ≠ (true && _)
  rw [Bool.true_and,Bool.true_and]
  exact even_flip
 ·show (true && !(((togO s ((countS L s + 1 : Nat) : Int) L[i].f0 L[i].f1 (cntR L L[i].f0 L[i].f1 + 1 + g)).f8 == cntR L L[i].f0 L[i].f1))) = true
  rw [show ((togO s ((countS L s + 1 : Nat) : Int) L[i].f0 L[i].f1 (cntR L L[i].f0 L[i].f1 + 1 + g)).f8 == cntR L L[i].f0 L[i].f1) = false from beq_eq_false_iff_ne.2 (by show cntR L L[i].f0 L[i].f1 + 1 + g ≠ _; omega)]
  rfl
 ·show (true && !(cntR L L[i].f0 L[i].f1 == cntR L L[i].f0 L[i].f1)) = false
  rw [beq_self_eq_true]
  rfl
section
variable {l0 : List (List SOp)} {l1 : List SElem} {l2 : List SOp} {l3 : List Int} {L : List SOp}
theorem tw1 {a g : Int} (h : 0 ≤ a ∧ a ≤ 40) (hg : 0 ≤ g ∧ g ≤ 2) : wrap64 (a + 1 + g) = a + 1 + g ∧ wrap64 (a + 1) = a + 1:=⟨wrap64_small (by omega) (by omega),wrap64_small (by omega) (by omega)⟩
theorem tmod3 (i : Nat) : 0 ≤ Int.tmod (i : Int) 3 ∧ Int.tmod (i : Int) 3 ≤ 2:=by
 rw [Int.tmod_eq_emod_of_nonneg (by omega)]; omega
theorem tw2 (q : Nat) (h : q ≤ 1000) : wrap64 (((q : Nat) : Int) + 1) = ((q + 1 : Nat) : Int):=by
 rw [wrap64_small (by omega) (by omega)]; omega
theorem gone12 (h : RowOk L) : ∀ o ∈ L,o.f5.length ≤ 1000000000000:=fun o ho => by have:=opOk_gone200 (h.oks o ho); omega
theorem DT_j4 (hs : smalls L = true) (h : RowOk L) (x3 : Int) {i : Nat} (hi : i < L.length) (h1 : L[i].f2 = 1) {s : Int} (hsite : 1 ≤ s ∧ s ≤ 8)
  (hnext : Ev (fun k => w6_DocToggles.l1 k x3 L (plainR L) ((i + 1 : Nat) : Int) l0 l1 l2 l3) true) :
  Ev (fun k => w6_DocToggles.j4 k x3 L (plainR L) (i : Int) (cntR L L[i].f0 L[i].f1) s ((countS L s + 1 : Nat) : Int) false l0 l1 l2 l3) true:=by
 have h40:=h.sums.1
 have hc:=cntR_nonneg h hi
 have hm:=tmod3 i
 have hcs:=countS_le L s
 have hi0 : (0 : Int) ≤ (i : Int):=by omega
 have hi1 : (i : Int) < (L.length : Int):=by omega
 have hL6 : L.length ≤ 1000000:=by omega
 have hL7 : L.length + 1 ≤ 1000000:=by omega
 have hq1 : L.length + 1 < 1256584717458:=by omega
 have hq2 : L.length + 1 + 1 < 1256584717458:=by omega
 have hi5 : i < L.length + 1:=by omega
 have hn3 : (0 : Int) ≤ (L.length : Int):=by omega
 have hn5 : (L.length : Int) < ((L.length + 1 : Nat) : Int):=by omega
 have hc40 : cntR L L[i].f0 L[i].f1 ≤ 40:=by omega
 have hcq : countS L s + 1 ≤ 1000:=by omega
 have hLw : L.length ≤ 4611686018427387904:=by omega
 have hrd:=rd_Op_nat L i hi
 have hn1 : ∀ t : SOp,L.length + [t].length < 1256584717458:=fun t => hq1
 have hn2 : ∀ t u : SOp,(L ++ [t]).length + [u].length < 1256584717458:=fun t u => by rw [List.length_append]; exact hq2
 have hn4 : ∀ t : SOp,(L.length : Int) < ((L ++ [t]).length : Int):=fun t => by rw [List.length_append]; exact hn5
 have hC:=CopyOps_ev L hL6 (gone12 h)
 have hC2 : ∀ t : SOp,t.f5 = [] → Ev (fun k => r0_CopyOps.f k (L ++ [t])) (L ++ [t]):=fun t ht => CopyOps_ev _ (by rw [List.length_append]; exact hL7) (fun o ho => by
  rcases List.mem_append.1 ho with ho | ho
  ·exact gone12 h o ho
  ·rw [List.mem_singleton] at ho; subst ho; rw [ht]; exact Nat.zero_le _)
 have hlenT : ∀ t u : SOp,L.length + 2 ≤ 40 → ¬ (((L ++ [t] ++ [u]).length : Int) > 40):=fun t u hh => by
  rw [List.length_append,List.length_append]; show ¬ (((L.length + 1 + 1 : Nat) : Int) > 40); omega
 have hlenF : ∀ t u : SOp,¬ L.length + 2 ≤ 40 → (((L ++ [t] ++ [u]).length : Int) > 40):=fun t u hh => by
  rw [List.length_append,List.length_append]; show (((L.length + 1 + 1 : Nat) : Int) > 40); omega
 obtain ⟨w1,w2⟩:=tw1 (a:=cntR L L[i].f0 L[i].f1) ⟨hc.1,hc40⟩ hm
 have w3:=tw2 (countS L s + 1) hcq
 have w4:=wrapS hi hLw
 generalize hmg : Int.tmod (i : Int) 3 = g at hm w1
 refine Ev.step (fun k => by simp only [w6_DocToggles.j4]; rw [if_neg (by decide)]) (Ev.bind hC ?_)
 simp only [if_pos hi0,if_pos hi1,hrd,Option.bind_some,hmg,w1,w2,w3,if_pos (hn1 _),togO_eq]
 refine Ev.bind hC ?_
 simp only [if_pos (hn1 _)]
 refine Ev.bind (hC2 _ rfl) ?_
 simp only [if_pos (hn2 _ _)]
 by_cases h41 : L.length + 2 ≤ 40
 ·have T:=tog_ok hs h h41 hi h1 hsite hm
  have hlen:=fun t u => hlenT t u h41
  have hE1:=Effective_ev hs h hi (findOp_at h hi)
  have hi2 : i < (L ++ [togO s ((countS L s + 1 : Nat) : Int) L[i].f0 L[i].f1 (cntR L L[i].f0 L[i].f1)]).length:=by rw [List.length_append]; exact hi5
  have hE2:=Effective_ev T.sO T.rO hi2 (findOp_at T.rO hi2)
  rw [List.getElem_append_left hi,if_pos h1] at hE2
  rw [if_pos h1] at hE1
  simp only [if_neg (hlen _ _),doc_Text_ok T.sL T.rL,doc_Text_ok T.sT T.rT,Option.bind_some,T.pL,T.pT]
  refine Ev.bind hE1 (Ev.bind hE2 ?_)
  simp only [if_pos hn3,if_pos (hn4 _),rd_Op_last,idle_ok T.sL hL6 T.rL,idle_ok T.sO hL6 T.rO,Option.bind_some,num6_f,T.flip,T.iL,T.iO]
  refine Ev.congr (f:=fun k => w6_DocToggles.j5 k x3 L (plainR L) (i : Int) false l0 l1 l2 l3) (fun k => ?_) (Ev.step (fun k => ?_) hnext)
  ·rw [if_pos (by decide +kernel),if_pos True.intro,if_pos True.intro,if_neg (by decide),if_pos True.intro]
  ·simp only [w6_DocToggles.j5]
   rw [if_neg (by decide),w4]
 ·have hlen:=fun t u => hlenF t u h41
  simp only [if_pos (hlen _ _),w4]
  exact hnext
theorem count_take (L : List SOp) (s : Int) {j : Nat} (hj : j < L.length) : countS (L.take (j + 1)) s = countS (L.take j) s + if L[j].f0 = s then 1 else 0:=by
 rw [List.take_succ_eq_append_getElem hj,countS_app]
theorem DT_l2 (hs : smalls L = true) (h : RowOk L) (x3 : Int) {i : Nat} (hi : i < L.length) (h1 : L[i].f2 = 1) {s : Int} (hsite : 1 ≤ s ∧ s ≤ 8)
  (hnext : Ev (fun k => w6_DocToggles.l1 k x3 L (plainR L) ((i + 1 : Nat) : Int) l0 l1 l2 l3) true) : ∀ d j,j + d = L.length →
  Ev (fun k => w6_DocToggles.l2 k x3 L (plainR L) (i : Int) (cntR L L[i].f0 L[i].f1) s ((countS (L.take j) s + 1 : Nat) : Int) (j : Int) l0 l1 l2 l3) true
 | 0,j,hj => by
  have h40:=h.sums.1
  have hm:=DT_j4 (l0:=l0) (l1:=l1) (l2:=l2) (l3:=l3) hs h x3 hi h1 hsite hnext
  have hq:=mem_seq h _ (List.getElem_mem hi)
  rw [List.take_of_length_le (by omega)]
  refine Ev.step (fun k => ?_) hm
  simp only [w6_DocToggles.l2]
  rw [if_neg (by omega),if_pos (by omega),if_pos (by omega),rd_Op_nat _ _ hi]
  by_cases e : s = L[i].f0
  ·rw [if_pos e]
   have : ((((countS L s + 1 : Nat) : Int)) == L[i].f1) = false:=beq_eq_false_iff_ne.2 (by rw [← e] at hq; omega)
   rw [this]
  ·rw [if_neg e]
 | d + 1,j,hj => by
  have h40:=h.sums.1
  have hlt : j < L.length:=by omega
  have ih:=DT_l2 hs h x3 hi h1 hsite hnext d (j + 1) (by omega)
  rw [count_take _ _ hlt] at ih
  have hc:=countS_le (L.take j) s
  rw [List.length_take] at hc
  have w:=tw2 (countS (L.take j) s + 1) (by omega)
  refine Ev.step (fun k => ?_) ih
  simp only [w6_DocToggles.l2]
  rw [if_pos (by omega),if_pos (by omega),rd_Op_nat _ _ hlt,wrapS hlt (by omega),w]
  by_cases e : L[j].f0 = s
  ·rw [if_pos e,if_pos e]
  ·rw [if_neg e,if_neg e]
theorem siteT (a b : Nat) (ha : a < 4) (hb : b ≤ 40) : 1 ≤ wrap64 (1 + (Int.tmod (wrap64 ((a : Int) + (b : Int))) 8)) ∧ wrap64 (1 + (Int.tmod (wrap64 ((a : Int) + (b : Int))) 8)) ≤ 8:=by
 have e : wrap64 ((a : Int) + (b : Int)) = ((a + b : Nat) : Int):=by rw [wrap64_small (by omega) (by omega)]; omega
 rw [e,Int.tmod_eq_emod_of_nonneg (by omega)]
 have q : 0 ≤ ((a + b : Nat) : Int) % 8 ∧ ((a + b : Nat) : Int) % 8 < 8:=⟨Int.emod_nonneg _ (by decide),Int.emod_lt_of_pos _ (by decide)⟩
 rw [wrap64_small (by omega) (by omega)]
 omega
theorem DT_l1 (hs : smalls L = true) (h : RowOk L) (a : Nat) (ha : a < 4) (hnext : Ev (fun k => w6_DocToggles.l0 k (wrap64 ((a : Int) + 1)) l0 l1 l2 l3) true) : ∀ d i,i + d = L.length → Ev (fun k => w6_DocToggles.l1 k (a : Int) L (plainR L) (i : Int) l0 l1 l2 l3) true
 | 0,i,hi => by
  refine Ev.step (fun k => ?_) hnext
  simp only [w6_DocToggles.l1]
  rw [if_neg (by omega)]
 | d + 1,i,hi => by
  have h40:=h.sums.1
  have hlt : i < L.length:=by omega
  have ih:=DT_l1 hs h a ha hnext d (i + 1) (by omega)
  have hC:=Count_ev hs h hlt (findOp_at h hlt)
  refine Ev.step (fun k => by simp only [w6_DocToggles.l1]; rw [if_pos (by omega),if_pos (by omega),rd_Op_nat _ _ hlt]) (Ev.bind hC ?_)
  by_cases h1 : L[i].f2 = 1
  ·simp only [if_pos h1,num6_f,Option.bind_some,if_true]
   exact DT_l2 hs h (a : Int) hlt h1 (siteT a i ha (by omega)) ih _ 0 (Nat.zero_add _)
  ·simp only [if_neg h1,num6_f,Option.bind_some]
   refine Ev.congr (fun k => ?_) ih
   rw [if_neg (by decide),wrapS hlt (by omega)]
theorem DT_l0 (hg : GoodAsk l0 l1 l2 l3) : ∀ d i,i + d = l0.length → Ev (fun k => w6_DocToggles.l0 k (i : Int) l0 l1 l2 l3) true
 | 0,i,h => by
  refine Ev.step (f:=fun k => w6_DocToggles.j1 k (i : Int) false l0 l1 l2 l3) (fun k => ?_) (Ev.step (f:=fun _ => some true) (fun k => ?_) (Ev.now _))
  ·simp only [w6_DocToggles.l0]; rw [if_neg (by omega)]
  ·simp only [w6_DocToggles.j1]; rw [if_neg (by decide),rune6_f,wakes6_f]; rfl
 | d + 1,i,h => by
  have ih:=DT_l0 hg d (i + 1) (by omega)
  have hn0:=hg.n0
  have hw : wrap64 ((i : Int) + 1) = ((i + 1 : Nat) : Int):=wrapS (show i < l0.length by omega) (by omega)
  by_cases h4 : (i : Int) < 4
  ·have hm:=rd_LOp_mem l0 i (by omega)
   have hs:=good_smalls (hg.r0 _ hm)
   refine Ev.step (f:=fun k => w6_DocToggles.j1 k (i : Int) true l0 l1 l2 l3) (fun k => ?_) ?_
   ·simp only [w6_DocToggles.l0]; rw [if_pos (by omega),decide_eq_true h4]
   ·generalize hL : rd_LOp l0 (i : Int) = L at hm hs
    cases hmay : mayB L
    ·refine Ev.step (fun k => ?_) ih
     simp only [w6_DocToggles.j1]
     rw [if_pos True.intro,if_pos (by omega),if_pos (by omega),hL,doc_Text_no hs hmay]
     simp only [num6_f,Option.bind_some]
     rw [if_neg (by decide),hw]
    ·have hr:=(mayB_iff _).1 hmay
     have hl1:=DT_l1 (l1:=l1) (l2:=l2) (l3:=l3) hs hr i (by omega) (by rw [hw]; exact ih) _ 0 (Nat.zero_add _)
     refine Ev.step (fun k => ?_) hl1
     simp only [w6_DocToggles.j1]
     rw [if_pos True.intro,if_pos (by omega),if_pos (by omega),hL,doc_Text_ok hs hr]
     simp only [num6_f,Option.bind_some]
     rw [if_pos True.intro]
     rfl
  ·refine Ev.step (f:=fun k => w6_DocToggles.j1 k (i : Int) false l0 l1 l2 l3) (fun k => ?_) (Ev.step (f:=fun _ => some true) (fun k => ?_) (Ev.now _))
   ·simp only [w6_DocToggles.l0]; rw [if_pos (by omega),decide_eq_false h4]
   ·simp only [w6_DocToggles.j1]; rw [if_neg (by decide),rune6_f,wakes6_f]; rfl
end
theorem PureDocToggles (l0 : List (List SOp)) (l1 : List SElem) (l2 : List SOp) (l3 : List Int) (hg : GoodAsk l0 l1 l2 l3) : ∃ k,w6_DocToggles.f k l0 l1 l2 l3 = some true:=by
 obtain ⟨b,hb⟩:=Heavy_some hg
 refine Ev.rounds (Ev.bind (f:=fun k t => if t = true then some true else w6_DocToggles.l0 k 0 l0 l1 l2 l3) hb ?_)
 cases b
 ·exact Ev.congr (fun k => if_neg (by decide)) (DT_l0 hg _ 0 (Nat.zero_add _))
 ·exact Ev.congr (fun k => if_pos rfl) (Ev.now true)
end Go.Proofs.Ytonoaflfobajcaa.L
end
