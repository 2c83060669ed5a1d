/- Part 5 of the proof that for every argument the law EditMany answers true: many edits, one behind the other, by sites in turn, are each a row's next op; the text is as if each had been done to it plainly. -/
import Derived.Test.YtlllghajjamdpaaZEM4
import Derived.ArgAppend
import Derived.Lib.SliceRun
section
namespace Go.Proofs.Ytlllghajjamdpaa.L
open Go.RowKit Go.Proofs.YtlllghajjamdpaaW.PrintWords Go.Proofs.YtlllghajjamdpaaW.PrintLast Go.Proofs.YtlllghajjamdpaaW.PrintMore
set_option linter.unusedVariables false
set_option linter.unusedSimpArgs false
set_option maxHeartbeats 40000000
set_option maxRecDepth 1000000
section
theorem runesOf_nil (s : ByteArray) : (Qaq s).length = 0 ↔ s.toList.isEmpty = true:=by
 have e : s.toList.isEmpty = true ↔ s.size = 0:=by
  rw [ByteArray.toList_eq,<- data_length,List.isEmpty_iff,List.length_eq_zero_iff]
 rw [e]
 unfold Qaq
 constructor
 ·intro h
  cases hs : s.size with
  | zero => rfl
  | succ n => rw [hs] at h; unfold decFrom at h; rw [if_pos (by omega)] at h; simp at h
 ·intro h; rw [h]; rfl
theorem rd_Op_app (l : List SOp) (o : SOp) (i : Nat) (h : i < l.length) : Qar (l ++ [o]) (i : Int) = Qar l (i : Int):=by
 rw [Qax _ _ (by simp; omega),Qax _ _ h,List.getElem_append_left h]
theorem rd_Op_last (l : List SOp) (o : SOp) : Qar (l ++ [o]) (l.length : Int) = o:=by
 rw [Qax _ _ (by simp)]; simp
theorem anyAt_false {p : Nat -> Bool} {n : Nat} : anyAt p n = false ↔ ∀ j,j < n -> p j = false:=by
 unfold anyAt
 rw [List.any_eq_false]
 simp only [List.mem_range'_1]
 constructor
 ·intro h j hj; simpa using h j ⟨Nat.zero_le _,by omega⟩
 ·intro h j hj; simpa using h j (by omega)
def Qbg (l : List SOp) (a : Int) : Nat:=l.countP (fun o => o.f0 == a)
def total (l : List SOp) : Nat:=(l.map Qaj).sum
def wr (l : List SOp) (e : SElem) : Prop:=Qan e = true \/ (0 <= e.f2 /\ ∃ p ∈ l,p.f0 = e.f0 /\ p.f1 = e.f1 /\ e.f2 < (Qaj p : Int))
structure NextOk (l : List SOp) (o : SOp) : Prop where
 len : l.length + 1 <= 40
 ok : opOk o = true
 seq : o.f1 = (Qbg l o.f0 : Int) + 1
 after : wr l o.f3
 gone : ∀ e ∈ o.f5,wr l e
 tog : o.f2 = 2 -> ∃ p ∈ l,p.f2 = 1 /\ p.f0 = o.f6 /\ p.f1 = o.f7
 sum : total l + Qaj o <= 200
inductive RowOk : List SOp -> Prop
 | nil : RowOk []
 | snoc {l : List SOp} {o : SOp} : RowOk l -> NextOk l o -> RowOk (l ++ [o])
theorem countS_app (l : List SOp) (o : SOp) (a : Int) : Qbg (l ++ [o]) a = Qbg l a + if o.f0 = a then 1 else 0:=by
 unfold Qbg
 rw [List.countP_append]
 simp [List.countP_cons]
theorem countS_le (l : List SOp) (a : Int) : Qbg l a <= l.length:=List.countP_le_length
theorem total_app (l : List SOp) (o : SOp) : total (l ++ [o]) = total l + Qaj o:=by simp [total]
theorem RowOk.snoc_inv {l : List SOp} {o : SOp} (h : RowOk (l ++ [o])) : RowOk l /\ NextOk l o:=by
 generalize hx : l ++ [o] = x at h
 cases h with
 | nil => simp at hx
 | snoc h1 h2 =>
  obtain ⟨rfl,e⟩:=List.append_inj' hx rfl
  simp at e; subst e
  exact ⟨h1,h2⟩
theorem RowOk.sums {l : List SOp} (h : RowOk l) : l.length <= 40 /\ total l <= 200:=by
 cases h with
 | nil => simp [total]
 | snoc h1 h2 => exact ⟨by simpa using h2.len,by rw [total_app]; exact h2.sum⟩
theorem RowOk.take {l : List SOp} (h : RowOk l) : ∀ n,RowOk (l.take n):=by
 induction h with
 | nil => intro n; simpa using RowOk.nil
 | snoc h1 h2 ih =>
  rename_i l o
  intro n
  by_cases hn : n <= l.length
  ·rw [List.take_append_of_le_length hn]; exact ih n
  ·rw [List.take_of_length_le (by simp; omega)]; exact .snoc h1 h2
structure StOk (s : CS) (l : List SOp) : Prop where
 sz : ∀ a b z,s.Sz (a,b) = some z ↔ ∃ p ∈ l,p.f2 = 1 /\ p.f0 = a /\ p.f1 = b /\ z = (Qaj p : Int)
 ah : ∀ a,(s.Ah a).getD 0 = (Qbg l a : Int)
 all : s.all = (total l : Int)
theorem opOk_pos {o : SOp} (h : opOk o = true) : 1 <= o.f0 /\ o.f0 <= 8 /\ 1 <= o.f1 /\ o.f1 <= 268435456:=by
 unfold opOk nameOk at h; simp only [Bool.and_eq_true,decide_eq_true_eq] at h; exact ⟨h.1.1.1.1,h.1.1.1.2,h.1.1.2,h.1.2⟩
theorem opOk_kinds {o : SOp} (h : opOk o = true) : (o.f2 = 1 /\ editOk o = true) \/ (o.f2 = 2 /\ Qbj o = true):=by
 unfold opOk at h; simp only [Bool.and_eq_true] at h
 by_cases h1 : o.f2 = 1
 ·rw [if_pos h1] at h; exact .inl ⟨h1,h.2⟩
 ·rw [if_neg h1] at h; simp at h; exact .inr h.2
theorem Qci {o : SOp} (h : opOk o = true) : Qaj o <= 12 /\ (o.f2 = 2 -> Qaj o = 0):=by
 rcases opOk_kinds h with ⟨h1,h2⟩ | ⟨h1,h2⟩
 ·refine ⟨?_,fun h => by omega⟩
  unfold editOk at h2; simp only [Bool.and_eq_true,decide_eq_true_eq] at h2
  exact h2.1.1.1.1.2
 ·unfold Qbj at h2; simp only [Bool.and_eq_true] at h2
  have e : Qaj o = 0:=(runesOf_nil _).2 h2.1.2
  exact ⟨by omega,fun _ => e⟩
theorem elemOk_pos {e : SElem} (h : Qbq e = true) (hb : Qan e = false) : 1 <= e.f0 /\ 1 <= e.f1 /\ 0 <= e.f2 /\ e.f2 < 12:=by
 unfold Qbq nameOk at h; rw [hb] at h; simp only [Bool.false_or,Bool.and_eq_true,decide_eq_true_eq] at h; omega
theorem goneFrom_mem {o : SOp} : ∀ (l : List SElem) (p : Option SElem),Qbb o p l = true -> ∀ e ∈ l,Qan e = false /\ Qbq e = true /\ ownEl o e = false
 | [],_,_,e,he => by cases he
 | x :: r,p,h,e,he => by
  unfold Qbb at h; simp only [Bool.and_eq_true] at h
  rcases List.mem_cons.1 he with rfl | he
  ·exact ⟨by simpa using h.1.1.1.1,h.1.1.1.2,by simpa using h.1.1.2⟩
  ·exact goneFrom_mem r _ h.2 e he
theorem opOk_goneMem {o : SOp} (h : opOk o = true) : ∀ e ∈ o.f5,Qan e = false /\ Qbq e = true /\ ownEl o e = false:=by
 rcases opOk_kinds h with ⟨h1,h2⟩ | ⟨h1,h2⟩
 ·unfold editOk goneOk at h2; simp only [Bool.and_eq_true] at h2
  exact goneFrom_mem _ _ h2.1.1.1.2.1
 ·unfold Qbj at h2; simp only [Bool.and_eq_true] at h2
  rw [List.isEmpty_iff.1 h2.2]; intro e he; cases he
theorem opOk_afterOk {o : SOp} (h : opOk o = true) : Qan o.f3 = true \/ (Qbq o.f3 = true /\ ownEl o o.f3 = false):=by
 rcases opOk_kinds h with ⟨h1,h2⟩ | ⟨h1,h2⟩
 ·unfold editOk at h2; simp only [Bool.and_eq_true] at h2
  exact .inr ⟨h2.1.1.1.1.1.1.1.1.1,by simpa using h2.1.1.1.1.1.1.1.1.2⟩
 ·unfold Qbj at h2; simp only [Bool.and_eq_true] at h2
  exact .inl h2.1.1.2
theorem StOk.wrote_iff {s : CS} {l : List SOp} (hs : StOk s l) (hl : ∀ p ∈ l,opOk p = true) (e : SElem) (he : Qan e = true \/ 0 <= e.f2) : wrote s.Sz e = true ↔ wr l e:=by
 unfold wrote wr
 rw [Bool.or_eq_true]
 refine or_congr Iff.rfl ?_
 rw [decide_eq_true_eq]
 cases hz : s.Sz (e.f0,e.f1) with
 | some z =>
  obtain ⟨p,hp,h2,h0,h1,rfl⟩:=(hs.sz _ _ _).1 hz
  simp only [Option.getD_some]
  constructor
  ·intro h
   refine ⟨?_,p,hp,h0,h1,h⟩
   rcases he with he | he
   ·unfold Qan at he; simp at he
    omega
   ·exact he
  ·rintro ⟨_,q,hq,g0,g1,hlt⟩
   rcases opOk_kinds (hl q hq) with ⟨k1,_⟩ | ⟨k2,_⟩
   ·have hq':=(hs.sz e.f0 e.f1 (Qaj q)).2 ⟨q,hq,k1,g0,g1,rfl⟩
    rw [hz] at hq'; injection hq' with hq'; omega
   ·have:=(Qci (hl q hq)).2 k2; omega
 | none =>
  simp only [Option.getD_none]
  constructor
  ·intro h
   rcases he with he | he
   ·unfold Qan at he; simp at he; omega
   ·omega
  ·rintro ⟨h0,q,hq,g0,g1,hlt⟩
   exfalso
   rcases opOk_kinds (hl q hq) with ⟨k1,_⟩ | ⟨k2,_⟩
   ·have hq':=(hs.sz e.f0 e.f1 (Qaj q)).2 ⟨q,hq,k1,g0,g1,rfl⟩
    rw [hz] at hq'; cases hq'
   ·have:=(Qci (hl q hq)).2 k2; omega
theorem RowOk.oks {l : List SOp} (h : RowOk l) : ∀ p ∈ l,opOk p = true:=by
 induction h with
 | nil => intro p hp; cases hp
 | snoc h1 h2 ih =>
  intro p hp
  rcases List.mem_append.1 hp with hp | hp
  ·exact ih p hp
  ·simp at hp; subst hp; exact h2.ok
theorem mem_seq {l : List SOp} (h : RowOk l) : ∀ p ∈ l,p.f1 <= (Qbg l p.f0 : Int):=by
 induction h with
 | nil => intro p hp; cases hp
 | snoc h1 h2 ih =>
  rename_i l o
  intro p hp
  rw [countS_app]
  rcases List.mem_append.1 hp with hp | hp
  ·have:=ih p hp; split <;> omega
  ·simp at hp; subst hp; have:=h2.seq; simp; omega
theorem NextOk.fresh {l : List SOp} {o : SOp} (h1 : RowOk l) (h2 : NextOk l o) : ∀ p ∈ l,¬ (p.f0 = o.f0 /\ p.f1 = o.f1):=by
 rintro p hp ⟨e0,e1⟩
 have h:=mem_seq h1 p hp
 rw [e0,e1] at h
 have:=h2.seq
 omega
theorem pre_iff {s : CS} {l : List SOp} {o : SOp} (hr : RowOk l) (hs : StOk s l) : preB s o = true ↔ opOk o = true /\ o.f1 = (Qbg l o.f0 : Int) + 1 /\ wr l o.f3 /\ ∀ e ∈ o.f5,wr l e:=by
 unfold preB
 simp only [Bool.and_eq_true,beq_iff_eq,Bool.not_eq_true',hs.ah]
 rw [Qai (by omega) (by have:=countS_le l o.f0; have:=hr.sums.1; omega)]
 constructor
 ·rintro ⟨h1,h2,h3,h4⟩
  refine ⟨h1,h2, ?_, ?_⟩
  ·refine (hs.wrote_iff hr.oks _ ?_).1 h3
   rcases opOk_afterOk h1 with h | ⟨h,_⟩
   ·exact .inl h
   ·cases hb : Qan o.f3
    ·exact .inr (elemOk_pos h hb).2.2.1
    ·exact .inl rfl
  ·intro e he
   obtain ⟨i,hi,rfl⟩:=List.getElem_of_mem he
   have h:=anyAt_false.1 h4 i hi
   rw [Qat _ _ hi] at h
   obtain ⟨g1,g2,g3⟩:=opOk_goneMem h1 _ he
   exact (hs.wrote_iff hr.oks _ (.inr (elemOk_pos g2 g1).2.2.1)).1 (by simpa using h)
 ·rintro ⟨h1,h2,h3,h4⟩
  refine ⟨h1,h2, ?_, ?_⟩
  ·refine (hs.wrote_iff hr.oks _ ?_).2 h3
   rcases h3 with h | h
   ·exact .inl h
   ·exact .inr h.1
  ·refine anyAt_false.2 fun i hi => ?_
   rw [Qat _ _ hi]
   have he:=List.getElem_mem hi
   obtain ⟨g1,g2,g3⟩:=opOk_goneMem h1 _ he
   have:=(hs.wrote_iff hr.oks _ (.inr (elemOk_pos g2 g1).2.2.1)).2 (h4 _ he)
   simpa using this
theorem goes_iff {s : CS} {l : List SOp} {o : SOp} (hr : RowOk l) (hs : StOk s l) (hn : l.length + 1 <= 40) : ((goesB s o).1 = true ↔ NextOk l o) /\ ((goesB s o).1 = true -> StOk (goesB s o).2 (l ++ [o])):=by
 unfold goesB
 by_cases hp : preB s o = true
 ·rw [if_pos hp]
  obtain ⟨h1,h2,h3,h4⟩:=(pre_iff hr hs).1 hp
  have hc:=countS_le l o.f0
  have hsum:=hr.sums
  have hsz:=Qci h1
  have hw : wrap64 ((s.Ah o.f0).getD 0 + 1) = (Qbg l o.f0 : Int) + 1:=by
   rw [hs.ah]; exact Qai (by omega) (by omega)
  have hah : ∀ a,((upd s.Ah o.f0 (wrap64 ((s.Ah o.f0).getD 0 + 1))) a).getD 0 = (Qbg (l ++ [o]) a : Int):=by
   rw [hw]
   intro a
   rw [countS_app]
   by_cases e : a = o.f0
   ·have e2 : o.f0 = a:=e.symm
    unfold upd
    rw [if_pos e,if_pos e2,e2]
    rfl
   ·have e2 : ¬ o.f0 = a:=fun h => e h.symm
    unfold upd
    rw [if_neg e,if_neg e2,hs.ah]
    rfl
  by_cases hk : o.f2 = 2
  ·rw [if_pos hk]
   have hz:=hsz.2 hk
   constructor
   ·simp only [Option.isSome_iff_exists]
    constructor
    ·rintro ⟨z,hz'⟩
     obtain ⟨p,hp,k1,k2,k3,_⟩:=(hs.sz _ _ _).1 hz'
     exact ⟨hn,h1,h2,h3,h4,fun _ => ⟨p,hp,k1,k2,k3⟩,by omega⟩
    ·intro h
     obtain ⟨p,hp,k1,k2,k3⟩:=h.tog hk
     exact ⟨_,(hs.sz _ _ (Qaj p)).2 ⟨p,hp,k1,k2,k3,rfl⟩⟩
   ·intro _
    refine ⟨fun a b z => ?_,hah, ?_⟩
    ·show s.Sz (a,b) = some z ↔ _
     rw [hs.sz]
     constructor
     ·rintro ⟨p,hp,h⟩; exact ⟨p,List.mem_append_left _ hp,h⟩
     ·rintro ⟨p,hp,h⟩
      rcases List.mem_append.1 hp with hp | hp
      ·exact ⟨p,hp,h⟩
      ·simp at hp; subst hp; omega
    ·show s.all = _
     rw [hs.all,total_app,hz]; rfl
  ·rw [if_neg hk]
   have hk1 : o.f2 = 1:=by
    rcases opOk_kinds h1 with ⟨k,_⟩ | ⟨k,_⟩
    ·exact k
    ·exact absurd k hk
   have hall : (noted s o).all = ((total (l ++ [o]) : Nat) : Int):=by
    show wrap64 (s.all + (Qaj o : Int)) = _
    rw [hs.all,total_app,Qai (by omega) (by omega)]; simp
   constructor
   ·simp only [decide_eq_true_eq,hall,total_app]
    constructor
    ·intro h; exact ⟨hn,h1,h2,h3,h4,fun e => absurd e hk,by omega⟩
    ·intro h; have:=h.sum; omega
   ·intro hlt
    have hno : NextOk l o:=⟨hn,h1,h2,h3,h4,fun e => absurd e hk,by simp only [decide_eq_true_eq,hall,total_app] at hlt; omega⟩
    refine ⟨fun a b z => ?_,hah,hall⟩
    show upd s.Sz (o.f0,o.f1) (Qaj o) (a,b) = some z ↔ _
    unfold upd
    by_cases e : (a,b) = (o.f0,o.f1)
    ·rw [if_pos e]
     injection e with e0 e1
     subst e0 e1
     constructor
     ·intro h; injection h with h; exact ⟨o,by simp,hk1,rfl,rfl,h.symm⟩
     ·rintro ⟨p,hp,k1,k2,k3,rfl⟩
      rcases List.mem_append.1 hp with hp | hp
      ·exact absurd ⟨k2,k3⟩ (hno.fresh hr p hp)
      ·simp at hp; subst hp; rfl
    ·rw [if_neg e,hs.sz]
     constructor
     ·rintro ⟨p,hp,h⟩; exact ⟨p,List.mem_append_left _ hp,h⟩
     ·rintro ⟨p,hp,k1,k2,k3,h⟩
      rcases List.mem_append.1 hp with hp | hp
      ·exact ⟨p,hp,k1,k2,k3,h⟩
      ·simp at hp; subst hp; exact absurd (by rw [k2,k3]) e
 ·rw [if_neg hp]
  constructor
  ·constructor
   ·intro h; cases h
   ·intro h; exact absurd ((pre_iff hr hs).2 ⟨h.ok,h.seq,h.after,h.gone⟩) hp
  ·intro h; cases h
theorem st_app (l : List SOp) (o : SOp) : ∀ i,i <= l.length -> st (l ++ [o]) i = st l i
 | 0,_ => rfl
 | i + 1,h => by
  show (goesB (st (l ++ [o]) i) (Qar (l ++ [o]) (i : Int))).2 = (goesB (st l i) (Qar l (i : Int))).2
  rw [st_app l o i (by omega),rd_Op_app l o i (by omega)]
theorem mayB_app (l : List SOp) (o : SOp) (h : l.length + 1 <= 40) : mayB (l ++ [o]) = true ↔ mayB l = true /\ (goesB (st l l.length) o).1 = true:=by
 unfold mayB
 have e : (l ++ [o]).length = l.length + 1:=by simp
 rw [e]
 simp only [Bool.and_eq_true,decide_eq_true_eq,Bool.not_eq_true',anyAt_false]
 constructor
 ·rintro ⟨_,h2⟩
  refine ⟨⟨by omega,fun j hj => ?_⟩, ?_⟩
  ·have:=h2 j (by omega)
   unfold badAt at this ⊢
   rwa [st_app l o j (by omega),rd_Op_app l o j hj] at this
  ·have:=h2 l.length (by omega)
   unfold badAt at this
   rw [st_app l o _ (Nat.le_refl _),rd_Op_last] at this
   simpa using this
 ·rintro ⟨⟨_,h2⟩,h3⟩
  refine ⟨h,fun j hj => ?_⟩
  unfold badAt
  by_cases ej : j = l.length
  ·subst ej
   rw [st_app l o _ (Nat.le_refl _),rd_Op_last,h3]; rfl
  ·have:=h2 j (by omega)
   unfold badAt at this
   rwa [st_app l o j (by omega),rd_Op_app l o j (by omega)]
theorem mayB_rev : ∀ (n : Nat) (l : List SOp),l.length = n -> (mayB l = true ↔ RowOk l) /\ (RowOk l -> StOk (st l l.length) l):=by
 intro n
 induction n with
 | zero =>
  intro l hl
  obtain rfl:=List.length_eq_zero_iff.1 hl
  refine ⟨⟨fun _ => .nil,fun _ => rfl⟩,fun _ => ⟨fun a b z => ?_,fun a => rfl,rfl⟩⟩
  constructor
  ·intro h; cases h
  ·rintro ⟨p,hp,_⟩; cases hp
 | succ n ih =>
  intro l hl
  obtain ⟨l,o,rfl⟩ : ∃ l' o,l = l' ++ [o]:=⟨l.dropLast,l.getLast (by intro e; simp [e] at hl),(List.dropLast_concat_getLast _).symm⟩
  have hl' : l.length = n:=by simpa using hl
  obtain ⟨ih1,ih2⟩:=ih l hl'
  by_cases h40 : l.length + 1 <= 40
  ·constructor
   ·rw [mayB_app l o h40,ih1]
    constructor
    ·rintro ⟨h1,h2⟩; exact .snoc h1 ((goes_iff h1 (ih2 h1) h40).1.1 h2)
    ·intro h
     obtain ⟨h1,h2⟩:=h.snoc_inv
     exact ⟨h1,(goes_iff (o:=o) h1 (ih2 h1) h40).1.2 h2⟩
   ·intro h
    obtain ⟨h1,h2⟩:=h.snoc_inv
    have hg:=goes_iff (o:=o) h1 (ih2 h1) h40
    have e : st (l ++ [o]) (l ++ [o]).length = (goesB (st l l.length) o).2:=by
     rw [List.length_append]
     show (goesB (st (l ++ [o]) l.length) (Qar (l ++ [o]) (l.length : Int))).2 = _
     rw [st_app l o _ (Nat.le_refl _),rd_Op_last]
    rw [e]
    exact hg.2 (hg.1.2 h2)
  ·constructor
   ·constructor
    ·intro h; unfold mayB at h; simp at h; omega
    ·intro h; have:=h.snoc_inv.2.len; omega
   ·intro h; have:=h.snoc_inv.2.len; omega
theorem Qbp (l : List SOp) : mayB l = true ↔ RowOk l:=(mayB_rev _ l rfl).1
end
section
theorem SElem.ext3 {a b : SElem} (h0 : a.f0 = b.f0) (h1 : a.f1 = b.f1) (h2 : a.f2 = b.f2) : a = b:=by cases a; cases b; simp_all
theorem key3_inj {a b : SElem} (h : key3 a = key3 b) : a = b:=by
 unfold key3 at h; injection h with h0 h; injection h with h1 h2; exact SElem.ext3 h0 h1 h2
def Qao (o : SOp) : List SElem:=(List.range (Qaj o)).map fun j : Nat => ⟨o.f0,o.f1,(j : Int)⟩
def insO (x : List SElem) (o : SOp) : List SElem:=if Qan o.f3 then Qao o ++ x else x.flatMap fun e => if key3 e = key3 o.f3 then e :: Qao o else [e]
def ordL (l : List SOp) : List SElem:=l.foldl insO []
theorem ordL_app (l : List SOp) (o : SOp) : ordL (l ++ [o]) = insO (ordL l) o:=by simp [ordL]
inductive WalkL (ch : SElem -> List SElem) : List SElem -> List SElem -> Prop
 | nil : WalkL ch [] []
 | cons {x : SElem} {xs L1 L2 : List SElem} : WalkL ch (ch x) L1 -> WalkL ch xs L2 -> WalkL ch (x :: xs) (x :: (L1 ++ L2))
def chl (l : List SOp) (e : SElem) : List SElem:=belowL l (gU l l.length (key3 e)) e
theorem gU_app (l : List SOp) (o : SOp) : ∀ i,i <= l.length -> gU (l ++ [o]) i = gU l i
 | 0,_ => rfl
 | i + 1,h => by
  unfold gU
  rw [gU_app l o i (by omega),rd_Op_app l o i (by omega)]
theorem gU_snoc (l : List SOp) (o : SOp) (x : K3) : gU (l ++ [o]) (l ++ [o]).length x = if o.f4.toList.isEmpty = false /\ x = key3 o.f3 then (l.length : Int) :: gU l l.length x else gU l l.length x:=by
 rw [show (l ++ [o]).length = l.length + 1 by simp]
 conv => lhs; unfold gU
 rw [gU_app l o _ (Nat.le_refl _),rd_Op_last]
 cases h : o.f4.toList.isEmpty
 ·simp only [Bool.false_eq_true,if_false,true_and]
  unfold updU
  by_cases e : x = key3 o.f3
  ·subst e; simp
  ·simp [e]
 ·simp
theorem gU_range (l : List SOp) : ∀ i x k,k ∈ gU l i x -> 0 <= k /\ k < (i : Int) /\ key3 (Qar l k).f3 = x /\ (Qar l k).f4.toList.isEmpty = false
 | 0,x,k,h => by simp [gU] at h
 | i + 1,x,k,h => by
  unfold gU at h
  cases hz : (Qar l (i : Int)).f4.toList.isEmpty
  ·rw [hz] at h
   simp only [Bool.false_eq_true,if_false] at h
   unfold updU at h
   split at h
   ·rename_i e
    rcases List.mem_cons.1 h with rfl | h
    ·exact ⟨by omega,by omega,e.symm,hz⟩
    ·have:=gU_range l i _ k h; rw [<- e] at this; exact ⟨this.1,by omega,this.2.2⟩
   ·have:=gU_range l i x k h; exact ⟨this.1,by omega,this.2.2⟩
  ·rw [hz] at h
   simp only [if_true] at h
   have:=gU_range l i x k h; exact ⟨this.1,by omega,this.2.2⟩
theorem atE_app (l : List SOp) (o : SOp) (k : Int) (h0 : 0 <= k) (h : k < (l.length : Int)) : atE (l ++ [o]) k = atE l k:=by
 obtain ⟨n,rfl⟩:=Int.eq_ofNat_of_zero_le h0
 unfold atE
 rw [rd_Op_app l o n (by omega)]
theorem Qbi (l : List SOp) (a b : Int) : (∃ i,∃ h : i < l.length,l[i].f0 = a /\ l[i].f1 = b /\ (∀ j (hj : j < i),¬ ((l[j]'(by omega)).f0 = a /\ (l[j]'(by omega)).f1 = b)) /\ Qay l a b = (i : Int)) \/ ((∀ p ∈ l,¬ (p.f0 = a /\ p.f1 = b)) /\ Qay l a b = -1):=by
 unfold Qay
 rcases firstAt_cases (fun i => nameIs a b (Qar l i)) l.length with ⟨i,h1,h2,h3,h4⟩ | ⟨h1,h2⟩
 ·refine .inl ⟨i,h1, ?_⟩
  rw [Qax _ _ h1] at h2
  unfold nameIs at h2; simp at h2
  refine ⟨h2.1,h2.2,fun j hj => ?_,h4⟩
  have:=h3 j hj
  rw [Qax _ _ (by omega)] at this
  unfold nameIs at this; simpa using this
 ·refine .inr ⟨fun p hp => ?_,h2⟩
  obtain ⟨i,hi,rfl⟩:=List.getElem_of_mem hp
  have:=h1 i hi
  rw [Qax _ _ hi] at this
  unfold nameIs at this; simpa using this
theorem findOp_app_other (l : List SOp) (o : SOp) (a b : Int) (h : ¬ (o.f0 = a /\ o.f1 = b)) : Qay (l ++ [o]) a b = Qay l a b:=by
 rcases Qbi l a b with ⟨i,hi,h0,h1,hb,e⟩ | ⟨hn,e⟩
 ·rw [e]
  rcases Qbi (l ++ [o]) a b with ⟨j,hj,g0,g1,gb,e'⟩ | ⟨hn',_⟩
  ·rw [e']
   rcases Nat.lt_trichotomy i j with hlt | rfl | hlt
   ·exact absurd ⟨by rw [List.getElem_append_left hi]; exact h0,by rw [List.getElem_append_left hi]; exact h1⟩ (gb i hlt)
   ·rfl
   ·exfalso
    rw [List.getElem_append_left (by omega)] at g0 g1
    exact hb j hlt ⟨g0,g1⟩
  ·exact absurd ⟨h0,h1⟩ (hn' _ (List.mem_append_left _ (List.getElem_mem hi)))
 ·rw [e]
  rcases Qbi (l ++ [o]) a b with ⟨j,hj,g0,g1,gb,e'⟩ | ⟨hn',e'⟩
  ·exfalso
   have hm:=List.getElem_mem hj
   rcases List.mem_append.1 hm with hm | hm
   ·exact hn _ hm ⟨g0,g1⟩
   ·simp only [List.mem_singleton] at hm; rw [hm] at g0 g1; exact h ⟨g0,g1⟩
  ·exact e'
theorem findOp_fresh (l : List SOp) (o : SOp) (h : ∀ p ∈ l,¬ (p.f0 = o.f0 /\ p.f1 = o.f1)) : Qay (l ++ [o]) o.f0 o.f1 = (l.length : Int):=by
 rcases Qbi (l ++ [o]) o.f0 o.f1 with ⟨j,hj,g0,g1,gb,e'⟩ | ⟨hn',e'⟩
 ·rw [e']
  by_cases ej : j < l.length
  ·exfalso
   rw [List.getElem_append_left ej] at g0 g1
   exact h _ (List.getElem_mem ej) ⟨g0,g1⟩
  ·simp at hj; omega
 ·exact absurd ⟨rfl,rfl⟩ (hn' o (by simp))
theorem nextL_app (l : List SOp) (o : SOp) (e : SElem) (h : ¬ (o.f0 = e.f0 /\ o.f1 = e.f1)) : nextL (l ++ [o]) e = nextL l e:=by
 unfold nextL
 rw [findOp_app_other l o _ _ h]
 rcases Qbi l e.f0 e.f1 with ⟨i,hi,_,_,_,e'⟩ | ⟨_,e'⟩
 ·rw [e',rd_Op_app l o i hi]
 ·rw [e']; simp
theorem chl_mem {l : List SOp} {e x : SElem} (h : x ∈ chl l e) : ∃ p ∈ l,p.f0 = x.f0 /\ p.f1 = x.f1:=by
 unfold chl belowL at h
 rcases List.mem_append.1 h with h | h
 ·obtain ⟨k,hk,rfl⟩:=List.mem_map.1 h
  obtain ⟨h0,h1,_⟩:=gU_range l _ _ _ hk
  obtain ⟨n,rfl⟩:=Int.eq_ofNat_of_zero_le h0
  unfold atE
  rw [Qax _ _ (by omega)]
  exact ⟨l[n],List.getElem_mem _,rfl,rfl⟩
 ·unfold nextL at h
  split at h
  ·rename_i hc
   simp only [List.mem_singleton] at h
   subst h
   rcases Qbi l e.f0 e.f1 with ⟨i,hi,_,_,_,e'⟩ | ⟨_,e'⟩
   ·rw [e',Qax _ _ hi]; exact ⟨l[i],List.getElem_mem _,rfl,rfl⟩
   ·omega
  ·simp at h
def old (o : SOp) (e : SElem) : Prop:=¬ (o.f0 = e.f0 /\ o.f1 = e.f1)
theorem chl_old {l : List SOp} {o : SOp} (hf : ∀ p ∈ l,¬ (p.f0 = o.f0 /\ p.f1 = o.f1)) {e x : SElem} (h : x ∈ chl l e) : old o x:=by
 obtain ⟨p,hp,h0,h1⟩:=chl_mem h
 rintro ⟨e0,e1⟩
 exact hf p hp ⟨by omega,by omega⟩
def headE (o : SOp) (e : SElem) : List SElem:=if o.f4.toList.isEmpty = false /\ key3 e = key3 o.f3 then [⟨o.f0,o.f1,0⟩] else []
theorem chl_app (l : List SOp) (o : SOp) (e : SElem) (h : old o e) : chl (l ++ [o]) e = headE o e ++ chl l e:=by
 unfold chl belowL
 rw [gU_snoc,nextL_app l o e h]
 have hm : ∀ x : K3,(gU l l.length x).map (atE (l ++ [o])) = (gU l l.length x).map (atE l):=fun x =>
  List.map_congr_left fun k hk => atE_app l o k (gU_range l _ _ _ hk).1 (gU_range l _ _ _ hk).2.1
 have hl : atE (l ++ [o]) (l.length : Int) = ⟨o.f0,o.f1,0⟩:=by unfold atE; rw [rd_Op_last]
 unfold headE
 split
 ·rw [List.map_cons,hm,hl]; rfl
 ·rw [hm]; rfl
theorem size_pos {o : SOp} (h : o.f4.toList.isEmpty = false) : 0 < Qaj o:=by
 rcases Nat.eq_zero_or_pos (Qaj o) with e | e
 ·have:=(runesOf_nil _).1 e; rw [h] at this; cases this
 ·exact e
theorem chl_own {l : List SOp} {o : SOp} (hr : RowOk l) (hn : NextOk l o) (j : Nat) (hj : j < 12) : chl (l ++ [o]) ⟨o.f0,o.f1,(j : Int)⟩ = if j + 1 < Qaj o then [⟨o.f0,o.f1,((j + 1 : Nat) : Int)⟩] else []:=by
 have hf:=hn.fresh hr
 have hpos:=opOk_pos hn.ok
 have hU : gU (l ++ [o]) (l ++ [o]).length (key3 ⟨o.f0,o.f1,(j : Int)⟩) = []:=by
  rw [List.eq_nil_iff_forall_not_mem]
  intro k hk
  obtain ⟨h0,h1,h2,h3⟩:=gU_range _ _ _ _ hk
  obtain ⟨n,rfl⟩:=Int.eq_ofNat_of_zero_le h0
  have hk:=key3_inj h2
  have hwr : ∀ i (hi : i < (l ++ [o]).length),wr l ((l ++ [o])[i]).f3:=by
   clear hk h2 h3
   intro i hi
   by_cases e : i < l.length
   ·rw [List.getElem_append_left e]
    have key : ∀ l : List SOp,RowOk l -> ∀ p ∈ l,wr l p.f3:=by
     intro l hr
     induction hr with
     | nil => intro p hp; cases hp
     | snoc h1 h2 ih =>
      intro p hp
      have up : ∀ (l : List SOp) (o : SOp) (e : SElem),wr l e -> wr (l ++ [o]) e:=fun l o e h => h.imp id fun ⟨h,p,hp,hh⟩ => ⟨h,p,List.mem_append_left _ hp,hh⟩
      rcases List.mem_append.1 hp with hp | hp
      ·exact up _ _ _ (ih p hp)
      ·simp at hp; subst hp; exact up _ _ _ h2.after
    exact key l hr _ (List.getElem_mem e)
   ·obtain rfl : i = l.length:=by simp at hi; omega
    simp; exact hn.after
  have:=hwr n (by omega)
  rw [<- Qax,hk] at this
  rcases this with h | ⟨_,p,hp,e0,e1,_⟩
  ·unfold Qan at h; simp at h; omega
  ·exact hf p hp ⟨e0,e1⟩
 unfold chl belowL
 rw [hU]
 unfold nextL
 simp only [List.map_nil,List.nil_append]
 rw [findOp_fresh l o hf,rd_Op_last,Qai (by omega) (by omega)]
 by_cases h : j + 1 < Qaj o
 ·rw [if_pos h,if_pos ⟨by omega,by omega⟩]; rfl
 ·rw [if_neg h,if_neg (by omega)]
theorem walk_chain {l : List SOp} {o : SOp} (hr : RowOk l) (hn : NextOk l o) : ∀ d j,j + d = Qaj o -> WalkL (chl (l ++ [o])) (if j < Qaj o then [⟨o.f0,o.f1,(j : Int)⟩] else []) ((List.range' j d).map fun j : Nat => (⟨o.f0,o.f1,(j : Int)⟩ : SElem))
 | 0,j,h => by rw [if_neg (by omega)]; exact .nil
 | d + 1,j,h => by
  rw [if_pos (by omega),List.range'_succ,List.map_cons]
  have h12:=(Qci hn.ok).1
  have:=walk_chain hr hn d (j + 1) (by omega)
  rw [<- chl_own hr hn j (by omega)] at this
  have:=WalkL.cons this (.nil (ch:=chl (l ++ [o])))
  rwa [List.append_nil] at this
theorem walk_append {ch : SElem -> List SElem} {xs ys L M : List SElem} (h : WalkL ch xs L) (h2 : WalkL ch ys M) : WalkL ch (xs ++ ys) (L ++ M):=by
 induction h with
 | nil => exact h2
 | cons h1 h3 ih1 ih3 =>
  rw [List.cons_append,List.cons_append,List.append_assoc]
  exact .cons h1 ih3
theorem walk_head {l : List SOp} {o : SOp} (hr : RowOk l) (hn : NextOk l o) (e : SElem) : WalkL (chl (l ++ [o])) (headE o e) (if key3 e = key3 o.f3 then Qao o else []):=by
 have h:=walk_chain hr hn (Qaj o) 0 (by omega)
 rw [<- List.range_eq_range'] at h
 unfold headE
 by_cases he : key3 e = key3 o.f3
 ·simp only [he,and_true,if_true]
  cases hz : o.f4.toList.isEmpty
  ·rw [if_pos (size_pos hz)] at h; exact h
  ·have e0 : Qaj o = 0:=(runesOf_nil _).2 hz
   unfold Qao; rw [e0]; simpa using WalkL.nil
 ·simp only [he,and_false,if_false]; exact .nil
def ins1 (o : SOp) (x : List SElem) : List SElem:=x.flatMap fun e => if key3 e = key3 o.f3 then e :: Qao o else [e]
theorem walk_more {l : List SOp} {o : SOp} (hr : RowOk l) (hn : NextOk l o) {xs L : List SElem} (h : WalkL (chl l) xs L) (ho : ∀ x ∈ xs,old o x) : WalkL (chl (l ++ [o])) xs (ins1 o L):=by
 have hf:=hn.fresh hr
 induction h with
 | nil => exact .nil
 | cons h1 h2 ih1 ih2 =>
  rename_i x xs L1 L2
  have g1:=ih1 (fun y hy => chl_old hf hy)
  have g2:=ih2 (fun y hy => ho y (List.mem_cons_of_mem _ hy))
  have hx:=ho x List.mem_cons_self
  have hh:=walk_append (walk_head hr hn x) g1
  rw [<- chl_app l o x hx] at hh
  have:=WalkL.cons hh g2
  unfold ins1 at this ⊢
  rw [List.flatMap_cons,List.flatMap_append]
  split
  ·rename_i e; rw [if_pos e] at this; simpa using this
  ·rename_i e; rw [if_neg e] at this; simpa using this
def bgE : SElem:=⟨0,0,0⟩
theorem isBegin_iff (e : SElem) : Qan e = true ↔ e = bgE:=by
 unfold Qan bgE
 constructor
 ·intro h; simp at h; exact SElem.ext3 h.1 h.2.1 h.2.2
 ·rintro rfl; rfl
theorem Qbx {l : List SOp} (h : RowOk l) : ∀ e,e ∈ ordL l ↔ ∃ p ∈ l,p.f0 = e.f0 /\ p.f1 = e.f1 /\ 0 <= e.f2 /\ e.f2 < (Qaj p : Int):=by
 induction h with
 | nil => intro e; simp [ordL]
 | snoc h1 h2 ih =>
  rename_i l o
  intro e
  have hch : ∀ e,e ∈ Qao o ↔ o.f0 = e.f0 /\ o.f1 = e.f1 /\ 0 <= e.f2 /\ e.f2 < (Qaj o : Int):=by
   intro e
   unfold Qao
   rw [List.mem_map]
   constructor
   ·rintro ⟨j,hj,rfl⟩; rw [List.mem_range] at hj; exact ⟨rfl,rfl,by simp only; omega,by simp only; omega⟩
   ·rintro ⟨a,b,c,d⟩
    exact ⟨e.f2.toNat,List.mem_range.2 (by omega),SElem.ext3 a b (by simp only; omega)⟩
  have goal : e ∈ insO (ordL l) o ↔ e ∈ ordL l \/ e ∈ Qao o:=by
   unfold insO
   split
   ·rw [List.mem_append]; exact or_comm
   ·rename_i hb
    rw [List.mem_flatMap]
    constructor
    ·rintro ⟨x,hx,he⟩
     split at he
     ·rcases List.mem_cons.1 he with rfl | he
      ·exact .inl hx
      ·exact .inr he
     ·simp at he; subst he; exact .inl hx
    ·rintro (he | he)
     ·exact ⟨e,he,by split <;> simp⟩
     ·rcases h2.after with h | ⟨h0,p,hp,k0,k1,k2⟩
      ·exact absurd h hb
      ·exact ⟨o.f3,(ih o.f3).2 ⟨p,hp,k0,k1,h0,k2⟩,by rw [if_pos rfl]; exact List.mem_cons_of_mem _ he⟩
  rw [ordL_app,goal,ih,hch]
  constructor
  ·rintro (⟨p,hp,h⟩ | h)
   ·exact ⟨p,List.mem_append_left _ hp,h⟩
   ·exact ⟨o,by simp,h⟩
  ·rintro ⟨p,hp,h⟩
   rcases List.mem_append.1 hp with hp | hp
   ·exact .inl ⟨p,hp,h⟩
   ·simp at hp; subst hp; exact .inr h
theorem ordL_pos {l : List SOp} (h : RowOk l) {e : SElem} (he : e ∈ ordL l) : 1 <= e.f0 /\ 1 <= e.f1 /\ 0 <= e.f2:=by
 obtain ⟨p,hp,h0,h1,h2,_⟩:=(Qbx h e).1 he
 have:=opOk_pos (h.oks p hp)
 omega
theorem ins1_begin {l : List SOp} (h : RowOk l) {o : SOp} (hb : o.f3 = bgE) : ins1 o (ordL l) = ordL l:=by
 have : ∀ x : List SElem,(∀ e ∈ x,e ∈ ordL l) -> ins1 o x = x:=by
  intro x
  induction x with
  | nil => intro _; rfl
  | cons e x ih =>
   intro hx
   unfold ins1 at ih ⊢
   rw [List.flatMap_cons,ih (fun y hy => hx y (List.mem_cons_of_mem _ hy)),if_neg]
   ·rfl
   ·intro e'
    have h1:=ordL_pos h (hx e List.mem_cons_self)
    rw [key3_inj e',hb] at h1
    simp [bgE] at h1
 exact this _ fun _ h => h
theorem ordL_walk {l : List SOp} (h : RowOk l) : WalkL (chl l) (chl l bgE) (ordL l):=by
 induction h with
 | nil =>
  have : chl [] bgE = []:=by
   unfold chl belowL nextL Qay; simp [gU,Qav]
  rw [this]; exact .nil
 | snoc h1 h2 ih =>
  rename_i l o
  have hf:=h2.fresh h1
  have hpos:=opOk_pos h2.ok
  have hob : old o bgE:=by unfold old bgE; simp only; omega
  have g:=walk_append (walk_head h1 h2 bgE) (walk_more h1 h2 ih (fun y hy => chl_old hf hy))
  rw [<- chl_app l o bgE hob] at g
  rw [ordL_app]
  unfold insO
  by_cases hb : Qan o.f3 = true
  ·have hb':=(isBegin_iff _).1 hb
   rw [if_pos hb]
   rw [if_pos (by rw [hb']),ins1_begin h1 hb'] at g
   exact g
  ·rw [if_neg hb]
   rw [if_neg (fun e => hb ((isBegin_iff _).2 (key3_inj e).symm))] at g
   exact g
theorem Qbt (o : SOp) : (Qao o).length = Qaj o:=by simp [Qao]
theorem chain_nodup (o : SOp) : (Qao o).Nodup:=by
 unfold Qao List.Nodup
 rw [List.pairwise_map]
 refine List.Pairwise.imp ?_ List.nodup_range
 intro a b h e
 injection e with _ _ e
 omega
theorem chain_name {o : SOp} {e : SElem} (h : e ∈ Qao o) : o.f0 = e.f0 /\ o.f1 = e.f1:=by
 unfold Qao at h
 obtain ⟨j,_,rfl⟩:=List.mem_map.1 h
 exact ⟨rfl,rfl⟩
theorem insO_form {l : List SOp} {o : SOp} (h : RowOk l) (h2 : NextOk l o) (hnd : (ordL l).Nodup) :
  (Qan o.f3 = true /\ ordL (l ++ [o]) = Qao o ++ ordL l) \/ (Qan o.f3 = false /\ ∃ A B,ordL l = A ++ o.f3 :: B /\ o.f3 ∉ A /\ o.f3 ∉ B /\ ordL (l ++ [o]) = A ++ o.f3 :: (Qao o ++ B)):=by
 rw [ordL_app]
 unfold insO
 cases hb : Qan o.f3
 ·refine .inr ⟨rfl, ?_⟩
  have hm : o.f3 ∈ ordL l:=by
   rcases h2.after with h' | ⟨h0,p,hp,k0,k1,k2⟩
   ·rw [hb] at h'; cases h'
   ·exact (Qbx h _).2 ⟨p,hp,k0,k1,h0,k2⟩
  obtain ⟨A,B,e⟩:=List.append_of_mem hm
  rw [e] at hnd
  have hA : o.f3 ∉ A:=by
   intro hA
   exact (List.nodup_append.1 hnd).2.2 _ hA _ List.mem_cons_self rfl
  have hB : o.f3 ∉ B:=(List.nodup_cons.1 (List.nodup_append.1 hnd).2.1).1
  refine ⟨A,B,e,hA,hB, ?_⟩
  have stay : ∀ x : List SElem,o.f3 ∉ x -> (x.flatMap fun e => if key3 e = key3 o.f3 then e :: Qao o else [e]) = x:=by
   intro x
   induction x with
   | nil => intro _; rfl
   | cons y x ih =>
    intro hx
    rw [List.mem_cons,not_or] at hx
    rw [List.flatMap_cons,ih hx.2,if_neg (fun e => hx.1 (key3_inj e).symm)]
    rfl
  rw [e]
  simp only [Bool.false_eq_true,if_false]
  rw [List.flatMap_append,List.flatMap_cons,stay A hA,stay B hB,if_pos rfl]
  simp
 ·exact .inl ⟨rfl,by simp⟩
theorem Qbw {l : List SOp} (h : RowOk l) : (ordL l).Nodup /\ (ordL l).length = total l:=by
 induction h with
 | nil => exact ⟨List.nodup_nil,rfl⟩
 | snoc h1 h2 ih =>
  rename_i l o
  have hf:=h2.fresh h1
  have hno : ∀ e ∈ ordL l,e ∉ Qao o:=by
   intro e he hc
   obtain ⟨p,hp,e0,e1,_⟩:=(Qbx h1 e).1 he
   obtain ⟨g0,g1⟩:=chain_name hc
   exact hf p hp ⟨by omega,by omega⟩
  rw [total_app]
  rcases insO_form h1 h2 ih.1 with ⟨_,e⟩ | ⟨_,A,B,e1,hA,hB,e⟩
  ·rw [e]
   refine ⟨List.nodup_append.2 ⟨chain_nodup o,ih.1, ?_⟩,by rw [List.length_append,Qbt,ih.2]; omega⟩
   rintro a ha b hb rfl
   exact hno a hb ha
  ·rw [e]
   have hnd:=ih.1
   rw [e1] at hnd
   have hl:=ih.2
   rw [e1] at hl
   have ha:=List.nodup_append.1 hnd
   have hb:=List.nodup_cons.1 ha.2.1
   constructor
   ·refine List.nodup_append.2 ⟨ha.1,List.nodup_cons.2 ⟨?_,List.nodup_append.2 ⟨chain_nodup o,hb.2, ?_⟩⟩, ?_⟩
    ·intro hm
     rcases List.mem_append.1 hm with hm | hm
     ·exact hno o.f3 (by rw [e1]; simp) hm
     ·exact hb.1 hm
    ·rintro a ha b hb rfl
     exact hno a (by rw [e1]; simp [hb]) ha
    ·rintro a haA b hb' rfl
     rcases List.mem_cons.1 hb' with rfl | hb'
     ·exact hA haA
     ·rcases List.mem_append.1 hb' with hc | hB'
      ·exact hno a (by rw [e1]; simp [haA]) hc
      ·exact ha.2.2 a haA a (List.mem_cons_of_mem _ hB') rfl
   ·simp only [List.length_append,List.length_cons,Qbt] at hl ⊢
    omega
def clr (U : K3 -> List Int) (L : List SElem) : K3 -> List Int:=fun y => if y ∈ L.map key3 then [] else U y
theorem clr_nil (U : K3 -> List Int) : clr U [] = U:=by funext y; simp [clr]
theorem clr_clr (U : K3 -> List Int) (L M : List SElem) : clr (clr U L) M = clr U (L ++ M):=by
 funext y
 unfold clr
 rw [List.map_append]
 by_cases h : y ∈ M.map key3
 ·rw [if_pos h,if_pos (List.mem_append_right _ h)]
 ·rw [if_neg h]
  by_cases h2 : y ∈ L.map key3
  ·rw [if_pos h2,if_pos (List.mem_append_left _ h2)]
  ·rw [if_neg h2,if_neg (by rw [List.mem_append]; exact fun h' => h'.elim h2 h)]
theorem clr_one (U : K3 -> List Int) (e : SElem) : updU U (key3 e) [] = clr U [e]:=by
 funext y; simp [clr,updU]
theorem clr_out {U : K3 -> List Int} {L : List SElem} {e : SElem} (h : e ∉ L) : clr U L (key3 e) = U (key3 e):=by
 unfold clr
 rw [if_neg]
 intro hm
 obtain ⟨x,hx,he⟩:=List.mem_map.1 hm
 exact h (key3_inj he ▸ hx)
theorem walkF_of (l : List SOp) {xs L : List SElem} (h : WalkL (chl l) xs L) : ∀ (k : Nat) (U : K3 -> List Int) (all : List SElem),L.length <= k -> L.Nodup -> (∀ e ∈ L,U (key3 e) = gU l l.length (key3 e)) -> all.length + L.length <= 900000 -> xs.foldlM (stepF l k) (U,all) = some (clr U L,all ++ L):=by
 induction h with
 | nil => intro k U all _ _ _ _; simp [clr_nil]
 | cons h1 h2 ih1 ih2 =>
  rename_i x xs L1 L2
  intro k U all hk hnd hU hlen
  have hnx:=List.nodup_cons.1 hnd
  have hna:=List.nodup_append.1 hnx.2
  simp only [List.length_cons,List.length_append] at hk hlen
  obtain ⟨k',rfl⟩ : ∃ k',k = k' + 1:=⟨k - 1,by omega⟩
  rw [List.foldlM_cons]
  have hx : x ∉ L1 /\ x ∉ L2:=by
   have:=hnx.1; rw [List.mem_append,not_or] at this; exact this
  have s1 : stepF l (k' + 1) (U,all) x = some (clr U (x :: L1),all ++ (x :: L1)):=by
   unfold stepF
   simp only
   rw [if_pos (by omega),walkF_succ,hU x List.mem_cons_self,clr_one]
   have:=ih1 k' (clr U [x]) (all ++ [x]) (by omega) hna.1 (fun e he => by
    rw [clr_out (by rw [List.mem_singleton]; rintro rfl; exact hx.1 he)]
    exact hU e (List.mem_cons_of_mem _ (List.mem_append_left _ he))) (by simp; omega)
   unfold chl at this
   rw [this,clr_clr]
   simp
  rw [s1]
  simp only [Option.bind_eq_bind,Option.bind_some]
  have:=ih2 (k' + 1) (clr U (x :: L1)) (all ++ (x :: L1)) (by omega) hna.2.1 (fun e he => by
    rw [clr_out]
    ·exact hU e (List.mem_cons_of_mem _ (List.mem_append_right _ he))
    ·intro hm
     rcases List.mem_cons.1 hm with rfl | hm
     ·exact hx.2 he
     ·exact hna.2.2 e hm e he rfl) (by simp; omega)
  rw [this,clr_clr]
  simp
theorem smalls_ok {l : List SOp} (hs : smalls l = true) (h : RowOk l) : okRow l = true:=by
 unfold okRow
 simp only [Bool.and_eq_true,decide_eq_true_eq,List.all_eq_true]
 exact ⟨⟨hs,h.sums.1⟩,h.oks⟩
theorem tree_All_f {l : List SOp} (hs : smalls l = true) (h : RowOk l) : tree_All.f l = some (ordL l):=by
 unfold tree_All.f
 rw [if_pos (smalls_ok hs h)]
 have hnd:=Qbw h
 have hsum:=h.sums
 have hw:=ordL_walk h
 show (walkF l (999 + 1) (gU l l.length) [] bgE).map (·.2) = _
 rw [walkF_succ,clr_one]
 have:=walkF_of l hw 999 (clr (gU l l.length) [bgE]) [] (by omega) hnd.1 (fun e he => by
  rw [clr_out]
  rw [List.mem_singleton]; rintro rfl
  have:=ordL_pos h he; simp [bgE] at this) (by simp; omega)
 unfold chl at this
 rw [this]
 simp
end
section
theorem isPrefix_next {l : List SOp} (h : RowOk l) (n : Nat) (hn : n < l.length) : NextOk (l.take n) l[n] /\ RowOk (l.take n):=by
 have h1:=h.take (n + 1)
 rw [List.take_succ_eq_append_getElem hn] at h1
 exact ⟨h1.snoc_inv.2,h1.snoc_inv.1⟩
theorem chain_at {o : SOp} (k : Nat) (h : k < Qaj o) : (Qao o)[k]? = some ⟨o.f0,o.f1,(k : Int)⟩:=by
 unfold Qao; simp [h]
end
section
structure GoesR (l : List SOp) (o : SOp) : Prop where
 ok : opOk o = true
 seq : o.f1 = (Qbg l o.f0 : Int) + 1
 after : wr l o.f3
 gone : ∀ e ∈ o.f5,wr l e
 tog : o.f2 = 2 -> ∃ p ∈ l,p.f2 = 1 /\ p.f0 = o.f6 /\ p.f1 = o.f7
theorem findOp_mem {l : List SOp} (h : RowOk l) {p : SOp} (hp : p ∈ l) : ∃ i,∃ hi : i < l.length,Qay l p.f0 p.f1 = (i : Int) /\ l[i] = p:=by
 rcases Qbi l p.f0 p.f1 with ⟨i,hi,h0,h1,_,e⟩ | ⟨hn,_⟩
 ·refine ⟨i,hi,e, ?_⟩
  obtain ⟨j,hj,rfl⟩:=List.getElem_of_mem hp
  have uniq : ∀ a b (ha : a < l.length) (hb : b < l.length),a < b -> ¬ (l[a].f0 = l[b].f0 /\ l[a].f1 = l[b].f1):=by
   intro a b ha hb hab
   obtain ⟨g,g'⟩:=isPrefix_next h b hb
   have:=g.fresh g' l[a] (List.mem_take_iff_getElem.2 ⟨a,by omega,rfl⟩)
   exact this
  rcases Nat.lt_trichotomy i j with hlt | rfl | hlt
  ·exact absurd ⟨h0,h1⟩ (uniq i j hi hj hlt)
  ·rfl
  ·exact absurd ⟨h0.symm,h1.symm⟩ (uniq j i hj hi hlt)
 ·exact absurd ⟨rfl,rfl⟩ (hn p hp)
end
section
def cstep (l : List SOp) (n : List Int) (o : SOp) : List Int :=
 if o.f2 = 2 then (if o.f8 = n.getD (Qay l o.f6 o.f7).toNat 0 then n.set (Qay l o.f6 o.f7).toNat (n.getD (Qay l o.f6 o.f7).toNat 0 + 1) else n) else n
def countsL (l : List SOp) : List Int:=l.foldl (cstep l) (List.replicate l.length 0)
def cntStep (s q : Int) (n : Int) (o : SOp) : Int:=if o.f2 = 2 /\ o.f6 = s /\ o.f7 = q /\ o.f8 = n then n + 1 else n
def cntR (l : List SOp) (s q : Int) : Int:=l.foldl (cntStep s q) 0
theorem cstep_length (l : List SOp) (n : List Int) (o : SOp) : (cstep l n o).length = n.length:=by
 unfold cstep; split
 ·split <;> simp
 ·rfl
theorem counts_length (l : List SOp) : (countsL l).length = l.length:=by
 have : ∀ (ms : List SOp) (n : List Int),(ms.foldl (cstep l) n).length = n.length:=by
  intro ms
  induction ms with
  | nil => intro n; rfl
  | cons o ms ih => intro n; rw [List.foldl_cons,ih,cstep_length]
 unfold countsL; rw [this]; simp
theorem name_inj {l : List SOp} (h : RowOk l) {i j : Nat} (hi : i < l.length) (hj : j < l.length) (h0 : l[i].f0 = l[j].f0) (h1 : l[i].f1 = l[j].f1) : i = j:=by
 obtain ⟨a,ha,e1,_⟩:=findOp_mem h (List.getElem_mem hi)
 obtain ⟨b,hb,e2,_⟩:=findOp_mem h (List.getElem_mem hj)
 have uniq : ∀ a b (ha : a < l.length) (hb : b < l.length),a < b -> ¬ (l[a].f0 = l[b].f0 /\ l[a].f1 = l[b].f1):=by
  intro a b ha hb hab
  obtain ⟨g,g'⟩:=isPrefix_next h b hb
  exact g.fresh g' l[a] (List.mem_take_iff_getElem.2 ⟨a,by omega,rfl⟩)
 rcases Nat.lt_trichotomy i j with hlt | rfl | hlt
 ·exact absurd ⟨h0,h1⟩ (uniq i j hi hj hlt)
 ·rfl
 ·exact absurd ⟨h0.symm,h1.symm⟩ (uniq j i hj hi hlt)
theorem findOp_at {l : List SOp} (h : RowOk l) {i : Nat} (hi : i < l.length) : Qay l l[i].f0 l[i].f1 = (i : Int):=by
 obtain ⟨a,ha,e1,e2⟩:=findOp_mem h (List.getElem_mem hi)
 rw [e1]
 have:=name_inj h ha hi (by rw [e2]) (by rw [e2])
 omega
theorem tog_found {l : List SOp} (h : RowOk l) {o : SOp} (ho : o ∈ l) (h2 : o.f2 = 2) : ∃ i,∃ hi : i < l.length,l[i].f2 = 1 /\ l[i].f0 = o.f6 /\ l[i].f1 = o.f7 /\ Qay l o.f6 o.f7 = (i : Int):=by
 obtain ⟨j,hj,rfl⟩:=List.getElem_of_mem ho
 obtain ⟨a,_⟩:=isPrefix_next h j hj
 obtain ⟨p,hp,k1,k2,k3⟩:=a.tog h2
 obtain ⟨i,hi,rfl⟩:=List.getElem_of_mem (List.mem_of_mem_take hp)
 refine ⟨i,hi,k1,k2,k3, ?_⟩
 rw [<- k2,<- k3,findOp_at h hi]
theorem counts_at {l : List SOp} (h : RowOk l) {i : Nat} (hi : i < l.length) : (countsL l).getD i 0 = cntR l l[i].f0 l[i].f1:=by
 have key : ∀ (ms : List SOp) (n : List Int),(∀ o ∈ ms,o ∈ l) -> n.length = l.length -> (ms.foldl (cstep l) n).getD i 0 = ms.foldl (cntStep l[i].f0 l[i].f1) (n.getD i 0):=by
  intro ms
  induction ms with
  | nil => intro n _ _; rfl
  | cons o ms ih =>
   intro n hm hn
   rw [List.foldl_cons,List.foldl_cons,ih _ (fun x hx => hm x (List.mem_cons_of_mem _ hx)) (by rw [cstep_length]; exact hn)]
   congr 1
   unfold cstep cntStep
   by_cases h2 : o.f2 = 2
   ·obtain ⟨j,hj,_,k2,k3,e⟩:=tog_found h (hm o List.mem_cons_self) h2
    rw [if_pos h2,e,Int.toNat_natCast]
    by_cases hij : j = i
    ·subst hij
     by_cases h8 : o.f8 = n.getD j 0
     ·rw [if_pos h8,if_pos ⟨h2,k2.symm,k3.symm,h8⟩]
      simp [List.getD_eq_getElem?_getD,List.getElem?_set,hn,hi]
     ·rw [if_neg h8,if_neg (fun hh => h8 hh.2.2.2)]
    ·have hne : ¬ (o.f2 = 2 /\ o.f6 = l[i].f0 /\ o.f7 = l[i].f1 /\ o.f8 = n.getD i 0):=fun hh => hij (name_inj h hj hi (by rw [k2,hh.2.1]) (by rw [k3,hh.2.2.1]))
     rw [if_neg hne]
     split
     ·simp [List.getD_eq_getElem?_getD,List.getElem?_set,hij]
     ·rfl
   ·rw [if_neg h2,if_neg (fun hh => h2 hh.1)]
 unfold countsL cntR
 rw [key l _ (fun _ h => h) (by simp)]
 congr 1
 simp [List.getD_eq_getElem?_getD,hi]
def workE (l : List SOp) (o : SOp) : Bool:=o.f2 == 1 && cntR l o.f0 o.f1 % 2 == 0
def goneE (l : List SOp) (e : SElem) : Bool:=l.any fun o => workE l o && decide (e ∈ o.f5)
def thereE (l : List SOp) (e : SElem) : Bool:=l.any fun o => workE l o && decide (e ∈ Qao o)
def Qak (l : List SOp) : List SElem:=(ordL l).filter fun e => !(goneE l e || !thereE l e)
theorem mem_chain (o : SOp) (e : SElem) : e ∈ Qao o ↔ o.f0 = e.f0 /\ o.f1 = e.f1 /\ 0 <= e.f2 /\ e.f2 < (Qaj o : Int):=by
 unfold Qao
 rw [List.mem_map]
 constructor
 ·rintro ⟨j,hj,rfl⟩; rw [List.mem_range] at hj; exact ⟨rfl,rfl,by simp only; omega,by simp only; omega⟩
 ·rintro ⟨a,b,c,d⟩
  exact ⟨e.f2.toNat,List.mem_range.2 (by omega),SElem.ext3 a b (by simp only; omega)⟩
theorem seen_nodup {l : List SOp} (h : RowOk l) : (Qak l).Nodup:=(Qbw h).1.filter _
theorem seen_mem {l : List SOp} {e : SElem} : e ∈ Qak l ↔ e ∈ ordL l /\ goneE l e = false /\ thereE l e = true:=by
 unfold Qak
 rw [List.mem_filter]
 cases goneE l e <;> cases thereE l e <;> simp
end
section
structure GoodAsk (l0 : List (List SOp)) (l1 : List SElem) (l2 : List SOp) (l3 : List Int) : Prop where
 n0 : l0.length <= 140737488351232
 r0 : ∀ x ∈ l0,x.length <= 140737488351232 /\ ∀ o ∈ x,o.f4.size <= 140737488351232 /\ o.f5.length <= 140737488351232
 n1 : l1.length <= 140737488351232
 n2 : l2.length <= 140737488351232
 r2 : ∀ o ∈ l2,o.f4.size <= 140737488351232 /\ o.f5.length <= 140737488351232
 n3 : l3.length <= 140737488351232
theorem wrapS {i n : Nat} (h : i < n) (hn : n <= 4611686018427387904) : wrap64 ((i : Int) + 1) = ((i + 1 : Nat) : Int):=by
 rw [Qai (by omega) (by omega)]; omega
theorem good_smalls {l : List SOp} (h : l.length <= 140737488351232 /\ ∀ o ∈ l,o.f4.size <= 140737488351232 /\ o.f5.length <= 140737488351232) : smalls l = true:=by
 unfold smalls SmB
 simp only [Bool.and_eq_true,decide_eq_true_eq,List.all_eq_true]
 exact ⟨by omega,fun o ho => by have:=h.2 o ho; omega⟩
theorem tree_May_f {l : List SOp} (h : smalls l = true) : tree_May.f l = some (mayB l):=by unfold tree_May.f; rw [if_pos h]
end
section
theorem bytes1 {n B : Nat} (hB : 1 <= B) (h : n * B <= reachBytes) : n <= 140737488351232:=Nat.le_trans (Nat.le_mul_of_pos_right n hB) h
theorem GoodOp.le {o : SOp} (h : GoodOp o) : o.f4.size <= 140737488351232 /\ o.f5.length <= 140737488351232:=⟨h.1,bytes1 (of_decide_eq_true (by kernel_rfl)) h.2⟩
theorem GoodAsk.of {l0 : List (List SOp)} {l1 : List SElem} {l2 : List SOp} {l3 : List Int}
  (h0 : l0.length * Try.prog.bytesOf 24 <= reachBytes /\ ∀ x ∈ l0,x.length * Try.prog.bytesOf 32 <= reachBytes /\ ∀ o ∈ x,GoodOp o)
  (h1 : l1.length * Try.prog.bytesOf 30 <= reachBytes /\ ∀ x ∈ l1,(Lit.int .i64 x.f0).wf = true /\ (Lit.int .i64 x.f1).wf = true /\ (Lit.int .i64 x.f2).wf = true)
  (h2 : l2.length * Try.prog.bytesOf 32 <= reachBytes /\ ∀ x ∈ l2,GoodOp x) (h3 : l3.length * Try.prog.bytesOf 3 <= reachBytes /\ ∀ x ∈ l3,(Lit.int .i64 x).wf = true) : GoodAsk l0 l1 l2 l3 :=
 ⟨bytes1 (of_decide_eq_true (by kernel_rfl)) h0.1,fun x hx => ⟨bytes1 (of_decide_eq_true (by kernel_rfl)) (h0.2 x hx).1,fun o ho => ((h0.2 x hx).2 o ho).le⟩,bytes1 (of_decide_eq_true (by kernel_rfl)) h1.1,bytes1 (of_decide_eq_true (by kernel_rfl)) h2.1,fun o ho => (h2.2 o ho).le,bytes1 (of_decide_eq_true (by kernel_rfl)) h3.1⟩
theorem agg_of_cells {v : Value} {a b : Value} {l : List Value} (h : v.cells.toList = a :: b :: l) : v = .agg (a :: b :: l).toArray:=by
 cases v <;> simp [Value.cells] at h
 rw [<- h]
theorem opens_Ask (H : Type) : ∀ (enc : TypeId × Value -> H) (W : World) (base : Nat) (sp : Nat -> Bool) (held : Bool) (fuel : Nat) (cs : List Value) (x : DataW H × List MemPlace),DataW.trod enc Try.prog W base sp held fuel 27 cs = some x -> lightW Try.prog 27 x.1 ->
  ∃ A0 c0 l0 A1 c1 l1 A2 c2 l2 A3 c3 l3,cs = [.slice A0 l0.length c0, .slice A1 l1.length c1, .slice A2 l2.length c2, .slice A3 l3.length c3] /\ Kd.C (Kd.slice 32 kOp) W A0 l0.length l0 /\ l0.length <= c0 /\ Kd.C Qaw W A1 l1.length l1 /\ l1.length <= c1 /\ Kd.C kOp W A2 l2.length l2 /\ l2.length <= c2 /\ Kd.C (Kd.int .i64) W A3 l3.length l3 /\ l3.length <= c3 /\ GoodAsk l0 l1 l2 l3:=by
 intro enc W base sp held fuel cs x h hl
 have hS:=Qcc.struct (H:=H) Try.underlying27 (by kernel_rfl)
  (Qcb.cons (opens_LOps H) (by kernel_rfl) rfl rfl (Qcb.cons (opens_Elems H) (by kernel_rfl) rfl rfl (Qcb.cons (opens_Ops H) (by kernel_rfl) rfl rfl (Qcb.last (opens_Ints H) (by kernel_rfl) rfl rfl))))
 obtain ⟨⟨l0,l1,l2,l3⟩,hp,hg⟩:=hS enc W base sp held fuel cs x h hl
 obtain ⟨_,_,rfl,⟨A0,c0,rfl,h0,g0⟩,⟨_,_,rfl,⟨A1,c1,rfl,h1,g1⟩,⟨_,_,rfl,⟨A2,c2,rfl,h2,g2⟩,⟨A3,c3,rfl,h3,g3⟩⟩⟩⟩:=hp
 exact ⟨A0,c0,l0,A1,c1,l1,A2,c2,l2,A3,c3,l3,rfl,g0,h0,g1,h1,g2,h2,g3,h3,GoodAsk.of hg.1 hg.2.1 hg.2.2.1 hg.2.2.2⟩
end
section
def t_tree_With.T1 : Bool × List (List Nat × List Nat):=(true,[([],[]),([0],[0]),([],[]),([2],[2]),([1,3,1],[1,3]),([4,4,0,1,2,3,4],[4])])
def t_tree_With.B1 : List Nat:=[0,1,0,4,15,31]
theorem t_tree_With.tab1 : rtab .any (opsOf Try.f35 1) = t_tree_With.T1:=by kernel_rfl
theorem t_tree_With.bits1 : Qau t_tree_With.T1.2 t_tree_With.B1 = true:=by kernel_rfl
end
section
theorem reads_flat {α : Type} (d : Kd α) {w : World} {ad : Addr} {n : Nat} {ps : List α} (h : d.C w (some ad) n ps) (h0 : 0 < n) : ∃ cs,Reps (d.K w) d.sz ps cs /\ ∀ i u,cs[i]? = some u -> w.cell? (ad.add i) = some u:=by
 obtain ⟨hn,hm,hc⟩:=h
 obtain ⟨ad',e,hc⟩:=hc h0
 injection e with e
 subst e
 have key : ∀ k,k <= ps.length -> ∃ cs,Reps (d.K w) d.sz (ps.take k) cs /\ ∀ i u,cs[i]? = some u -> w.cell? (ad.add i) = some u:=by
  intro k
  induction k with
  | zero => intro _; exact ⟨[],by rw [List.take_zero]; exact Reps.none _ _,by simp⟩
  | succ k ih =>
   intro hk
   obtain ⟨cs,hR,hcs⟩:=ih (by omega)
   obtain ⟨c,hs,hK,hcell⟩:=hc k _ (List.getElem?_eq_getElem (by omega))
   refine ⟨cs ++ c,by rw [List.take_succ_eq_append_getElem (by omega)]; exact Reps.snoc hR hK hs,fun i u hu => ?_⟩
   have hl : cs.length = k * d.sz:=by have:=hR.1; rw [List.length_take] at this; rw [this]; congr 1; omega
   rcases Nat.lt_or_ge i cs.length with hi | hi
   ·rw [List.getElem?_append_left hi] at hu; exact hcs i u hu
   ·rw [List.getElem?_append_right hi] at hu
    have:=hcell (i - cs.length) u hu
    rwa [<- hl,Nat.add_sub_cancel' hi] at this
 have:=key ps.length (Nat.le_refl _)
 rwa [List.take_length] at this
theorem C_append_full {α : Type} (d : Kd α) {P : Program} (w : World) (t ty e : TypeId) (i : TypeInfo) (z : Value) (bytes : Nat) (ht : P.underlying t = some (.slice e)) (hi : P.info? e = some i) (hz : i.zero = some z) (hsize : i.size = d.sz) (hby : i.bytes = bytes) (hzs : z.cells.size = d.sz) (hsz : 0 < d.sz)
  (A : Option Addr) (xs : List α) (h : d.C w A xs.length xs) (hA : A = none -> xs.length = 0) (a : Addr) (p : α) (news : List Value) (hK : d.K w p news) (hnews : ∀ j u,news[j]? = some u -> w.cell? (a.add j) = some u)
  (hbytes : (xs.length + 1) * bytes <= 140737488355328) (hlen : xs.length + 1 <= maxLen) :
  ∃ A' c' w',(Builtin.append_ #[t,t] ty #[.slice A xs.length xs.length, .slice (some a) 1 1]).run P w = .ok (.slice A' (xs.length + 1) c') w' /\ xs.length + 1 <= c' /\ d.C w' A' (xs.length + 1) (xs ++ [p]) /\ Below w.heap.size w w':=by
 have hn:=d.K_len hK
 have hl1 : news.length = 1 * d.sz:=by omega
 have fin : ∀ (olds : List Value) (v' : Value) (w' : World),Reps (d.K w) d.sz xs olds -> w'.ownsRow w.heap.size e d.sz v' (xs.length + 1) (olds ++ news) -> w.grownBy w' none -> ∃ A' c',v' = .slice A' (xs.length + 1) c' /\ xs.length + 1 <= c' /\ d.C w' A' (xs.length + 1) (xs ++ [p]) /\ Below w.heap.size w w':=by
  intro olds v' w' hR ho hg
  have hb : Below w.heap.size w w':=pw_below_grown (Below.refl _ _) none (Nat.le_refl _) hg (fun k hk => by cases hk)
  obtain ⟨A',c',e',hr⟩:=own_reads_row ho ((hR.snoc hK hn).imp_ (fun _ _ hk => d.K_below hb hk)) (by simp)
  refine ⟨A',c',e', ?_,hr,hb⟩
  rcases ho.2 with ⟨_,h0⟩ | ⟨g,cap,cur,e2,_,_,hcap,_⟩
  ·omega
  ·rw [e'] at e2; injection e2 with _ _ e3; omega
 cases A with
 | none =>
  have h0:=hA rfl
  have hx : xs = []:=List.eq_nil_of_length_eq_zero h0
  subst hx
  obtain ⟨v',w',hrun,r1,r2,_⟩:=run_append_own (P:=P) w w.heap.size t ty e i z d.sz bytes ht hi hz hsize hby hzs hsz (.slice none 0 0) 0 [] (World.ownsRow_nil w _ e d.sz) a 1 1 news hl1 hnews (d.K_one hK) (by simpa using hlen) (by simpa using hbytes) (Nat.le_refl _)
  obtain ⟨A',c',rfl,k1,k2,k3⟩:=fin [] v' w' (Reps.none _ _) (by simpa using r1) r2
  exact ⟨A',c',w',hrun,k1,k2,k3⟩
 | some b =>
  rcases Nat.eq_zero_or_pos xs.length with h0 | h0
  ·have hx : xs = []:=List.eq_nil_of_length_eq_zero h0
   subst hx
   obtain ⟨v',w',hrun,r1,r2⟩:=run_append_arg_grows (P:=P) w t ty e i z d.sz bytes ht hi hz hsize hby hzs hsz b 0 0 [] (by simp) (by simp) a 1 1 news hl1 hnews (by omega) (by simpa using hlen) (by simpa using hbytes)
   obtain ⟨A',c',rfl,k1,k2,k3⟩:=fin [] v' w' (Reps.none _ _) (by simpa using r1) r2
   exact ⟨A',c',w',hrun,k1,k2,k3⟩
  ·obtain ⟨olds,hR,ho⟩:=reads_flat d h h0
   obtain ⟨v',w',hrun,r1,r2⟩:=run_append_arg_grows (P:=P) w t ty e i z d.sz bytes ht hi hz hsize hby hzs hsz b xs.length xs.length olds hR.1 ho a 1 1 news hl1 hnews (by omega) hlen hbytes
   obtain ⟨A',c',rfl,k1,k2,k3⟩:=fin olds v' w' hR r1 r2
   exact ⟨A',c',w',hrun,k1,k2,k3⟩
theorem exec_append {P : Program} {a : Act} {oi : Oper} {w w' : World} {s x : Operand} {t : TypeId} {u sv xv : Value} (hop : oi.op = Op.call { callee:=Callee.builtin Builtin.append,args:=#[s,x],argTypes:=#[t,t] }) (hs : a.eval s = sv) (hx : a.eval x = xv)
  (hrun : (Builtin.append_ #[t,t] oi.type #[sv,xv]).run P w = .ok u w') : (execOp a.eval oi).run P w = .ok (.value u) w':=by
 simp [execOp,hop,resolve,invoke,builtin,hs,hx,hrun]
theorem none_empty {A0 : Option Addr} {l0 : List SOp} {w : World} (hr0 : Kd.C kOp w A0 l0.length l0) (hA : A0 = none) : l0.length = 0:=by
 subst hA
 rcases Nat.eq_zero_or_pos l0.length with h | h
 ·exact h
 ·obtain ⟨ad,_,_,e,_⟩:=at_Op hr0 0 (Int.le_refl _) (by omega)
  cases e
theorem Clip_calls (A0 : Option Addr) (c0 : Nat) (l0 : List (SOp)) (w : World) (hr0 : Kd.C kOp w A0 l0.length l0) (hc0 : l0.length <= c0) (hl : l0.length <= 1000000) :
  Calls Try.prog 61 #[.slice A0 l0.length c0] w fun e w' => e = .returned (.slice A0 l0.length l0.length) /\ w' = w:=by
 have hu:=Try.underlying24
 cases A0 with
 | none =>
  have h0:=none_empty hr0 rfl
  rw [h0] at hc0 ⊢
  have hcz : (0 : Int) <= (c0 : Int):=by omega
  go_enter Try.func61,Try.ntmps61
  go_wp2
  go_ret
  exact ⟨rfl,rfl⟩
 | some a =>
  have hcz : (l0.length : Int) <= (c0 : Int):=by omega
  have hcz2 : (0 : Int) <= (l0.length : Int):=by omega
  clear hr0
  generalize l0.length = n at hc0 hl hcz hcz2 ⊢
  go_enter Try.func61,Try.ntmps61
  go_wp2
  go_ret
  exact ⟨rfl,rfl⟩
theorem infoOp : (Try.prog.info? 32).map (fun i => (i.zero,i.size,i.bytes)) = some (some (.agg #[(.int .i64 0),(.int .i64 0),(.int .i64 0),(.int .i64 0),(.int .i64 0),(.int .i64 0),(.string ⟨#[]⟩),(.slice none 0 0),(.int .i64 0),(.int .i64 0),(.int .i64 0)]),11,112):=by kernel_rfl
abbrev opCells (o : SOp) (A7 : Option Addr) (c7 : Nat) : List Value:=[.int .i64 o.f0, .int .i64 o.f1, .int .i64 o.f2, .int .i64 o.f3.f0, .int .i64 o.f3.f1, .int .i64 o.f3.f2, .string o.f4, .slice A7 o.f5.length c7, .int .i64 o.f6, .int .i64 o.f7, .int .i64 o.f8]
abbrev S11 (W : World) (g : Nat) (o : SOp) (A7 : Option Addr) (c7 : Nat) : Prop:=W.cell? ⟨g,0,none⟩ = some (.int .i64 o.f0) /\ W.cell? ⟨g,1,none⟩ = some (.int .i64 o.f1) /\ W.cell? ⟨g,2,none⟩ = some (.int .i64 o.f2) /\ W.cell? ⟨g,3,none⟩ = some (.int .i64 o.f3.f0) /\ W.cell? ⟨g,4,none⟩ = some (.int .i64 o.f3.f1) /\ W.cell? ⟨g,5,none⟩ = some (.int .i64 o.f3.f2) /\ W.cell? ⟨g,6,none⟩ = some (.string o.f4) /\ W.cell? ⟨g,7,none⟩ = some (.slice A7 o.f5.length c7) /\ W.cell? ⟨g,8,none⟩ = some (.int .i64 o.f6) /\ W.cell? ⟨g,9,none⟩ = some (.int .i64 o.f7) /\ W.cell? ⟨g,10,none⟩ = some (.int .i64 o.f8)
theorem S11.below {W W' : World} {g : Nat} {o : SOp} {A7 : Option Addr} {c7 : Nat} (h : S11 W g o A7 c7) (hb : Below W.heap.size W W') : S11 W' g o A7 c7:=by
 obtain ⟨h0,h1,h2,h3,h4,h5,h6,h7,h8,h9,h10⟩:=h
 exact ⟨Qaa hb h0,Qaa hb h1,Qaa hb h2,Qaa hb h3,Qaa hb h4,Qaa hb h5,Qaa hb h6,Qaa hb h7,Qaa hb h8,Qaa hb h9,Qaa hb h10⟩
theorem S11.boxed (w : World) (o : SOp) (A7 : Option Addr) (c7 : Nat) (t : TypeId) : S11 (w.alloc (.cells (opCells o A7 c7).toArray t)) w.heap.size o A7 c7:=by
 refine ⟨?_, ?_, ?_, ?_, ?_, ?_, ?_, ?_, ?_, ?_, ?_⟩ <;> simp
theorem exK {P : Program} {ops : Array Oper} {Q : Exit -> Act -> World -> Prop} {S : World -> Prop} {F : Act -> World -> Prop} {K : Act -> World -> Prop} {oi : Oper} {a : Act} {w : World} {N : Option Tmp} (hK : Shut (∀ a' w',S w' -> (S w' -> F a' w') -> K a' w')) (u : Value) (w' : World) (hw : Region.wanted oi (yielded ops a.tmps) = true:=by rfl) (hN : oi.dst = N:=by rfl)
  (hrun : (execOp a.eval oi).run P w = .ok (.value u) w') (hS : S w') (h : S w' -> F (a.put N u) w') : if Region.wanted oi (yielded ops a.tmps) = true then Oper.wp P oi a w K Q else K (a.put N undef) w:=by
 rw [if_pos hw]
 unfold Oper.wp
 rw [hrun,Oper.upon_value,hN]
 exact hK.out _ w' hS h
theorem with_app {A0 : Option Addr} {l0 : List SOp} {o : SOp} {A7 : Option Addr} {c7 : Nat} {w w1 : World} (hb1 : Below w.heap.size w w1) (hl : l0.length <= 1000000) (hr0 : Kd.C kOp w A0 l0.length l0) (hr7 : Kd.C Qaw w A7 o.f5.length o.f5) (hc7 : o.f5.length <= c7) :
  ∃ A' c' w',(Builtin.append_ #[24,24] 24 #[.slice A0 l0.length l0.length, .slice (some ⟨w1.heap.size,0,none⟩) 1 1]).run Try.prog (w1.alloc (.cells (opCells o A7 c7).toArray 32)) = .ok (.slice A' (l0.length + 1) c') w' /\ l0.length + 1 <= c' /\ Kd.C kOp w' A' (l0.length + 1) (l0 ++ [o]) /\ Below w.heap.size w w':=by
 obtain ⟨i,hi,hiv⟩:=Option.map_eq_some_iff.1 infoOp
 simp only [Prod.mk.injEq] at hiv
 have hb2 : Below w.heap.size w (w1.alloc (.cells (opCells o A7 c7).toArray 32)):=Qad hb1 _
 obtain ⟨A',c',w',hrun,k1,k2,k3⟩:=C_append_full kOp (P:=Try.prog) (w1.alloc (.cells (opCells o A7 c7).toArray 32)) 24 24 32 i _ 112 Try.underlying24 hi hiv.1 hiv.2.1 hiv.2.2 rfl (by decide)
  A0 l0 (Kd.C_below hr0 hb2) (fun hA => none_empty hr0 hA) ⟨w1.heap.size,0,none⟩ o (opCells o A7 c7) (kOp_mk _ o hc7 (Kd.C_below hr7 hb2)) (fun j u hu => by
   have:=top_cell w1 (opCells o A7 c7).toArray 32 w1.heap.size j rfl
   have ea : (⟨w1.heap.size,0,none⟩ : Addr).add j = ⟨w1.heap.size,j,none⟩:=by rw [Addr.add_lit,Nat.zero_add]
   rw [ea,this]; simpa using hu) (by omega) (by unfold maxLen; omega)
 exact ⟨A',c',w',hrun,k1,k2,Qal hb2 k3⟩
theorem tree_With.calls (A0 : Option Addr) (c0 : Nat) (l0 : List SOp) (o : SOp) (A7 : Option Addr) (c7 : Nat) (w : World) (hr0 : Kd.C kOp w A0 l0.length l0) (hc0 : l0.length <= c0) (hr7 : Kd.C Qaw w A7 o.f5.length o.f5) (hc7 : o.f5.length <= c7) (hl : l0.length <= 1000000) :
  Calls Try.prog 35 #[.slice A0 l0.length c0, .agg (opCells o A7 c7).toArray] w fun e w' => ∃ A c,e = .returned (.slice A (l0.length + 1) c) /\ l0.length + 1 <= c /\ Kd.C kOp w' A (l0.length + 1) (l0 ++ [o]) /\ Below w.heap.size w w':=by
 have HCL:=Zz.k (fun W (hb : Below w.heap.size w W) => Clip_calls A0 c0 l0 W (Kd.C_below hr0 hb) hc0 hl)
 have HAL:=Zz.k (Qad (Below.refl w.heap.size w) (.cells (opCells o A7 c7).toArray 32))
 have hbx:=S11.boxed w o A7 c7 32
 obtain ⟨b0,b1,b2,b3,b4,b5,b6,b7,b8,b9,b10⟩:=hbx
 have HB:=Zz.k (S11.boxed w o A7 c7 32)
 have HR0:=Zz.k hr0
 have HR7:=Zz.k hr7
 have HL:=Zz.k hl
 clear hr0 hr7 hl
 go_enter Try.func35,Try.ntmps35
 go_wp2_with fail
 refine stL (S:=fun w' => S11 w' w.heap.size o A7 c7) [4] 6 t_tree_With.bits1 t_tree_With.tab1 (hS:=⟨b0,b1,b2,b3,b4,b5,b6,b7,b8,b9,b10⟩) (h:=fun hS HT HW => ?_)
 refine pu HT 0 5 1 (h := ?_)
 refine tk HT HW hS 2 7 5 (h := ?_)
 have HB1:=Zz.k (Qae HAL.out)
 clear b0 b1 b2 b3 b4 b5 b6 b7 b8 b9 b10
 generalize (w.alloc (.cells (opCells o A7 c7).toArray 32)).drew = w1 at HB1 hS ⊢
 have HS2:=Zz.k (S11.below hS (Qad (Below.refl _ w1) (.cells (opCells o A7 c7).toArray 32)))
 refine two_ (i:=1) (j:=3) (Ni:=some 6) (Nj:=some 8) (bA 6 7) (bA 6 13) rfl rfl rfl rfl (two_of HT.out (by kernel_rfl)) (by decide) (by decide) (fun K hK => ?_) (fun K hK => ?_)
 ·refine gS Try.func61 #[.slice A0 l0.length c0] (h := ?_)
  refine (HCL.out _ HB1.out).mono ?_
  rintro e w3 ⟨rfl,rfl⟩
  refine ⟨_,rfl, ?_⟩
  refine hK.out _ _ hS (fun hS => ?_)
  clear hK
  refine nm (h := ?_)
  refine exS HT 3 (some 8) 15 (.slice (some ⟨w3.heap.size,0,none⟩) 1 1) (w3.alloc (.cells (opCells o A7 c7).toArray 32)) (hrun := ?_) (hS:=HS2.out) (h:=fun hS' => ?_)
  ·clear HT HW hS
   go_simp
  refine nm (h := ?_)
  obtain ⟨A',c',w',hrun,hk⟩:=with_app HB1.out HL.out HR0.out HR7.out hc7
  have HK:=Zz.k hk
  clear hk hS hS'
  refine exL HT 4 (some 9) 31 (.slice A' (l0.length + 1) c') w' (hrun:=exec_append rfl rfl rfl hrun) (h := ?_)
  refine nm (h := ?_)
  refine pu HT 5 4 63 (h := ?_)
  refine dn HT (h := ?_)
  clear HT HW hrun
  go_wp2
  go_ret
  exact ⟨A',c',rfl,HK.out.1,HK.out.2.1,HK.out.2.2⟩
 ·refine exK hK (.slice (some ⟨w1.heap.size,0,none⟩) 1 1) (w1.alloc (.cells (opCells o A7 c7).toArray 32)) (hrun := ?_) (hS:=HS2.out) (h:=fun hS' => ?_)
  ·clear HT HW hS hK
   go_simp
  clear hK
  refine nm (h := ?_)
  refine ca HT 1 (some 6) 15 #[.slice A0 l0.length c0] Try.func61 (h:=fun K hK => ?_)
  refine (HCL.out _ (Qad HB1.out _)).mono ?_
  rintro e w3 ⟨rfl,rfl⟩
  refine ⟨_,rfl, ?_⟩
  refine hK.out _ _ HS2.out (fun hS => ?_)
  clear hK
  refine nm (h := ?_)
  obtain ⟨A',c',w',hrun,hk⟩:=with_app HB1.out HL.out HR0.out HR7.out hc7
  have HK:=Zz.k hk
  clear hk hS hS'
  refine exL HT 4 (some 9) 31 (.slice A' (l0.length + 1) c') w' (hrun:=exec_append rfl rfl rfl hrun) (h := ?_)
  refine nm (h := ?_)
  refine pu HT 5 4 63 (h := ?_)
  refine dn HT (h := ?_)
  clear HT HW hrun
  go_wp2
  go_ret
  exact ⟨A',c',rfl,HK.out.1,HK.out.2.1,HK.out.2.2⟩
end
section
theorem with_len (l : List SOp) (o : SOp) : (l ++ [o]).length = l.length + 1:=by simp
theorem May_of {A : Option Addr} {c : Nat} {l : List SOp} {o : SOp} {W : World} (hC : Kd.C kOp W A (l.length + 1) (l ++ [o])) (hc : l.length + 1 <= c) (hs : smalls (l ++ [o]) = true) (b : Bool) (hb : mayB (l ++ [o]) = b) :
  Calls Try.prog 9 #[.slice A (l.length + 1) c] W fun e w' => e = .returned (.bool b) /\ Below W.heap.size W w':=by
 have:=tree_May.calls A c (l ++ [o]) b W (by rw [with_len]; exact hC) (by rw [with_len]; exact hc) (by rw [tree_May_f hs,hb])
 rw [with_len] at this
 exact this
theorem full_calls (A0 : Option Addr) (c0 : Nat) (l0 : List SOp) (a0 a1 a2 a3 a4 a5 : Int) (a6 : ByteArray) (l7 : List SElem) (a8 a9 a10 : Int) (A7 : Option Addr) (c7 : Nat) (b : Bool) (w : World) (hr0 : Kd.C kOp w A0 l0.length l0) (hc0 : l0.length <= c0) (hr7 : Kd.C Qaw w A7 l7.length l7) (hc7 : l7.length <= c7) (hl : l0.length <= 1000000) (hsm : smalls (l0 ++ [⟨a0,a1,a2,⟨a3,a4,a5⟩,a6,l7,a8,a9,a10⟩]) = true) (hm : mayB (l0 ++ [⟨a0,a1,a2,⟨a3,a4,a5⟩,a6,l7,a8,a9,a10⟩]) = b) :
  Calls Try.prog 18 #[.slice A0 l0.length c0, .agg #[.int .i64 a0, .int .i64 a1, .int .i64 a2, .int .i64 a3, .int .i64 a4, .int .i64 a5, .string a6, .slice A7 l7.length c7, .int .i64 a8, .int .i64 a9, .int .i64 a10]] w fun e w' =>
   (if b = true then e = .returned (.tuple #[.agg #[.int .i64 a0, .int .i64 a1, .int .i64 a2, .int .i64 a3, .int .i64 a4, .int .i64 a5, .string a6, .slice A7 l7.length c7, .int .i64 a8, .int .i64 a9, .int .i64 a10], .int .i64 0]) else e = .returned (.tuple #[.agg #[.int .i64 0, .int .i64 0, .int .i64 0, .int .i64 0, .int .i64 0, .int .i64 0, .string (⟨#[]⟩ : ByteArray), .slice none 0 0, .int .i64 0, .int .i64 0, .int .i64 0], .int .i64 6])) /\ Below w.heap.size w w':=by
 have hu32:=Try.underlying32
 have HR0:=Zz.k hr0
 have HR7:=Zz.k hr7
 have HC0:=Zz.k hc0
 have HC7:=Zz.k hc7
 have HL:=Zz.k hl
 have HSM:=Zz.k hsm
 have HB:=Zz.k (Below.refl w.heap.size w)
 clear hr0 hr7 hc0 hc7 hl hsm
 have HM:=Zz.k hm
 clear hm
 cases b
 case' false =>
  simp only [Bool.false_eq_true,if_false]
 case' true =>
  simp only [if_true]
 all_goals
  go_enter Try.func18,Try.ntmps18
  go_wp2_with (first | ((with_reducible refine Qaf (N:=3) rfl ?_); refine bx 3 #[.int .i64 a0, .int .i64 a1, .int .i64 a2, .int .i64 a3, .int .i64 a4, .int .i64 a5, .string a6, .slice A7 l7.length c7, .int .i64 a8, .int .i64 a9, .int .i64 a10] 32 (h := ?_); intro gb1 hg w7 hbox hb; have BK1:=Zz.k (hbox); replace HB:=bs HB hb; clear hb hbox hg) | ((with_reducible refine Qaf (N:=4) rfl ?_); refine bx 4 #[.int .i64 0, .int .i64 0, .int .i64 0, .int .i64 0, .int .i64 0, .int .i64 0, .string (⟨#[]⟩ : ByteArray), .slice none 0 0, .int .i64 0, .int .i64 0, .int .i64 0] 32 (h := ?_); intro gb2 hg w8 hbox hb; have BK2:=Zz.k (hbox); have GE2:=Zz.k ((by rw [hg]; exact (Qap (bw HB)) : w.heap.size <= gb2)); have NB1:=bn BK1 hg; have NB2:=bm BK1 hg; replace BK1:=bl BK1 hb; replace HB:=bs HB hb; clear hb hbox hg; have hnb9:=NB1.out; have hnc9:=NB2.out; obtain ⟨_,_,_,_,_,_,_,_,_,_,_,_,_,_,_,_,_,_,_,_,_,_⟩:=kc11 BK1) | ((with_reducible refine Qac (f:=35) rfl ?_); refine gl (some 8) Try.func35 #[.slice A0 l0.length c0, .agg #[.int .i64 a0, .int .i64 a1, .int .i64 a2, .int .i64 a3, .int .i64 a4, .int .i64 a5, .string a6, .slice A7 l7.length c7, .int .i64 a8, .int .i64 a9, .int .i64 a10]] (h := ?_); (refine (tree_With.calls A0 c0 l0 ⟨a0,a1,a2,⟨a3,a4,a5⟩,a6,l7,a8,a9,a10⟩ A7 c7 _ (Kd.C_below HR0.out HB.out) HC0.out (Kd.C_below HR7.out HB.out) HC7.out HL.out).mono ?_); rintro e w11 ⟨A2,c2,rfl,hc2,hC2,hb⟩; refine ⟨_,rfl, ?_⟩; have HC2:=Zz.k (And.intro hc2 hC2); replace BK1:=bl BK1 hb; replace BK2:=bl BK2 hb; replace HB:=bs HB hb; clear hb hc2 hC2) | ((with_reducible refine Qac (f:=9) rfl ?_); refine gl (some 9) Try.func9 #[.slice A2 (l0.length + 1) c2] (h := ?_); (refine (May_of HC2.out.2 HC2.out.1 HSM.out _ HM.out).mono ?_); rintro e w13 ⟨rfl,hb⟩; refine ⟨_,rfl, ?_⟩; replace BK1:=bl BK1 hb; replace BK2:=bl BK2 hb; replace HB:=bs HB hb; clear hb; obtain ⟨_,_,_,_,_,_,_,_,_,_,_,_,_,_,_,_,_,_,_,_,_,_⟩:=kc11 BK1; obtain ⟨_,_,_,_,_,_,_,_,_,_,_,_,_,_,_,_,_,_,_,_,_,_⟩:=kc11 BK2))
 ·refine bodyPost_ret (Qaz rfl _ _ gb2 32 #[.int .i64 a0, .int .i64 a1, .int .i64 a2, .int .i64 a3, .int .i64 a4, .int .i64 a5, .string a6, .slice A7 l7.length c7, .int .i64 a8, .int .i64 a9, .int .i64 a10] (0,0) _ rfl (bp11 (kk BK2)) hu32 rfl (by kernel_rfl)) rfl ?_
  exact ⟨rfl,bw HB⟩
 ·refine bodyPost_ret (Qaz rfl _ _ gb2 32 #[.int .i64 0, .int .i64 0, .int .i64 0, .int .i64 0, .int .i64 0, .int .i64 0, .string (⟨#[]⟩ : ByteArray), .slice none 0 0, .int .i64 0, .int .i64 0, .int .i64 0] (0,0) _ rfl (bp11 (kk BK2)) hu32 rfl (by kernel_rfl)) rfl ?_
  exact ⟨rfl,bw HB⟩
end
section
abbrev RE (w : World) (base : Nat) (v : Value) (xs : List SElem) : Prop:=Qaw.R 30 w base (fun _ => True) v xs
theorem RE_set {w : World} {base g n c : Nat} {xs : List SElem} (h : RE w base (.slice (some ⟨g,0,none⟩) n c) xs) (i : Nat) (hi : i < n) (x : SElem) :
  RE (((w.setCell ⟨g,i * 3,none⟩ (.int .i64 x.f0)).setCell ⟨g,i * 3 + 1,none⟩ (.int .i64 x.f1)).setCell ⟨g,i * 3 + 2,none⟩ (.int .i64 x.f2)) base (.slice (some ⟨g,0,none⟩) n c) (xs.set i x) /\
   w.grownBy (((w.setCell ⟨g,i * 3,none⟩ (.int .i64 x.f0)).setCell ⟨g,i * 3 + 1,none⟩ (.int .i64 x.f1)).setCell ⟨g,i * 3 + 2,none⟩ (.int .i64 x.f2)) (some g):=by
 obtain ⟨cs,hl,hM,hc,hf⟩:=Kd.R_elem h zElem (i : Int) (by omega) (by omega)
 have hl3 : cs.length = 3:=hl
 have:=Kd.R_seg h (i : Int) (by omega) (by omega) (c:=cs) (seg:=[.int .i64 x.f0, .int .i64 x.f1, .int .i64 x.f2]) (j:=0) (x':=x) (okp:=fun k => True /\ k ≠ g) hl hc (by show 0 + 3 <= 3; omega) (by
  have : cs.take 0 ++ [Value.int .i64 x.f0, .int .i64 x.f1, .int .i64 x.f2] ++ cs.drop (0 + [Value.int .i64 x.f0, .int .i64 x.f1, .int .i64 x.f2].length) = [.int .i64 x.f0, .int .i64 x.f1, .int .i64 x.f2]:=by
   rw [List.take_zero,List.nil_append,List.drop_eq_nil_of_le (by simp; omega),List.append_nil]
  rw [this]; exact kElem_mkM _ _ _ x) (fun k hk => hk)
 exact this
theorem grown_then {w w1 w2 : World} {row : Option Nat} (h : w.grownBy w1 row) (k : Below w1.heap.size w1 w2) : w.grownBy w2 row :=
 ⟨k.os.trans h.os,k.tape.trans h.tape,k.output.trans h.output,Nat.le_trans h.size k.size,fun i hi hne => (k.block i (Nat.lt_of_lt_of_le hi h.size)).trans (h.block i hi hne)⟩
theorem grown_grown {w w1 w2 : World} {row : Option Nat} (h : w.grownBy w1 row) (k : w1.grownBy w2 row) : w.grownBy w2 row :=
 ⟨k.os.trans h.os,k.tape.trans h.tape,k.output.trans h.output,Nat.le_trans h.size k.size,fun i hi hne => (k.block i (Nat.lt_of_lt_of_le hi h.size) hne).trans (h.block i hi hne)⟩
theorem filter_first (l : List SElem) (p : SElem -> Bool) {i : Nat} (hi : i < l.length) (hpi : p (Qab l (i : Int)) = true) (hlt : ∀ j,j < i -> p (Qab l (j : Int)) = false) : l.take i = (l.take (i + 1)).filter (fun x => !p x):=by
 rw [List.take_succ_eq_append_getElem hi,List.filter_append]
 rw [Qat _ _ hi] at hpi
 have h1 : (l.take i).filter (fun x => !p x) = l.take i:=by
  rw [List.filter_eq_self]
  intro x hx
  obtain ⟨j,hj,rfl⟩:=List.mem_take_iff_getElem.1 hx
  have:=hlt j (by omega)
  rw [Qat _ _ (by omega)] at this
  simp [this]
 rw [h1]; simp [hpi]
def zs (n : Nat) : List Value:=(Builtin.zeroCells #[.int .i64 0, .int .i64 0, .int .i64 0] n).toList
theorem zs_len (n : Nat) : (zs n).length = n * 3:=by simp [zs,Builtin.zeroCells]
theorem zs_one (n : Nat) : ∀ v ∈ zs n,v.oneCell' = true:=by
 intro v hv
 unfold zs Builtin.zeroCells at hv
 simp only [Array.toList_map,List.mem_map] at hv
 obtain ⟨i,_,rfl⟩:=hv
 have h : i % 3 = 0 \/ i % 3 = 1 \/ i % 3 = 2:=by omega
 show (#[Value.int .i64 0, .int .i64 0, .int .i64 0][i % 3]!).oneCell' = true
 rcases h with h | h | h <;> rw [h] <;> rfl
theorem run_clear_elem (w : World) (ty : TypeId) (b o n c : Nat) (hn : 0 < n) (hc : ∀ j,j < n * 3 -> (w.cell? ⟨b,o + j,none⟩).isSome = true) (hf : ∀ j,j < n * 3 -> w.frozen? ⟨b,o + j,none⟩ = false) :
  (Builtin.clear_ #[23] ty #[.slice (some ⟨b,o,none⟩) n c]).run Try.prog w = .ok (.tuple #[]) (w.setCells b o (zs n)):=by
 have hst:=run_storeCells_cells (P:=Try.prog) b o (zs n) 0 w (by rw [zs_len]; simpa using hc) (by rw [zs_len]; simpa using hf) (zs_one n)
 simp only [Nat.add_zero] at hst
 have hv:=Try.zeroValue30
 obtain ⟨m,rfl⟩ : ∃ m,n = m + 1:=⟨n - 1,by omega⟩
 simp only [Builtin.clear_]
 unfold zs at hst ⊢
 simp [run_underlying Try.underlying23,hv,Value.cells,hst]
theorem RE_clear {w : World} {base g n c : Nat} {xs : List SElem} (h : RE w base (.slice (some ⟨g,0,none⟩) n c) xs) (a : Nat) (ha : a <= n) (seg : List Value) (hs : a * 3 + seg.length <= n * 3) :
  RE (w.setCells g (a * 3) seg) base (.slice (some ⟨g,0,none⟩) a c) (xs.take a) /\ w.grownBy (w.setCells g (a * 3) seg) (some g) /\ (∀ j,j < n * 3 -> (w.cell? ⟨g,j,none⟩).isSome = true) /\ ∀ j,w.frozen? ⟨g,j,none⟩ = false:=by
 have hn:=(Kd.R_reads' h).1
 obtain ⟨_,inner0,own0,hr0⟩:=h
 have hT:=Kd.R_take (m:=a) (show RE w base (.slice (some ⟨g,0,none⟩) n c) xs from ⟨fun _ _ => trivial,inner0,own0,hr0⟩) (by omega)
 obtain ⟨hok,inner,ho,hr⟩:=hT
 obtain ⟨ho1,ho2⟩:=ho
 obtain ⟨_,ho02⟩:=own0
 rcases ho02 with ⟨hv,_⟩ | ⟨g0,cap0,cur0,hv0,hb0,hh0,hnc0,hcm0,hcs0,ht0⟩
 ·cases hv
 rcases ho2 with ⟨hv,_⟩ | ⟨g',cap',cur,hv,hb,hh,hnc',hcm,hcs,ht⟩
 ·cases hv
 injection hv with hA _ hc
 injection hA with hA
 injection hA with hg
 subst hg; subst hc
 injection hv0 with hA _ hc
 injection hA with hA
 injection hA with hg
 subst hg; subst hc
 have e : cur0 = cur:=by
  rw [hh] at hh0; injection hh0 with hh0; injection hh0 with hh0; exact hh0.symm
 subst e
 have hfit : a * 3 + seg.length <= cur0.size:=by
  have h3 : Qaw.sz = 3:=rfl
  rw [hcs0,h3]; omega
 obtain ⟨cur',h3,h4,h5⟩:=setCells_row seg (a * 3) w cur0 hh hfit
 obtain ⟨s1,s2,s3,s4⟩:=setCells_same g seg (a * 3) w
 refine ⟨⟨hok,inner,⟨ho1, .inr ⟨g,c,cur',by rw [List.length_take,Nat.min_eq_left (by omega)],hb,h3,hnc',hcm,by rw [h4,hcs], ?_⟩⟩,hr⟩,⟨s1,s2,s3,by rw [s4]; exact Nat.le_refl _,fun k _ hk => setCells_far seg _ k (fun he => hk (by rw [he]))⟩,fun j hj => ?_,fun j => blk_frozen hh j⟩
 ·rw [<- ht,h5]
  have hl : (cur0.toList.take (a * 3)).length = a * 3:=by rw [List.length_take,Array.length_toList]; omega
  have h33 : (xs.take a).length * 3 = a * 3:=by rw [List.length_take]; omega
  show List.take ((xs.take a).length * 3) _ = List.take ((xs.take a).length * 3) _
  rw [h33,List.append_assoc,List.take_append_of_le_length (by omega),List.take_take,Nat.min_self]
 ·rw [cell_of_row w g j cur0 _ (0,0) hh,Array.getElem?_eq_getElem (by have h3 : Qaw.sz = 3:=rfl; rw [hcs0,h3]; omega)]
  rfl
theorem DeleteFuncElem (gf : Nat) (lb : Array Value) (base c : Nat) (A : Option Addr) (l : List SElem) (p : SElem -> Bool) (w : World) (eg : ∀ args w,(callFunc gf args).run Try.prog w = .ok (.enter gf args) w)
  (hm : l.length <= 1000000000) (h0 : RE w base (.slice A l.length c) l)
  (hs : ∀ W x,x ∈ l -> w.grownBy W (Value.slice A l.length c).ownBlock -> Calls Try.prog gf (#[elV x] ++ lb) W fun e w' => e = .returned (.bool (p x)) /\ Below W.heap.size W w') :
  Calls Try.prog 28 #[.slice A l.length c, .func (.func gf) #[] lb] w fun e w' => ∃ n',e = .returned (.slice A n' c) /\ RE w' base (.slice A n' c) (l.filter fun x => !p x) /\ w.grownBy w' (Value.slice A l.length c).ownBlock:=by
 have hu1:=Try.underlying23
 have hu2:=Try.underlying30
 have cI:=IndexFuncElem gf lb A c l (fun i => p (Qab l (i : Int))) (fun _ W => Below w.heap.size w W) (fun _ W => Below w.heap.size w W) w eg (by omega) (Below.refl _ _) (fun i W hb => (Kd.R_reads' (Kd.R_below h0 hb)).2.2) (fun i W hi hb => by
  refine (hs W (Qab l (i : Int)) (by rw [Qat _ _ hi]; exact List.getElem_mem hi) (grown_of_below hb _)).mono ?_
  rintro e w' ⟨rfl,hb'⟩
  have : Below w.heap.size w w':=Qal hb hb'
  exact ⟨rfl,fun _ => this,fun _ => this⟩)
 have HI:=Zz.k (firstAt_cases (fun i : Nat => p (Qab l (i : Int))) l.length)
 generalize Qav (fun i : Nat => p (Qab l (i : Int))) l.length l.length 0 = i0 at cI HI
 have CI:=Zz.k cI
 have HS:=Zz.k hs
 have H0:=Zz.k h0
 clear cI hs h0
 go_enter Try.func28,Try.ntmps28
 go_wp2_with fail
 refine CI.out.mono ?_
 rintro e w1 ⟨rfl,hpost⟩
 have HP:=Zz.k hpost
 clear hpost CI
 rcases HI.out with ⟨i,hi,hpi,hlt,rfl⟩ | ⟨hno,rfl⟩
 ·have hne : ((i : Int) == -1) = false:=by simp
  obtain ⟨g,cap,hv,hbg,hgl,_⟩:=Kd.R_form H0.out (by omega)
  injection hv with ha _ hcap
  subst ha; subst hcap
  have hb1 : Below w.heap.size w w1:=by rcases HP.out with ⟨_,_,_,_,h⟩ | ⟨_,h⟩ <;> exact h
  have HG1:=Zz.k (grown_of_below hb1 (some g))
  have HR1:=Zz.k (Kd.R_below H0.out hb1)
  have HFT:=Zz.k (filter_first l p hi hpi hlt)
  clear HP HI hb1 H0
  go_wp2
  go_loopg [5,6,7] l.length (fun gg s5 s6 _ wr => ∃ (a b : Nat) (xs : List SElem),a < b /\ b <= l.length /\ l.length - b <= gg /\ s5 = .int .i64 a /\ s6 = .int .i64 b /\ Zz (xs.length = l.length) /\ Zz (xs.take a = (l.take b).filter (fun x => !p x)) /\ Zz (xs.drop b = l.drop b) /\ Zz (RE wr base (.slice (some ⟨g,0,none⟩) l.length c) xs) /\ Zz (w.grownBy wr (some g)))
  case atStart => exact ⟨i,i + 1,l,by omega,by omega,by omega,rfl,by go_num,⟨rfl⟩,HFT,⟨rfl⟩,HR1,HG1⟩
  case round =>
   clear HFT HR1 HG1
   obtain ⟨a,b,xs,hab,hbn,hgk,rfl,rfl,HL,HF,HD,HR,HG⟩:=hrel
   by_cases hlt2 : b < l.length
   ·obtain ⟨g',rfl⟩ : ∃ g',gk = g' + 1:=⟨gk - 1,by omega⟩
    have hltz : (b : Int) < (l.length : Int):=by omega
    have h0z : (0 : Int) <= (b : Int):=by omega
    obtain ⟨hn,_,hC⟩:=Kd.R_reads' HR.out
    obtain ⟨ad,hA,x0,x1,x2⟩:=Qck hC (b : Int) h0z (by omega)
    injection hA with hA
    subst hA
    clear hC hn
    simp only [Int.toNat_natCast,Qbu] at x0 x1 x2
    have hx : Qab xs (b : Int) = Qab l (b : Int):=by
     have hb2 : b < xs.length:=by rw [HL.out]; exact hlt2
     rw [Qat _ _ hb2,Qat _ _ hlt2]
     have:=HD.out
     rw [List.drop_eq_getElem_cons hb2,List.drop_eq_getElem_cons hlt2] at this
     injection this
    rw [hx] at x0 x1 x2
    have HM:=Zz.k (show Qab l (b : Int) ∈ l by rw [Qat _ _ hlt2]; exact List.getElem_mem hlt2)
    generalize hxe : Qab l (b : Int) = x at x0 x1 x2 HM
    have HXE:=Zz.k hxe
    clear hxe hx
    have hal : Below wr.heap.size wr (wr.alloc (.cells #[.int .i64 x.f0, .int .i64 x.f1, .int .i64 x.f2] 30)):=Qad (Below.refl _ _) _
    have HC:=Zz.k (HS.out _ x HM.out (grown_then HG.out hal))
    have HG2:=Zz.k (grown_then HG.out hal)
    have HR2:=Zz.k (Kd.R_below HR.out hal)
    have HLT : xs.length = l.length:=HL.out
    have ha1 : a < xs.length:=by omega
    clear hal HG HR
    go_wp2_with fail
    refine HC.out.mono ?_
    rintro e w2 ⟨rfl,hb2⟩
    have d0:=Qaa hb2 (show (wr.alloc (.cells #[.int .i64 x.f0, .int .i64 x.f1, .int .i64 x.f2] 30)).cell? ⟨wr.heap.size,0,none⟩ = some (.int .i64 x.f0) by simp)
    have d1:=Qaa hb2 (show (wr.alloc (.cells #[.int .i64 x.f0, .int .i64 x.f1, .int .i64 x.f2] 30)).cell? ⟨wr.heap.size,1,none⟩ = some (.int .i64 x.f1) by simp)
    have d2:=Qaa hb2 (show (wr.alloc (.cells #[.int .i64 x.f0, .int .i64 x.f1, .int .i64 x.f2] 30)).cell? ⟨wr.heap.size,2,none⟩ = some (.int .i64 x.f2) by simp)
    have HG3:=Zz.k (grown_then HG2.out hb2)
    have HR3:=Zz.k (Kd.R_below HR2.out hb2)
    clear hb2 HG2 HR2 x0 x1 x2 HC
    have hxl : l[b] = x:=by rw [<- Qat _ _ hlt2]; exact HXE.out
    have hD2 : xs.drop (b + 1) = l.drop (b + 1):=by
     have:=HD.out
     rw [List.drop_eq_getElem_cons (show b < xs.length by omega),List.drop_eq_getElem_cons hlt2] at this
     injection this
    have HD2:=Zz.k hD2
    have hF2:=HF.out
    cases hp : p x with
    | true =>
     have hF3 : xs.take a = (l.take (b + 1)).filter (fun x => !p x):=by
      rw [List.take_succ_eq_append_getElem hlt2,List.filter_append,hxl,<- hF2]; simp [hp]
     have HF3:=Zz.k hF3
     clear hF3 hF2 hD2 hp HF HD hxl
     go_wp2
     go_roundg g'
     case measure => omega
     case rel => exact ⟨a,b + 1,xs,by omega,by omega,by omega,rfl,by go_num,HL,HF3,HD2,HR3,HG3⟩
    | false =>
     have hF3 : (xs.set a x).take (a + 1) = (l.take (b + 1)).filter (fun x => !p x):=by
      rw [List.take_succ_eq_append_getElem hlt2,List.filter_append,hxl,<- hF2,List.take_succ_eq_append_getElem (by simp; omega),List.take_set_of_le (Nat.le_refl a)]; simp [hp]
     have HF3:=Zz.k hF3
     have HL3:=Zz.k (show (xs.set a x).length = l.length by rw [List.length_set]; exact HLT)
     have HD3:=Zz.k (show (xs.set a x).drop (b + 1) = l.drop (b + 1) by rw [List.drop_set_of_lt (by omega)]; exact hD2)
     obtain ⟨cs,hcl,_,hcc,hff⟩:=Kd.R_elem HR3.out zElem (a : Int) (by omega) (by omega)
     have hcl3 : cs.length = 3:=hcl
     have hR4:=RE_set HR3.out a (by omega) x
     have HR4:=Zz.k hR4.1
     have HG4:=Zz.k (grown_grown HG3.out hR4.2)
     obtain ⟨q0,q1,q2,rfl⟩ : ∃ q0 q1 q2,cs = [q0,q1,q2]:=by
      match cs,hcl3 with
      | [q0,q1,q2],_ => exact ⟨q0,q1,q2,rfl⟩
     have e0 : w2.cell? ⟨g,a * 3,none⟩ = some q0:=hcc 0 _ rfl
     have e1 : w2.cell? ⟨g,a * 3 + 1,none⟩ = some q1:=hcc 1 _ rfl
     have e2 : w2.cell? ⟨g,a * 3 + 2,none⟩ = some q2:=hcc 2 _ rfl
     have f0 : w2.frozen? ⟨g,a * 3,none⟩ = false:=hff 0
     have f1 : w2.frozen? ⟨g,a * 3 + 1,none⟩ = false:=hff 1
     have f2 : w2.frozen? ⟨g,a * 3 + 2,none⟩ = false:=hff 2
     clear hF3 hF2 hD2 hp HF HD hxl hR4 hcc hff hcl hcl3 HG3 HR3
     go_wp2
     go_roundg g'
     case measure => omega
     case rel => exact ⟨a + 1,b + 1,xs.set a x,by omega,by omega,by omega,by go_num,by go_num,HL3,HF3,HD3,HR4,HG4⟩
   ·obtain rfl : b = l.length:=by omega
    have hltz : ¬ (l.length : Int) < (l.length : Int):=by omega
    obtain ⟨r1,r2,r3,r4⟩:=RE_clear HR.out a (by omega) (zs (l.length - a)) (by rw [zs_len]; omega)
    have HR5:=Zz.k r1
    have HG5:=Zz.k (grown_grown HG.out r2)
    have hcl : ∀ ty,(Builtin.clear_ #[23] ty #[.slice (some ⟨g,a * 3,none⟩) (l.length - a) (c - a)]).run Try.prog wr = .ok (.tuple #[]) (wr.setCells g (a * 3) (zs (l.length - a))) :=
     fun ty => run_clear_elem wr ty g (a * 3) _ _ (by omega) (fun j hj => r3 _ (by omega)) (fun j hj => r4 _)
    have hF5:=HF.out
    rw [List.take_length] at hF5
    have HF5:=Zz.k hF5
    have hnc:=(Kd.R_reads' HR.out).2.1
    have hac : c ≠ a:=by omega
    have hac1 : (a : Int) <= (c : Int):=by omega
    have hac2 : ¬ (c : Int) < (a : Int):=by omega
    clear r1 r2 r3 r4 HR HG HD HF hF5
    go_wp2
    go_ret
    exact ⟨_,rfl,by rw [<- HF5.out]; exact HR5.out,HG5.out⟩
 ·go_wp2
  go_ret
  have hb1 : Below w.heap.size w w1:=by rcases HP.out with ⟨_,_,_,_,h⟩ | ⟨_,h⟩ <;> exact h
  refine ⟨_,rfl, ?_,grown_of_below hb1 _⟩
  have : l.filter (fun x => !p x) = l:=by
   rw [List.filter_eq_self]
   intro x hx
   obtain ⟨j,hj,rfl⟩:=List.getElem_of_mem hx
   have:=hno j hj
   rw [Qat _ _ hj] at this
   simp [this]
  rw [this]
  exact Kd.R_below H0.out hb1
end
section
abbrev MapE (w : World) (b n : Nat) (S : Int × Int × Int -> Bool) : Prop:=MapB encE 30 4 w b n S
theorem seen1_calls (c1 c2 b1 b2 n1 n2 : Nat) (x : SElem) (G T : Int × Int × Int -> Bool) (W : World) (h1 : W.cell? ⟨c1,0,none⟩ = some (.map (some b1))) (h2 : W.cell? ⟨c2,0,none⟩ = some (.map (some b2)))
  (hG : MapE W b1 n1 G) (hT : MapE W b2 n2 T) (hx : inI x.f0 /\ inI x.f1 /\ inI x.f2) :
  Calls Try.prog 30 #[elV x, .pointer (some ⟨c1,0,none⟩), .pointer (some ⟨c2,0,none⟩)] W fun e w' => e = .returned (.bool (G (x.f0,x.f1,x.f2) || !T (x.f0,x.f1,x.f2))) /\ Below W.heap.size W w':=by
 have l1:=World.block_lt_of_cell? W _ h1
 have l2:=World.block_lt_of_cell? W _ h2
 simp only at l1 l2
 obtain ⟨kl,hkl⟩:=keyE (x:=(x.f0,x.f1,x.f2)) hx.1 hx.2.1 hx.2.2
 have hal : Below W.heap.size W (W.alloc (.cells #[.int .i64 x.f0, .int .i64 x.f1, .int .i64 x.f2] 30)):=Qad (Below.refl _ _) _
 have k1:=(hG.below hal hG.lt).look lawE Try.underlying63 Try.underlying4 zeroB (x.f0,x.f1,x.f2) hkl
 have k2:=(hT.below hal hT.lt).look lawE Try.underlying63 Try.underlying4 zeroB (x.f0,x.f1,x.f2) hkl
 have d1:=Qaa hal h1
 have d2:=Qaa hal h2
 simp only [encE] at k1 k2
 have HAL:=Zz.k hal
 unfold elV
 generalize hg : G (x.f0,x.f1,x.f2) = gq at k1 ⊢
 generalize ht : T (x.f0,x.f1,x.f2) = tq at k2 ⊢
 clear hG hT hx hkl hal h1 h2 hg ht
 cases gq
 ·go_enter Try.func30,Try.ntmps30
  go_wp2
  go_ret
  exact ⟨rfl,HAL.out⟩
 ·go_enter Try.func30,Try.ntmps30
  go_wp2
  go_ret
  exact ⟨rfl,HAL.out⟩
end
section
attribute [local go_sem] Qcg Qce max_two min_two Qbm Qbl Qcf Qcd
def doc_Counts.l0 : Nat -> List (SOp) -> List Int -> List (SOp) -> Int -> Int -> Option (List Int)
 | 0,_,_,_,_,_ => none
 | k + 1,x0,x3,x10,x11,x12 => if x12 < x11 then (if 0 <= x12 then (if x12 < (x10.length : Int) then (if ((Qar x10 x12).f2) = 2 then ((tree_Find.f x0 ((Qar x10 x12).f6) ((Qar x10 x12).f7)).bind fun t154 => (if 0 <= t154 then (if t154 < (x3.length : Int) then (if ((Qar x10 x12).f8) = (rd x3 t154) then (doc_Counts.l0 k x0 (x3.set (t154 : Int).toNat (wrap64 ((rd x3 t154) + 1))) x10 x11 (wrap64 (x12 + 1))) else (doc_Counts.l0 k x0 x3 x10 x11 (wrap64 (x12 + 1)))) else (none)) else (none))) else (doc_Counts.l0 k x0 x3 x10 x11 (wrap64 (x12 + 1)))) else (none)) else (none)) else (some x3)
def doc_Counts.f (k : Nat) (l0 : List (SOp)) : Option (List Int):=if 0 <= (l0.length : Int) then (if ((l0.length : Int) : Int).toNat <= 35184372088832 then (doc_Counts.l0 k l0 (List.replicate ((l0.length : Int) : Int).toNat 0) l0 (l0.length : Int) 0) else (none)) else (none)
theorem doc_Counts.calls (k : Nat) (A0 : Option Addr) (c0 : Nat) (l0 : List (SOp)) (r : List Int) (w : World) (hr0 : Kd.C kOp w A0 l0.length l0) (hc0 : l0.length <= c0) (h : doc_Counts.f k l0 = some r) :
  Calls Try.prog 45 #[.slice A0 l0.length c0] w fun e w' => ∃ v0_ : Value,e = .returned (v0_) /\ Kd.R (Kd.int .i64) 3 w' w.heap.size (fun _ => True) v0_ r /\ Below w.heap.size w w':=by
 have hu32:=Try.underlying32
 have HR0:=Zz.k hr0
 have HC0:=Zz.k hc0
 clear hr0 hc0
 have HB:=Zz.k (Below.refl w.heap.size w)
 unfold doc_Counts.f at h; have H:=h
 clear h
 by_cases c2 : 0 <= (l0.length : Int); rotate_left
 ·rw [if_neg c2] at H
  exact absurd H (by simp)
 rw [if_pos c2] at H
 have c2b0:=eq_true c2
 have c2b1:=Zd c2
 clear c2
 by_cases c3 : ((l0.length : Int) : Int).toNat <= 35184372088832; rotate_left
 ·rw [if_neg c3] at H
  exact absurd H (by simp)
 rw [if_pos c3] at H
 have c3b0:=eq_true c3
 have c3b1:=Zd c3
 clear c3
 obtain ⟨y149,hy149⟩ : ∃ y_ : List Int,y_ = (List.replicate ((l0.length : Int) : Int).toNat 0):=⟨_,rfl⟩
 first | rw [Option.bind_some,<- hy149] at H | rw [<- hy149] at H
 have Ny149:=Zz.k hy149
 clear hy149
 have H':=Zz.k H
 clear H
 go_enter Try.func45,Try.ntmps45
 go_wp2_with (first | ((with_reducible refine Qaf (N:=9) rfl ?_); refine Kd.R_make (Kd.int .i64) _ 3 rfl (N:=9) rfl 25 _ _ rfl (l0.length : Int) rfl rfl Try.underlying25 (.int .i64 0) 8 info3 rfl (by decide) (by omega) 0 (ok:=fun _ => True) (okp:=fun _ => True) rfl (fun _ hk => hk) trivial (od) (Nat.le_trans (Nat.mul_le_mul_right _ (od : (l0.length : Int).toNat <= 35184372088832)) (by omega)) (Below.refl _ _) (Nat.le_refl _) ?_; intro v150 w4 ho5 hb hg_ hnew_; clear hg_ hnew_; (first | rw [<- Ny149.out] at ho5 | (simp only [Int.reduceToNat] at ho5; rw [<- Ny149.out] at ho5)); have HO151:=Zz.k (Kd.R_lower ho5 (Qap (bw HB))); replace HB:=bs HB hb; clear hb ho5))
 repeat (go_quiet (first | ((with_reducible refine Qaf (N:=9) rfl ?_); refine Kd.R_make (Kd.int .i64) _ 3 rfl (N:=9) rfl 25 _ _ rfl (l0.length : Int) rfl rfl Try.underlying25 (.int .i64 0) 8 info3 rfl (by decide) (by omega) 0 (ok:=fun _ => True) (okp:=fun _ => True) rfl (fun _ hk => hk) trivial (od) (Nat.le_trans (Nat.mul_le_mul_right _ (od : (l0.length : Int).toNat <= 35184372088832)) (by omega)) (Below.refl _ _) (Nat.le_refl _) ?_; intro v150 w4 ho5 hb hg_ hnew_; clear hg_ hnew_; (first | rw [<- Ny149.out] at ho5 | (simp only [Int.reduceToNat] at ho5; rw [<- Ny149.out] at ho5)); have HO151:=Zz.k (Kd.R_lower ho5 (Qap (bw HB))); replace HB:=bs HB hb; clear hb ho5)); try go_wp2_with (first | ((with_reducible refine Qaf (N:=9) rfl ?_); refine Kd.R_make (Kd.int .i64) _ 3 rfl (N:=9) rfl 25 _ _ rfl (l0.length : Int) rfl rfl Try.underlying25 (.int .i64 0) 8 info3 rfl (by decide) (by omega) 0 (ok:=fun _ => True) (okp:=fun _ => True) rfl (fun _ hk => hk) trivial (od) (Nat.le_trans (Nat.mul_le_mul_right _ (od : (l0.length : Int).toNat <= 35184372088832)) (by omega)) (Below.refl _ _) (Nat.le_refl _) ?_; intro v150 w4 ho5 hb hg_ hnew_; clear hg_ hnew_; (first | rw [<- Ny149.out] at ho5 | (simp only [Int.reduceToNat] at ho5; rw [<- Ny149.out] at ho5)); have HO151:=Zz.k (Kd.R_lower ho5 (Qap (bw HB))); replace HB:=bs HB hb; clear hb ho5)))
 go_loopg [12] k (fun kq v12 w' => ∃ (x3_1 : List Int) (x12_1 : Int),v12 = .int .i64 x12_1 /\ Zz (doc_Counts.l0 kq l0 x3_1 l0 (l0.length : Int) x12_1 = some r) /\ Zz (kq <= k) /\ Zz (Kd.R (Kd.int .i64) 3 w' w.heap.size (fun _ => True) v150 x3_1) /\ Zz (Below w.heap.size w w'))
 case atStart => exact ⟨(y149),(0),rf,H',⟨Nat.le_refl _⟩,⟨rk HO151⟩,⟨bw HB⟩⟩
 case round =>
  clear H'
  try clear c2b0; try clear c2b1; try clear c3b0; try clear c3b1
  obtain ⟨x3_1,x12_1,rfl,HA,HK1,HO_3,HB⟩:=hrel
  cases gk with
  | zero => exact absurd HA.out (by simp [doc_Counts.l0])
  | succ k1 =>
   have H:=HA.out
   clear HA
   simp only [doc_Counts.l0] at H
   by_cases c6 : x12_1 < (l0.length : Int); rotate_left
   ·rw [if_neg c6] at H
    have c6b0:=Ze c6
    clear c6
    obtain rfl:=Zo H
    go_wp2
    repeat (go_quiet (fail); try go_wp2)
    go_ret
    exact ⟨_,re,by (with_reducible repeat (first | apply Kd.R_alloc | apply Kd.R_drewN | apply Kd.R_drew)); exact HO_3.out,bw HB⟩
   rw [if_pos c6] at H
   have c6b0:=Zd c6
   clear c6
   by_cases c7 : 0 <= x12_1; rotate_left
   ·rw [if_neg c7] at H
    exact absurd H (by simp)
   rw [if_pos c7] at H
   have c7b0:=Zd c7
   clear c7
   by_cases c8 : x12_1 < (l0.length : Int); rotate_left
   ·rw [if_neg c8] at H
    exact absurd H (by simp)
   rw [if_pos c8] at H
   have c8b0:=Zd c8
   clear c8
   by_cases c9 : ((Qar l0 x12_1).f2) = 2; rotate_left
   ·rw [if_neg c9] at H
    obtain ⟨c9b0,c9b1⟩:=bF c9
    have H':=Zz.k H
    clear H
    have p152 : 0 <= (x12_1 : Int):=od
    have q152 : x12_1 < (l0.length : Int):=od
    obtain ⟨ad152,A152_7,c152_7,e152,hx152_0,hx152_1,hx152_2,hx152_3,hx152_4,hx152_5,hx152_6,hx152_7,hx152_8,hx152_9,hx152_10,hl152_7,hi152_7⟩:=at_Op HR0.out x12_1 p152 q152
    cases e152
    replace hx152_0:=cl HB hx152_0
    replace hx152_1:=cl HB hx152_1
    replace hx152_2:=cl HB hx152_2
    replace hx152_3:=cl HB hx152_3
    replace hx152_4:=cl HB hx152_4
    replace hx152_5:=cl HB hx152_5
    replace hx152_6:=cl HB hx152_6
    replace hx152_7:=cl HB hx152_7
    replace hx152_8:=cl HB hx152_8
    replace hx152_9:=cl HB hx152_9
    replace hx152_10:=cl HB hx152_10
    have HR152_7:=Zz.k hi152_7
    have HC152_7:=Zz.k hl152_7
    clear hi152_7 hl152_7
    replace p152:=eq_true p152
    replace q152:=eq_true q152
    go_wp2_with (first | ((with_reducible refine Qaf (N:=5) rfl ?_); refine bx 5 #[.int .i64 0, .int .i64 0, .int .i64 0, .int .i64 0, .int .i64 0, .int .i64 0, .string (⟨#[]⟩ : ByteArray), .slice none 0 0, .int .i64 0, .int .i64 0, .int .i64 0] 32 (h := ?_); intro gb153 hg w27 hbox hb; have BK153:=Zz.k (hbox); have GW153:=bz HB hg; have GE153:=bz HB hg; replace HO_3:=rb HO_3 hb; replace HB:=bs HB hb; clear hb hbox hg; obtain ⟨_,_,_,_,_,_,_,_,_,_,_,_,_,_,_,_,_,_,_,_,_,_⟩:=kc11 BK153))
    repeat (go_quiet (first | ((with_reducible refine Qaf (N:=5) rfl ?_); refine bx 5 #[.int .i64 0, .int .i64 0, .int .i64 0, .int .i64 0, .int .i64 0, .int .i64 0, .string (⟨#[]⟩ : ByteArray), .slice none 0 0, .int .i64 0, .int .i64 0, .int .i64 0] 32 (h := ?_); intro gb153 hg w27 hbox hb; have BK153:=Zz.k (hbox); have GW153:=bz HB hg; have GE153:=bz HB hg; replace HO_3:=rb HO_3 hb; replace HB:=bs HB hb; clear hb hbox hg; obtain ⟨_,_,_,_,_,_,_,_,_,_,_,_,_,_,_,_,_,_,_,_,_,_⟩:=kc11 BK153)); try go_wp2_with (first | ((with_reducible refine Qaf (N:=5) rfl ?_); refine bx 5 #[.int .i64 0, .int .i64 0, .int .i64 0, .int .i64 0, .int .i64 0, .int .i64 0, .string (⟨#[]⟩ : ByteArray), .slice none 0 0, .int .i64 0, .int .i64 0, .int .i64 0] 32 (h := ?_); intro gb153 hg w27 hbox hb; have BK153:=Zz.k (hbox); have GW153:=bz HB hg; have GE153:=bz HB hg; replace HO_3:=rb HO_3 hb; replace HB:=bs HB hb; clear hb hbox hg; obtain ⟨_,_,_,_,_,_,_,_,_,_,_,_,_,_,_,_,_,_,_,_,_,_⟩:=kc11 BK153)))
    go_roundg k1
    case measure => have:=HK1.out; omega
    case rel => exact ⟨(x3_1),(wrap64 (x12_1 + 1)),rf,H',⟨by have:=HK1.out; omega⟩,⟨by (with_reducible repeat (first | apply Kd.R_alloc | apply Kd.R_drewN | apply Kd.R_drew)); exact Kd.R_mono (rf11 (Kd.R_types HO_3.out BK153.out (by decide))) (fun _ hk => trivial)⟩,⟨bw HB⟩⟩
   rw [if_pos c9] at H
   obtain ⟨c9b0,c9b1⟩:=bT c9
   clear c9
   obtain ⟨t154,A10,H⟩:=bE H
   by_cases c11 : 0 <= t154; rotate_left
   ·rw [if_neg c11] at H
    exact absurd H (by simp)
   rw [if_pos c11] at H
   have c11b0:=Zd c11
   clear c11
   by_cases c12 : t154 < (x3_1.length : Int); rotate_left
   ·rw [if_neg c12] at H
    exact absurd H (by simp)
   rw [if_pos c12] at H
   have c12b0:=Zd c12
   clear c12
   by_cases c13 : ((Qar l0 x12_1).f8) = (rd x3_1 t154); rotate_left
   ·rw [if_neg c13] at H
    obtain ⟨c13b0,c13b1⟩:=bF c13
    have H':=Zz.k H
    clear H
    have p152 : 0 <= (x12_1 : Int):=od
    have q152 : x12_1 < (l0.length : Int):=od
    obtain ⟨ad152,A152_7,c152_7,e152,hx152_0,hx152_1,hx152_2,hx152_3,hx152_4,hx152_5,hx152_6,hx152_7,hx152_8,hx152_9,hx152_10,hl152_7,hi152_7⟩:=at_Op HR0.out x12_1 p152 q152
    cases e152
    replace hx152_0:=cl HB hx152_0
    replace hx152_1:=cl HB hx152_1
    replace hx152_2:=cl HB hx152_2
    replace hx152_3:=cl HB hx152_3
    replace hx152_4:=cl HB hx152_4
    replace hx152_5:=cl HB hx152_5
    replace hx152_6:=cl HB hx152_6
    replace hx152_7:=cl HB hx152_7
    replace hx152_8:=cl HB hx152_8
    replace hx152_9:=cl HB hx152_9
    replace hx152_10:=cl HB hx152_10
    have HR152_7:=Zz.k hi152_7
    have HC152_7:=Zz.k hl152_7
    clear hi152_7 hl152_7
    replace p152:=eq_true p152
    replace q152:=eq_true q152
    go_wp2_with (first | ((with_reducible refine Qaf (N:=5) rfl ?_); refine bx 5 #[.int .i64 0, .int .i64 0, .int .i64 0, .int .i64 0, .int .i64 0, .int .i64 0, .string (⟨#[]⟩ : ByteArray), .slice none 0 0, .int .i64 0, .int .i64 0, .int .i64 0] 32 (h := ?_); intro gb153 hg w22 hbox hb; have BK153:=Zz.k (hbox); have GW153:=bz HB hg; have GE153:=bz HB hg; replace HO_3:=rb HO_3 hb; replace HB:=bs HB hb; clear hb hbox hg; obtain ⟨_,_,_,_,_,_,_,_,_,_,_,_,_,_,_,_,_,_,_,_,_,_⟩:=kc11 BK153) | (go_at_call 62; (with_reducible refine (tree_Find.calls _ _ l0 ((Qar l0 x12_1).f6) ((Qar l0 x12_1).f7) t154 _ ?side1 ?side2 A10.out).mono ?_); (case side1 => exact Kd.C_below HR0.out (bw HB)); (case side2 => exact HC0.out); rintro e w24 ⟨rfl,hb⟩; replace HO_3:=Zz.k (Kd.R_below (by (with_reducible repeat (first | apply Kd.R_alloc | apply Kd.R_drewN | apply Kd.R_drew)); exact (Kd.R_mono (rf11 (Kd.R_types HO_3.out BK153.out (by decide))) (fun _ h_ => h_.1))) hb); replace BK153:=Zz.k (blk_below (bp11 (kk BK153)) hb); replace HB:=bs HB hb; clear hb; obtain ⟨_,_,_,_,_,_,_,_,_,_,_,_,_,_,_,_,_,_,_,_,_,_⟩:=kc11 BK153; obtain ⟨Ao26,co26,eo26⟩:=Kd.R_slice HO_3.out; subst eo26; have p155 : 0 <= (t154 : Int):=od; have q155 : t154 < (x3_1.length : Int):=od; obtain ⟨ad155,e155,hx155_0⟩:=Kd.at_int (Kd.R_reads' HO_3.out).2.2 t154 p155 q155; cases e155; replace p155:=eq_true p155; replace q155:=eq_true q155))
    repeat (go_quiet (first | ((with_reducible refine Qaf (N:=5) rfl ?_); refine bx 5 #[.int .i64 0, .int .i64 0, .int .i64 0, .int .i64 0, .int .i64 0, .int .i64 0, .string (⟨#[]⟩ : ByteArray), .slice none 0 0, .int .i64 0, .int .i64 0, .int .i64 0] 32 (h := ?_); intro gb153 hg w22 hbox hb; have BK153:=Zz.k (hbox); have GW153:=bz HB hg; have GE153:=bz HB hg; replace HO_3:=rb HO_3 hb; replace HB:=bs HB hb; clear hb hbox hg; obtain ⟨_,_,_,_,_,_,_,_,_,_,_,_,_,_,_,_,_,_,_,_,_,_⟩:=kc11 BK153) | (go_at_call 62; (with_reducible refine (tree_Find.calls _ _ l0 ((Qar l0 x12_1).f6) ((Qar l0 x12_1).f7) t154 _ ?side1 ?side2 A10.out).mono ?_); (case side1 => exact Kd.C_below HR0.out (bw HB)); (case side2 => exact HC0.out); rintro e w24 ⟨rfl,hb⟩; replace HO_3:=Zz.k (Kd.R_below (by (with_reducible repeat (first | apply Kd.R_alloc | apply Kd.R_drewN | apply Kd.R_drew)); exact (Kd.R_mono (rf11 (Kd.R_types HO_3.out BK153.out (by decide))) (fun _ h_ => h_.1))) hb); replace BK153:=Zz.k (blk_below (bp11 (kk BK153)) hb); replace HB:=bs HB hb; clear hb; obtain ⟨_,_,_,_,_,_,_,_,_,_,_,_,_,_,_,_,_,_,_,_,_,_⟩:=kc11 BK153; obtain ⟨Ao26,co26,eo26⟩:=Kd.R_slice HO_3.out; subst eo26; have p155 : 0 <= (t154 : Int):=od; have q155 : t154 < (x3_1.length : Int):=od; obtain ⟨ad155,e155,hx155_0⟩:=Kd.at_int (Kd.R_reads' HO_3.out).2.2 t154 p155 q155; cases e155; replace p155:=eq_true p155; replace q155:=eq_true q155)); try go_wp2_with (first | ((with_reducible refine Qaf (N:=5) rfl ?_); refine bx 5 #[.int .i64 0, .int .i64 0, .int .i64 0, .int .i64 0, .int .i64 0, .int .i64 0, .string (⟨#[]⟩ : ByteArray), .slice none 0 0, .int .i64 0, .int .i64 0, .int .i64 0] 32 (h := ?_); intro gb153 hg w22 hbox hb; have BK153:=Zz.k (hbox); have GW153:=bz HB hg; have GE153:=bz HB hg; replace HO_3:=rb HO_3 hb; replace HB:=bs HB hb; clear hb hbox hg; obtain ⟨_,_,_,_,_,_,_,_,_,_,_,_,_,_,_,_,_,_,_,_,_,_⟩:=kc11 BK153) | (go_at_call 62; (with_reducible refine (tree_Find.calls _ _ l0 ((Qar l0 x12_1).f6) ((Qar l0 x12_1).f7) t154 _ ?side1 ?side2 A10.out).mono ?_); (case side1 => exact Kd.C_below HR0.out (bw HB)); (case side2 => exact HC0.out); rintro e w24 ⟨rfl,hb⟩; replace HO_3:=Zz.k (Kd.R_below (by (with_reducible repeat (first | apply Kd.R_alloc | apply Kd.R_drewN | apply Kd.R_drew)); exact (Kd.R_mono (rf11 (Kd.R_types HO_3.out BK153.out (by decide))) (fun _ h_ => h_.1))) hb); replace BK153:=Zz.k (blk_below (bp11 (kk BK153)) hb); replace HB:=bs HB hb; clear hb; obtain ⟨_,_,_,_,_,_,_,_,_,_,_,_,_,_,_,_,_,_,_,_,_,_⟩:=kc11 BK153; obtain ⟨Ao26,co26,eo26⟩:=Kd.R_slice HO_3.out; subst eo26; have p155 : 0 <= (t154 : Int):=od; have q155 : t154 < (x3_1.length : Int):=od; obtain ⟨ad155,e155,hx155_0⟩:=Kd.at_int (Kd.R_reads' HO_3.out).2.2 t154 p155 q155; cases e155; replace p155:=eq_true p155; replace q155:=eq_true q155)))
    go_roundg k1
    case measure => have:=HK1.out; omega
    case rel => exact ⟨(x3_1),(wrap64 (x12_1 + 1)),rf,H',⟨by have:=HK1.out; omega⟩,⟨rk HO_3⟩,⟨bw HB⟩⟩
   rw [if_pos c13] at H
   obtain ⟨c13b0,c13b1⟩:=bT c13
   clear c13
   obtain ⟨y157,hy157⟩ : ∃ y_ : List Int,y_ = (x3_1.set (t154 : Int).toNat (wrap64 ((rd x3_1 t154) + 1))):=⟨_,rfl⟩
   first | rw [Option.bind_some,<- hy157] at H | rw [<- hy157] at H
   have Ny157:=Zz.k hy157
   clear hy157
   have H':=Zz.k H
   clear H
   have p152 : 0 <= (x12_1 : Int):=od
   have q152 : x12_1 < (l0.length : Int):=od
   obtain ⟨ad152,A152_7,c152_7,e152,hx152_0,hx152_1,hx152_2,hx152_3,hx152_4,hx152_5,hx152_6,hx152_7,hx152_8,hx152_9,hx152_10,hl152_7,hi152_7⟩:=at_Op HR0.out x12_1 p152 q152
   cases e152
   replace hx152_0:=cl HB hx152_0
   replace hx152_1:=cl HB hx152_1
   replace hx152_2:=cl HB hx152_2
   replace hx152_3:=cl HB hx152_3
   replace hx152_4:=cl HB hx152_4
   replace hx152_5:=cl HB hx152_5
   replace hx152_6:=cl HB hx152_6
   replace hx152_7:=cl HB hx152_7
   replace hx152_8:=cl HB hx152_8
   replace hx152_9:=cl HB hx152_9
   replace hx152_10:=cl HB hx152_10
   have HR152_7:=Zz.k hi152_7
   have HC152_7:=Zz.k hl152_7
   clear hi152_7 hl152_7
   replace p152:=eq_true p152
   replace q152:=eq_true q152
   go_wp2_with (first | ((with_reducible refine Qaf (N:=5) rfl ?_); refine bx 5 #[.int .i64 0, .int .i64 0, .int .i64 0, .int .i64 0, .int .i64 0, .int .i64 0, .string (⟨#[]⟩ : ByteArray), .slice none 0 0, .int .i64 0, .int .i64 0, .int .i64 0] 32 (h := ?_); intro gb153 hg w15 hbox hb; have BK153:=Zz.k (hbox); have GW153:=bz HB hg; have GE153:=bz HB hg; replace HO_3:=rb HO_3 hb; replace HB:=bs HB hb; clear hb hbox hg; obtain ⟨_,_,_,_,_,_,_,_,_,_,_,_,_,_,_,_,_,_,_,_,_,_⟩:=kc11 BK153) | (go_at_call 62; (with_reducible refine (tree_Find.calls _ _ l0 ((Qar l0 x12_1).f6) ((Qar l0 x12_1).f7) t154 _ ?side1 ?side2 A10.out).mono ?_); (case side1 => exact Kd.C_below HR0.out (bw HB)); (case side2 => exact HC0.out); rintro e w17 ⟨rfl,hb⟩; replace HO_3:=Zz.k (Kd.R_below (by (with_reducible repeat (first | apply Kd.R_alloc | apply Kd.R_drewN | apply Kd.R_drew)); exact (Kd.R_mono (rf11 (Kd.R_types HO_3.out BK153.out (by decide))) (fun _ h_ => h_.1))) hb); replace BK153:=Zz.k (blk_below (bp11 (kk BK153)) hb); replace HB:=bs HB hb; clear hb; obtain ⟨_,_,_,_,_,_,_,_,_,_,_,_,_,_,_,_,_,_,_,_,_,_⟩:=kc11 BK153; obtain ⟨Ao19,co19,eo19⟩:=Kd.R_slice HO_3.out; subst eo19; have p155 : 0 <= (t154 : Int):=od; have q155 : t154 < (x3_1.length : Int):=od; obtain ⟨ad155,e155,hx155_0⟩:=Kd.at_int (Kd.R_reads' HO_3.out).2.2 t154 p155 q155; cases e155; replace p155:=eq_true p155; replace q155:=eq_true q155; have p156 : 0 <= (t154 : Int):=od; have q156 : t154 < (x3_1.length : Int):=od; obtain ⟨ad156,e156,hx156_0⟩:=Kd.at_int (Kd.R_reads' HO_3.out).2.2 t154 p156 q156; obtain rfl : ad155 = ad156:=(by injection e156); replace p156:=eq_true p156; replace q156:=eq_true q156; have p14 : 0 <= (t154 : Int):=od; have q14 : (t154 : Int) < ((x3_1.length : Int) : Int):=od; obtain ⟨go14,co14,eo14,gb14,gl14,cl14,HG14⟩:=Kd.R_form HO_3.out (by omega); (first | cases eo14 | (injection eo14 with ea_ en_ ec_; (first | subst ea_ | (injection ea_ with ea_; subst ea_)); subst ec_; clear en_)); have GB14:=Zz.k gb14; have GG14:=Zz.k HG14; clear gb14 gl14 HG14; (first | simp only [Qbu] at hx155_0 | skip); (first | simp only [Qbu] at hx156_0 | skip); obtain ⟨hx14_0,hf14_0⟩:=Kd.R_celln 0 HO_3.out (t154 : Int) p14 q14; replace p14:=eq_true p14; replace q14:=eq_true q14; obtain ⟨hy20_,hz20_⟩:=Kd.R_celln 0 HO_3.out (t154 : Int) (od) (od); have HP20:=Kd.R_putg HO_3.out (t154 : Int) (wrap64 ((rd x3_1 t154) + 1))) | ((with_reducible refine gate_store (t:=3) (p:=37) rfl ?_); (try (rw [drewN_self w17]; generalize hq_ : World.drewN w17 _ = w17; have n0_:=Zz.k (Kd.R_at hq_ HO_3.out); have n1_:=Zz.k (blk_at hq_ BK153.out); have n2_:=Zz.k (below_at hq_ HB.out); clear hq_ HO_3 BK153 HB; have HO_3:=n0_; have BK153:=n1_; have HB:=n2_; clear n0_ n1_ n2_; (try (obtain ⟨hy20_,hz20_⟩:=Kd.R_celln 0 HO_3.out (t154 : Int) (od) (od))); (try (have HP20:=Kd.R_putg HO_3.out (t154 : Int) (wrap64 ((rd x3_1 t154) + 1)))))); refine Qch (t:=3) (p:=37) (v := ?vo_w21) (w1:=(w17.setCell ⟨go14,(t154 : Int).toNat,none⟩ (.int .i64 (wrap64 ((rd x3_1 t154) + 1))))) ?hg ?ho ?hn ?hr ?_; (case ho => rfl); (case hg => rfl); (case hn => rfl); (case hr => first | (go_simp; done) | (go_simp; rfl)); intro w21 hw; have hg : w17.grownBy w21 (some go14):=(by rw [hw]; exact HP20.2); have hp_ : Kd.R (Kd.int .i64) 3 w21 w.heap.size (fun _ => True) (.slice (some ⟨go14,0,none⟩) x3_1.length co19) y157:=(by rw [hw,Ny157.out]; exact HP20.1); clear HP20; replace BK153:=Zz.k (blk_grown (kk BK153) hg (Kd.R_ne HO_3.out BK153.out (by decide))); replace HO_3:=Zz.k (hp_); replace HB:=Zz.k ((by rw [hw]; exact below_set (HB.out) GB14.out : Below w.heap.size w w21)); clear hg hw hp_))
   repeat (go_quiet (first | ((with_reducible refine Qaf (N:=5) rfl ?_); refine bx 5 #[.int .i64 0, .int .i64 0, .int .i64 0, .int .i64 0, .int .i64 0, .int .i64 0, .string (⟨#[]⟩ : ByteArray), .slice none 0 0, .int .i64 0, .int .i64 0, .int .i64 0] 32 (h := ?_); intro gb153 hg w15 hbox hb; have BK153:=Zz.k (hbox); have GW153:=bz HB hg; have GE153:=bz HB hg; replace HO_3:=rb HO_3 hb; replace HB:=bs HB hb; clear hb hbox hg; obtain ⟨_,_,_,_,_,_,_,_,_,_,_,_,_,_,_,_,_,_,_,_,_,_⟩:=kc11 BK153) | (go_at_call 62; (with_reducible refine (tree_Find.calls _ _ l0 ((Qar l0 x12_1).f6) ((Qar l0 x12_1).f7) t154 _ ?side1 ?side2 A10.out).mono ?_); (case side1 => exact Kd.C_below HR0.out (bw HB)); (case side2 => exact HC0.out); rintro e w17 ⟨rfl,hb⟩; replace HO_3:=Zz.k (Kd.R_below (by (with_reducible repeat (first | apply Kd.R_alloc | apply Kd.R_drewN | apply Kd.R_drew)); exact (Kd.R_mono (rf11 (Kd.R_types HO_3.out BK153.out (by decide))) (fun _ h_ => h_.1))) hb); replace BK153:=Zz.k (blk_below (bp11 (kk BK153)) hb); replace HB:=bs HB hb; clear hb; obtain ⟨_,_,_,_,_,_,_,_,_,_,_,_,_,_,_,_,_,_,_,_,_,_⟩:=kc11 BK153; obtain ⟨Ao19,co19,eo19⟩:=Kd.R_slice HO_3.out; subst eo19; have p155 : 0 <= (t154 : Int):=od; have q155 : t154 < (x3_1.length : Int):=od; obtain ⟨ad155,e155,hx155_0⟩:=Kd.at_int (Kd.R_reads' HO_3.out).2.2 t154 p155 q155; cases e155; replace p155:=eq_true p155; replace q155:=eq_true q155; have p156 : 0 <= (t154 : Int):=od; have q156 : t154 < (x3_1.length : Int):=od; obtain ⟨ad156,e156,hx156_0⟩:=Kd.at_int (Kd.R_reads' HO_3.out).2.2 t154 p156 q156; obtain rfl : ad155 = ad156:=(by injection e156); replace p156:=eq_true p156; replace q156:=eq_true q156; have p14 : 0 <= (t154 : Int):=od; have q14 : (t154 : Int) < ((x3_1.length : Int) : Int):=od; obtain ⟨go14,co14,eo14,gb14,gl14,cl14,HG14⟩:=Kd.R_form HO_3.out (by omega); (first | cases eo14 | (injection eo14 with ea_ en_ ec_; (first | subst ea_ | (injection ea_ with ea_; subst ea_)); subst ec_; clear en_)); have GB14:=Zz.k gb14; have GG14:=Zz.k HG14; clear gb14 gl14 HG14; (first | simp only [Qbu] at hx155_0 | skip); (first | simp only [Qbu] at hx156_0 | skip); obtain ⟨hx14_0,hf14_0⟩:=Kd.R_celln 0 HO_3.out (t154 : Int) p14 q14; replace p14:=eq_true p14; replace q14:=eq_true q14; obtain ⟨hy20_,hz20_⟩:=Kd.R_celln 0 HO_3.out (t154 : Int) (od) (od); have HP20:=Kd.R_putg HO_3.out (t154 : Int) (wrap64 ((rd x3_1 t154) + 1))) | ((with_reducible refine gate_store (t:=3) (p:=37) rfl ?_); (try (rw [drewN_self w17]; generalize hq_ : World.drewN w17 _ = w17; have n0_:=Zz.k (Kd.R_at hq_ HO_3.out); have n1_:=Zz.k (blk_at hq_ BK153.out); have n2_:=Zz.k (below_at hq_ HB.out); clear hq_ HO_3 BK153 HB; have HO_3:=n0_; have BK153:=n1_; have HB:=n2_; clear n0_ n1_ n2_; (try (obtain ⟨hy20_,hz20_⟩:=Kd.R_celln 0 HO_3.out (t154 : Int) (od) (od))); (try (have HP20:=Kd.R_putg HO_3.out (t154 : Int) (wrap64 ((rd x3_1 t154) + 1)))))); refine Qch (t:=3) (p:=37) (v := ?vo_w21) (w1:=(w17.setCell ⟨go14,(t154 : Int).toNat,none⟩ (.int .i64 (wrap64 ((rd x3_1 t154) + 1))))) ?hg ?ho ?hn ?hr ?_; (case ho => rfl); (case hg => rfl); (case hn => rfl); (case hr => first | (go_simp; done) | (go_simp; rfl)); intro w21 hw; have hg : w17.grownBy w21 (some go14):=(by rw [hw]; exact HP20.2); have hp_ : Kd.R (Kd.int .i64) 3 w21 w.heap.size (fun _ => True) (.slice (some ⟨go14,0,none⟩) x3_1.length co19) y157:=(by rw [hw,Ny157.out]; exact HP20.1); clear HP20; replace BK153:=Zz.k (blk_grown (kk BK153) hg (Kd.R_ne HO_3.out BK153.out (by decide))); replace HO_3:=Zz.k (hp_); replace HB:=Zz.k ((by rw [hw]; exact below_set (HB.out) GB14.out : Below w.heap.size w w21)); clear hg hw hp_)); try go_wp2_with (first | ((with_reducible refine Qaf (N:=5) rfl ?_); refine bx 5 #[.int .i64 0, .int .i64 0, .int .i64 0, .int .i64 0, .int .i64 0, .int .i64 0, .string (⟨#[]⟩ : ByteArray), .slice none 0 0, .int .i64 0, .int .i64 0, .int .i64 0] 32 (h := ?_); intro gb153 hg w15 hbox hb; have BK153:=Zz.k (hbox); have GW153:=bz HB hg; have GE153:=bz HB hg; replace HO_3:=rb HO_3 hb; replace HB:=bs HB hb; clear hb hbox hg; obtain ⟨_,_,_,_,_,_,_,_,_,_,_,_,_,_,_,_,_,_,_,_,_,_⟩:=kc11 BK153) | (go_at_call 62; (with_reducible refine (tree_Find.calls _ _ l0 ((Qar l0 x12_1).f6) ((Qar l0 x12_1).f7) t154 _ ?side1 ?side2 A10.out).mono ?_); (case side1 => exact Kd.C_below HR0.out (bw HB)); (case side2 => exact HC0.out); rintro e w17 ⟨rfl,hb⟩; replace HO_3:=Zz.k (Kd.R_below (by (with_reducible repeat (first | apply Kd.R_alloc | apply Kd.R_drewN | apply Kd.R_drew)); exact (Kd.R_mono (rf11 (Kd.R_types HO_3.out BK153.out (by decide))) (fun _ h_ => h_.1))) hb); replace BK153:=Zz.k (blk_below (bp11 (kk BK153)) hb); replace HB:=bs HB hb; clear hb; obtain ⟨_,_,_,_,_,_,_,_,_,_,_,_,_,_,_,_,_,_,_,_,_,_⟩:=kc11 BK153; obtain ⟨Ao19,co19,eo19⟩:=Kd.R_slice HO_3.out; subst eo19; have p155 : 0 <= (t154 : Int):=od; have q155 : t154 < (x3_1.length : Int):=od; obtain ⟨ad155,e155,hx155_0⟩:=Kd.at_int (Kd.R_reads' HO_3.out).2.2 t154 p155 q155; cases e155; replace p155:=eq_true p155; replace q155:=eq_true q155; have p156 : 0 <= (t154 : Int):=od; have q156 : t154 < (x3_1.length : Int):=od; obtain ⟨ad156,e156,hx156_0⟩:=Kd.at_int (Kd.R_reads' HO_3.out).2.2 t154 p156 q156; obtain rfl : ad155 = ad156:=(by injection e156); replace p156:=eq_true p156; replace q156:=eq_true q156; have p14 : 0 <= (t154 : Int):=od; have q14 : (t154 : Int) < ((x3_1.length : Int) : Int):=od; obtain ⟨go14,co14,eo14,gb14,gl14,cl14,HG14⟩:=Kd.R_form HO_3.out (by omega); (first | cases eo14 | (injection eo14 with ea_ en_ ec_; (first | subst ea_ | (injection ea_ with ea_; subst ea_)); subst ec_; clear en_)); have GB14:=Zz.k gb14; have GG14:=Zz.k HG14; clear gb14 gl14 HG14; (first | simp only [Qbu] at hx155_0 | skip); (first | simp only [Qbu] at hx156_0 | skip); obtain ⟨hx14_0,hf14_0⟩:=Kd.R_celln 0 HO_3.out (t154 : Int) p14 q14; replace p14:=eq_true p14; replace q14:=eq_true q14; obtain ⟨hy20_,hz20_⟩:=Kd.R_celln 0 HO_3.out (t154 : Int) (od) (od); have HP20:=Kd.R_putg HO_3.out (t154 : Int) (wrap64 ((rd x3_1 t154) + 1))) | ((with_reducible refine gate_store (t:=3) (p:=37) rfl ?_); (try (rw [drewN_self w17]; generalize hq_ : World.drewN w17 _ = w17; have n0_:=Zz.k (Kd.R_at hq_ HO_3.out); have n1_:=Zz.k (blk_at hq_ BK153.out); have n2_:=Zz.k (below_at hq_ HB.out); clear hq_ HO_3 BK153 HB; have HO_3:=n0_; have BK153:=n1_; have HB:=n2_; clear n0_ n1_ n2_; (try (obtain ⟨hy20_,hz20_⟩:=Kd.R_celln 0 HO_3.out (t154 : Int) (od) (od))); (try (have HP20:=Kd.R_putg HO_3.out (t154 : Int) (wrap64 ((rd x3_1 t154) + 1)))))); refine Qch (t:=3) (p:=37) (v := ?vo_w21) (w1:=(w17.setCell ⟨go14,(t154 : Int).toNat,none⟩ (.int .i64 (wrap64 ((rd x3_1 t154) + 1))))) ?hg ?ho ?hn ?hr ?_; (case ho => rfl); (case hg => rfl); (case hn => rfl); (case hr => first | (go_simp; done) | (go_simp; rfl)); intro w21 hw; have hg : w17.grownBy w21 (some go14):=(by rw [hw]; exact HP20.2); have hp_ : Kd.R (Kd.int .i64) 3 w21 w.heap.size (fun _ => True) (.slice (some ⟨go14,0,none⟩) x3_1.length co19) y157:=(by rw [hw,Ny157.out]; exact HP20.1); clear HP20; replace BK153:=Zz.k (blk_grown (kk BK153) hg (Kd.R_ne HO_3.out BK153.out (by decide))); replace HO_3:=Zz.k (hp_); replace HB:=Zz.k ((by rw [hw]; exact below_set (HB.out) GB14.out : Below w.heap.size w w21)); clear hg hw hp_)))
   go_roundg k1
   case measure => have:=HK1.out; omega
   case rel => exact ⟨(y157),(wrap64 (x12_1 + 1)),rf,H',⟨by have:=HK1.out; omega⟩,⟨rk HO_3⟩,⟨bw HB⟩⟩
def doc_Works.l0 : Nat -> List (SOp) -> List Bool -> List Int -> Int -> Int -> Option (List Bool)
 | 0,_,_,_,_,_ => none
 | k + 1,x0,x3,x10,x11,x12 => if x12 < x11 then (if 0 <= x12 then (if x12 < (x10.length : Int) then (if x12 < (x0.length : Int) then (if ((Qar x0 x12).f2) = 1 then (if x12 < (x3.length : Int) then (doc_Works.l0 k x0 (x3.set (x12 : Int).toNat ((Int.tmod (rd x10 x12) 2) == 0)) x10 x11 (wrap64 (x12 + 1))) else (none)) else (if x12 < (x3.length : Int) then (doc_Works.l0 k x0 (x3.set (x12 : Int).toNat false) x10 x11 (wrap64 (x12 + 1))) else (none))) else (none)) else (none)) else (none)) else (some x3)
def doc_Works.f (k : Nat) (l0 : List (SOp)) : Option (List Bool):=if 0 <= (l0.length : Int) then (if ((l0.length : Int) : Int).toNat <= 281474976710656 then ((doc_Counts.f k l0).bind fun t161 => (doc_Works.l0 k l0 (List.replicate ((l0.length : Int) : Int).toNat false) t161 (t161.length : Int) 0)) else (none)) else (none)
theorem doc_Works.calls (k : Nat) (A0 : Option Addr) (c0 : Nat) (l0 : List (SOp)) (r : List Bool) (w : World) (hr0 : Kd.C kOp w A0 l0.length l0) (hc0 : l0.length <= c0) (h : doc_Works.f k l0 = some r) :
  Calls Try.prog 26 #[.slice A0 l0.length c0] w fun e w' => ∃ v0_ : Value,e = .returned (v0_) /\ Kd.R Kd.bool 4 w' w.heap.size (fun _ => True) v0_ r /\ Below w.heap.size w w':=by
 have HR0:=Zz.k hr0
 have HC0:=Zz.k hc0
 clear hr0 hc0
 have HB:=Zz.k (Below.refl w.heap.size w)
 unfold doc_Works.f at h; have H:=h
 clear h
 by_cases c2 : 0 <= (l0.length : Int); rotate_left
 ·rw [if_neg c2] at H
  exact absurd H (by simp)
 rw [if_pos c2] at H
 have c2b0:=eq_true c2
 have c2b1:=Zd c2
 clear c2
 by_cases c3 : ((l0.length : Int) : Int).toNat <= 281474976710656; rotate_left
 ·rw [if_neg c3] at H
  exact absurd H (by simp)
 rw [if_pos c3] at H
 have c3b0:=eq_true c3
 have c3b1:=Zd c3
 clear c3
 obtain ⟨y158,hy158⟩ : ∃ y_ : List Bool,y_ = (List.replicate ((l0.length : Int) : Int).toNat false):=⟨_,rfl⟩
 first | rw [Option.bind_some,<- hy158] at H | rw [<- hy158] at H
 have Ny158:=Zz.k hy158
 clear hy158
 obtain ⟨t161,A4,H⟩:=bE H
 have H':=Zz.k H
 clear H
 go_enter Try.func26,Try.ntmps26
 go_wp2_with (first | ((with_reducible refine Qaf (N:=8) rfl ?_); refine Kd.R_make Kd.bool _ 4 rfl (N:=8) rfl 64 _ _ rfl (l0.length : Int) rfl rfl Try.underlying64 (.bool false) 1 info4 rfl (by decide) (by omega) false (ok:=fun _ => True) (okp:=fun _ => True) rfl (fun _ hk => hk) trivial (od) (Nat.le_trans (Nat.mul_le_mul_right _ (od : (l0.length : Int).toNat <= 281474976710656)) (by omega)) (Below.refl _ _) (Nat.le_refl _) ?_; intro v159 w5 ho6 hb hg_ hnew_; clear hg_ hnew_; (first | rw [<- Ny158.out] at ho6 | (simp only [Int.reduceToNat] at ho6; rw [<- Ny158.out] at ho6)); have HO160:=Zz.k (Kd.R_lower ho6 (Qap (bw HB))); replace HB:=bs HB hb; clear hb ho6) | ((with_reducible refine Qac (f:=45) rfl ?_); refine gl (some 10) Try.func45 #[.slice A0 l0.length c0] (h := ?_); (with_reducible refine (doc_Counts.calls k _ _ l0 t161 _ ?side1 ?side2 A4.out).mono ?_); (case side1 => exact cb HR0 HB); (case side2 => exact HC0.out); rintro e w7 ⟨v162,rfl,ho0,hb⟩; refine ⟨_,rfl, ?_⟩; have HO163:=Zz.k (Kd.R_lower ho0 (Qap (bw HB))); replace HO160:=rb HO160 hb; replace HB:=bs HB hb; clear hb; clear ho0; obtain ⟨Ao8,co8,eo8⟩:=Kd.R_slice HO163.out; subst eo8))
 go_loopg [12] k (fun kq v12 w' => ∃ (x3_1 : List Bool) (x12_1 : Int),v12 = .int .i64 x12_1 /\ Zz (doc_Works.l0 kq l0 x3_1 t161 (t161.length : Int) x12_1 = some r) /\ Zz (kq <= k) /\ Zz (Kd.R Kd.bool 4 w' w.heap.size (fun _ => True) v159 x3_1) /\ Zz (Kd.R (Kd.int .i64) 3 w' w.heap.size (fun _ => True) (.slice Ao8 t161.length co8) t161) /\ Zz (Below w.heap.size w w'))
 case atStart => exact ⟨(y158),(0),rf,H',⟨Nat.le_refl _⟩,⟨rk HO160⟩,⟨rk HO163⟩,⟨bw HB⟩⟩
 case round =>
  clear H'
  try clear c2b0; try clear c2b1; try clear c3b0; try clear c3b1
  obtain ⟨x3_1,x12_1,rfl,HA,HK1,HO_3,HO_10,HB⟩:=hrel
  cases gk with
  | zero => exact absurd HA.out (by simp [doc_Works.l0])
  | succ k1 =>
   have H:=HA.out
   clear HA
   simp only [doc_Works.l0] at H
   by_cases c9 : x12_1 < (t161.length : Int); rotate_left
   ·rw [if_neg c9] at H
    have c9b0:=Ze c9
    clear c9
    obtain rfl:=Zo H
    go_wp2
    go_ret
    exact ⟨_,re,by (with_reducible repeat (first | apply Kd.R_alloc | apply Kd.R_drewN | apply Kd.R_drew)); exact HO_3.out,bw HB⟩
   rw [if_pos c9] at H
   have c9b0:=Zd c9
   clear c9
   by_cases c10 : 0 <= x12_1; rotate_left
   ·rw [if_neg c10] at H
    exact absurd H (by simp)
   rw [if_pos c10] at H
   have c10b0:=Zd c10
   clear c10
   by_cases c11 : x12_1 < (t161.length : Int); rotate_left
   ·rw [if_neg c11] at H
    exact absurd H (by simp)
   rw [if_pos c11] at H
   have c11b0:=Zd c11
   clear c11
   by_cases c12 : x12_1 < (l0.length : Int); rotate_left
   ·rw [if_neg c12] at H
    exact absurd H (by simp)
   rw [if_pos c12] at H
   have c12b0:=Zd c12
   clear c12
   by_cases c13 : ((Qar l0 x12_1).f2) = 1
   ·rw [if_pos c13] at H
    obtain ⟨c13b0,c13b1⟩:=bT c13
    clear c13
    by_cases c14 : x12_1 < (x3_1.length : Int); rotate_left
    ·rw [if_neg c14] at H
     exact absurd H (by simp)
    rw [if_pos c14] at H
    have c14b0:=Zd c14
    clear c14
    obtain ⟨y166,hy166⟩ : ∃ y_ : List Bool,y_ = (x3_1.set (x12_1 : Int).toNat ((Int.tmod (rd t161 x12_1) 2) == 0)):=⟨_,rfl⟩
    first | rw [Option.bind_some,<- hy166] at H | rw [<- hy166] at H
    have Ny166:=Zz.k hy166
    clear hy166
    have H':=Zz.k H
    clear H
    have p164 : 0 <= (x12_1 : Int):=od
    have q164 : x12_1 < (t161.length : Int):=od
    obtain ⟨ad164,e164,hx164_0⟩:=Kd.at_int (Kd.R_reads' HO_10.out).2.2 x12_1 p164 q164
    cases e164
    replace p164:=eq_true p164
    replace q164:=eq_true q164
    have p165 : 0 <= (x12_1 : Int):=od
    have q165 : x12_1 < (l0.length : Int):=od
    obtain ⟨ad165,A165_7,c165_7,e165,hx165_0,hx165_1,hx165_2,hx165_3,hx165_4,hx165_5,hx165_6,hx165_7,hx165_8,hx165_9,hx165_10,hl165_7,hi165_7⟩:=at_Op HR0.out x12_1 p165 q165
    cases e165
    replace hx165_0:=cl HB hx165_0
    replace hx165_1:=cl HB hx165_1
    replace hx165_2:=cl HB hx165_2
    replace hx165_3:=cl HB hx165_3
    replace hx165_4:=cl HB hx165_4
    replace hx165_5:=cl HB hx165_5
    replace hx165_6:=cl HB hx165_6
    replace hx165_7:=cl HB hx165_7
    replace hx165_8:=cl HB hx165_8
    replace hx165_9:=cl HB hx165_9
    replace hx165_10:=cl HB hx165_10
    have HR165_7:=Zz.k hi165_7
    have HC165_7:=Zz.k hl165_7
    clear hi165_7 hl165_7
    replace p165:=eq_true p165
    replace q165:=eq_true q165
    have p15 : 0 <= (x12_1 : Int):=od
    have q15 : (x12_1 : Int) < ((x3_1.length : Int) : Int):=od
    obtain ⟨go15,co15,eo15,gb15,gl15,cl15,HG15⟩:=Kd.R_form HO_3.out (by omega)
    (first | cases eo15 | (injection eo15 with ea_ en_ ec_; (first | subst ea_ | (injection ea_ with ea_; subst ea_)); subst ec_; clear en_))
    have GB15:=Zz.k gb15
    have GG15:=Zz.k HG15
    clear gb15 gl15 HG15
    obtain ⟨hx15_0,hf15_0⟩:=Kd.R_celln false HO_3.out (x12_1 : Int) p15 q15
    replace p15:=eq_true p15
    replace q15:=eq_true q15
    have HP16:=Kd.R_putg HO_3.out (x12_1 : Int) ((Int.tmod (rd t161 x12_1) 2) == 0)
    go_wp2_with (first | ((with_reducible refine gate_store (t:=4) (p:=30) rfl ?_); refine Qch (t:=4) (p:=30) (v := ?vo_w17) (w1:=(wr.setCell ⟨go15,(x12_1 : Int).toNat,none⟩ (.bool ((Int.tmod (rd t161 x12_1) 2) == 0)))) ?hg ?ho ?hn ?hr ?_; (case ho => rfl); (case hg => rfl); (case hn => rfl); (case hr => first | (go_simp; done) | (go_simp; rfl)); intro w17 hw; have hg : wr.grownBy w17 (some go15):=(by rw [hw]; exact HP16.2); have hp_ : Kd.R Kd.bool 4 w17 w.heap.size (fun _ => True) (.slice (some ⟨go15,0,none⟩) x3_1.length co15) y166:=(by rw [hw,Ny166.out]; exact HP16.1); clear HP16; replace HO_10:=Zz.k (Kd.R_over' (v:=(.slice (some ⟨go15,0,none⟩) x3_1.length co15)) (rk HO_10) (Kd.R_typed HO_3.out) (by decide) hg); replace HO_3:=Zz.k (hp_); replace HB:=Zz.k ((by rw [hw]; exact below_set (HB.out) GB15.out : Below w.heap.size w w17)); clear hg hw hp_))
    go_roundg k1
    case measure => have:=HK1.out; omega
    case rel => exact ⟨(y166),(wrap64 (x12_1 + 1)),rf,H',⟨by have:=HK1.out; omega⟩,⟨rk HO_3⟩,⟨rk HO_10⟩,⟨bw HB⟩⟩
   rw [if_neg c13] at H
   obtain ⟨c13b0,c13b1⟩:=bF c13
   by_cases c18 : x12_1 < (x3_1.length : Int); rotate_left
   ·rw [if_neg c18] at H
    exact absurd H (by simp)
   rw [if_pos c18] at H
   have c18b0:=Zd c18
   clear c18
   obtain ⟨y167,hy167⟩ : ∃ y_ : List Bool,y_ = (x3_1.set (x12_1 : Int).toNat false):=⟨_,rfl⟩
   first | rw [Option.bind_some,<- hy167] at H | rw [<- hy167] at H
   have Ny167:=Zz.k hy167
   clear hy167
   have H':=Zz.k H
   clear H
   have p164 : 0 <= (x12_1 : Int):=od
   have q164 : x12_1 < (t161.length : Int):=od
   obtain ⟨ad164,e164,hx164_0⟩:=Kd.at_int (Kd.R_reads' HO_10.out).2.2 x12_1 p164 q164
   cases e164
   replace p164:=eq_true p164
   replace q164:=eq_true q164
   have p165 : 0 <= (x12_1 : Int):=od
   have q165 : x12_1 < (l0.length : Int):=od
   obtain ⟨ad165,A165_7,c165_7,e165,hx165_0,hx165_1,hx165_2,hx165_3,hx165_4,hx165_5,hx165_6,hx165_7,hx165_8,hx165_9,hx165_10,hl165_7,hi165_7⟩:=at_Op HR0.out x12_1 p165 q165
   cases e165
   replace hx165_0:=cl HB hx165_0
   replace hx165_1:=cl HB hx165_1
   replace hx165_2:=cl HB hx165_2
   replace hx165_3:=cl HB hx165_3
   replace hx165_4:=cl HB hx165_4
   replace hx165_5:=cl HB hx165_5
   replace hx165_6:=cl HB hx165_6
   replace hx165_7:=cl HB hx165_7
   replace hx165_8:=cl HB hx165_8
   replace hx165_9:=cl HB hx165_9
   replace hx165_10:=cl HB hx165_10
   have HR165_7:=Zz.k hi165_7
   have HC165_7:=Zz.k hl165_7
   clear hi165_7 hl165_7
   replace p165:=eq_true p165
   replace q165:=eq_true q165
   have p19 : 0 <= (x12_1 : Int):=od
   have q19 : (x12_1 : Int) < ((x3_1.length : Int) : Int):=od
   obtain ⟨go19,co19,eo19,gb19,gl19,cl19,HG19⟩:=Kd.R_form HO_3.out (by omega)
   (first | cases eo19 | (injection eo19 with ea_ en_ ec_; (first | subst ea_ | (injection ea_ with ea_; subst ea_)); subst ec_; clear en_))
   have GB19:=Zz.k gb19
   have GG19:=Zz.k HG19
   clear gb19 gl19 HG19
   obtain ⟨hx19_0,hf19_0⟩:=Kd.R_celln false HO_3.out (x12_1 : Int) p19 q19
   replace p19:=eq_true p19
   replace q19:=eq_true q19
   have HP20:=Kd.R_putg HO_3.out (x12_1 : Int) false
   go_wp2_with (first | ((with_reducible refine gate_store (t:=4) (p:=30) rfl ?_); refine Qch (t:=4) (p:=30) (v := ?vo_w21) (w1:=(wr.setCell ⟨go19,(x12_1 : Int).toNat,none⟩ (.bool false))) ?hg ?ho ?hn ?hr ?_; (case ho => rfl); (case hg => rfl); (case hn => rfl); (case hr => first | (go_simp; done) | (go_simp; rfl)); intro w21 hw; have hg : wr.grownBy w21 (some go19):=(by rw [hw]; exact HP20.2); have hp_ : Kd.R Kd.bool 4 w21 w.heap.size (fun _ => True) (.slice (some ⟨go19,0,none⟩) x3_1.length co19) y167:=(by rw [hw,Ny167.out]; exact HP20.1); clear HP20; replace HO_10:=Zz.k (Kd.R_over' (v:=(.slice (some ⟨go19,0,none⟩) x3_1.length co19)) (rk HO_10) (Kd.R_typed HO_3.out) (by decide) hg); replace HO_3:=Zz.k (hp_); replace HB:=Zz.k ((by rw [hw]; exact below_set (HB.out) GB19.out : Below w.heap.size w w21)); clear hg hw hp_))
   go_roundg k1
   case measure => have:=HK1.out; omega
   case rel => exact ⟨(y167),(wrap64 (x12_1 + 1)),rf,H',⟨by have:=HK1.out; omega⟩,⟨rk HO_3⟩,⟨rk HO_10⟩,⟨bw HB⟩⟩
def op_All.l0 : Nat -> List (SElem) -> Int -> Int -> Int -> Int -> Int -> Int -> Int -> Int -> ByteArray -> List (SElem) -> Int -> Int -> Int -> Option ((List (SElem)))
 | 0,_,_,_,_,_,_,_,_,_,_,_,_,_,_ => none
 | k + 1,x2,x5,x6,x169000,x169001,x169002,x169003,x169004,x169005,x169006,x169007,x169008,x169009,x169010 => if x6 < x5 then ((op_At.f x169000 x169001 x169002 x169003 x169004 x169005 x169006 x169007 x169008 x169009 x169010 x6).bind fun bt170 => (if x2.length < 5864062014805 then (op_All.l0 k (x2 ++ [(⟨bt170.1,bt170.2.1,bt170.2.2⟩ : SElem)]) x5 (wrap64 (x6 + 1)) x169000 x169001 x169002 x169003 x169004 x169005 x169006 x169007 x169008 x169009 x169010) else (none))) else (some x2)
def op_All.f (k : Nat) (a0_0 : Int) (a0_1 : Int) (a0_2 : Int) (a0_3 : Int) (a0_4 : Int) (a0_5 : Int) (a0_6 : ByteArray) (l0_7 : List (SElem)) (a0_8 : Int) (a0_9 : Int) (a0_10 : Int) : Option ((List (SElem))):=(op_Size.f a0_0 a0_1 a0_2 a0_3 a0_4 a0_5 a0_6 l0_7 a0_8 a0_9 a0_10).bind fun t169 => (op_All.l0 k ([] : List (SElem)) t169 0 a0_0 a0_1 a0_2 a0_3 a0_4 a0_5 a0_6 l0_7 a0_8 a0_9 a0_10)
theorem op_All.calls (k : Nat) (a0_0 : Int) (a0_1 : Int) (a0_2 : Int) (a0_3 : Int) (a0_4 : Int) (a0_5 : Int) (a0_6 : ByteArray) (A0_7 : Option Addr) (c0_7 : Nat) (l0_7 : List (SElem)) (a0_8 : Int) (a0_9 : Int) (a0_10 : Int) (r : List (SElem)) (w : World) (hr0_7 : Kd.C Qaw w A0_7 l0_7.length l0_7) (hc0_7 : l0_7.length <= c0_7) (h : op_All.f k a0_0 a0_1 a0_2 a0_3 a0_4 a0_5 a0_6 l0_7 a0_8 a0_9 a0_10 = some r) :
  Calls Try.prog 27 #[.agg #[.int .i64 a0_0, .int .i64 a0_1, .int .i64 a0_2, .int .i64 a0_3, .int .i64 a0_4, .int .i64 a0_5, .string a0_6, .slice A0_7 l0_7.length c0_7, .int .i64 a0_8, .int .i64 a0_9, .int .i64 a0_10]] w fun e w' => ∃ v0_ : Value,e = .returned (v0_) /\ Kd.R Qaw 30 w' w.heap.size (fun _ => True) v0_ r /\ Below w.heap.size w w':=by
 have hu32:=Try.underlying32
 have HR0_7:=Zz.k hr0_7
 have HC0_7:=Zz.k hc0_7
 clear hr0_7 hc0_7
 have HB:=Zz.k (Below.refl w.heap.size w)
 unfold op_All.f at h; have H:=h
 clear h
 obtain ⟨t169,A2,H⟩:=bE H
 have H':=Zz.k H
 clear H
 go_enter Try.func27,Try.ntmps27
 go_wp2_with (first | ((with_reducible refine Qaf (N:=1) rfl ?_); refine bx 1 #[.int .i64 a0_0, .int .i64 a0_1, .int .i64 a0_2, .int .i64 a0_3, .int .i64 a0_4, .int .i64 a0_5, .string a0_6, .slice A0_7 l0_7.length c0_7, .int .i64 a0_8, .int .i64 a0_9, .int .i64 a0_10] 32 (h := ?_); intro gb168 hg w3 hbox hb; have BK168:=Zz.k (hbox); have GW168:=bz HB hg; have GE168:=bz HB hg; replace HB:=bs HB hb; clear hb hbox hg; obtain ⟨_,_,_,_,_,_,_,_,_,_,_,_,_,_,_,_,_,_,_,_,_,_⟩:=kc11 BK168) | ((with_reducible refine Qac (f:=42) rfl ?_); refine gl (some 5) Try.func42 #[.agg #[.int .i64 a0_0, .int .i64 a0_1, .int .i64 a0_2, .int .i64 a0_3, .int .i64 a0_4, .int .i64 a0_5, .string a0_6, .slice A0_7 l0_7.length c0_7, .int .i64 a0_8, .int .i64 a0_9, .int .i64 a0_10]] (h := ?_); (with_reducible refine (op_Size.calls a0_0 a0_1 a0_2 a0_3 a0_4 a0_5 a0_6 _ _ l0_7 a0_8 a0_9 a0_10 t169 _ ?side1 ?side2 A2.out).mono ?_); (case side1 => exact cb HR0_7 HB); (case side2 => exact HC0_7.out); rintro e w5 ⟨rfl,hb⟩; refine ⟨_,rfl, ?_⟩; replace BK168:=bl BK168 hb; replace HB:=bs HB hb; clear hb))
 go_loopg [2,6] k (fun kq v2 v6 w' => ∃ (x2_1 : List (SElem)) (x6_1 : Int),v6 = .int .i64 x6_1 /\ Zz (op_All.l0 kq x2_1 t169 x6_1 a0_0 a0_1 a0_2 a0_3 a0_4 a0_5 a0_6 l0_7 a0_8 a0_9 a0_10 = some r) /\ Zz (kq <= k) /\ Zz (Kd.R Qaw 30 w' w.heap.size (fun _ => True) v2 x2_1) /\ Zz (w'.heap[gb168]? = some (.cells #[.int .i64 a0_0, .int .i64 a0_1, .int .i64 a0_2, .int .i64 a0_3, .int .i64 a0_4, .int .i64 a0_5, .string a0_6,(.slice A0_7 l0_7.length c0_7), .int .i64 a0_8, .int .i64 a0_9, .int .i64 a0_10] 32 (0,0))) /\ Zz (Below w.heap.size w w'))
 case atStart => exact ⟨(([] : List (SElem))),(0),rf,H',⟨Nat.le_refl _⟩,⟨by first | exact Kd.R_nil _ _ _ _ _ | exact Kd.N_nil _ _ _ _ _ | exact Kd.V_nil _ _ _ _ _ | exact Kd.Q_nil _ _ _ _ _ | exact Kd.S_nil _ _ _ _ _⟩,⟨kk BK168⟩,⟨bw HB⟩⟩
 case round =>
  clear H'
  obtain ⟨x2_1,x6_1,rfl,HA,HK1,HO_2,BK168,HB⟩:=hrel
  cases gk with
  | zero => exact absurd HA.out (by simp [op_All.l0])
  | succ k1 =>
   have H:=HA.out
   clear HA
   simp only [op_All.l0] at H
   by_cases c6 : x6_1 < t169; rotate_left
   ·rw [if_neg c6] at H
    have c6b0:=Ze c6
    clear c6
    obtain rfl:=Zo H
    go_wp2
    go_ret
    exact ⟨_,re,by (with_reducible repeat (first | apply Kd.R_alloc | apply Kd.R_drewN | apply Kd.R_drew)); exact HO_2.out,bw HB⟩
   rw [if_pos c6] at H
   have c6b0:=Zd c6
   clear c6
   obtain ⟨⟨t170,t171,t172⟩,A7,H⟩:=bE H
   try dsimp only at H
   by_cases c8 : x2_1.length < 5864062014805; rotate_left
   ·rw [if_neg c8] at H
    exact absurd H (by simp)
   rw [if_pos c8] at H
   have LMc8:=Zz.k c8
   clear c8
   obtain ⟨y173,hy173⟩ : ∃ y_ : List (SElem),y_ = (x2_1 ++ [(⟨t170,t171,t172⟩ : SElem)]):=⟨_,rfl⟩
   first | rw [Option.bind_some,<- hy173] at H | rw [<- hy173] at H
   have Ny173:=Zz.k hy173
   clear hy173
   have H':=Zz.k H
   clear H
   obtain ⟨_,_,_,_,_,_,_,_,_,_,_,_,_,_,_,_,_,_,_,_,_,_⟩:=kc11 BK168
   go_wp2_with (first | ((with_reducible refine Qac (f:=46) rfl ?_); refine gl (some 12) Try.func46 #[.agg #[.int .i64 a0_0, .int .i64 a0_1, .int .i64 a0_2, .int .i64 a0_3, .int .i64 a0_4, .int .i64 a0_5, .string a0_6, .slice A0_7 l0_7.length c0_7, .int .i64 a0_8, .int .i64 a0_9, .int .i64 a0_10], .int .i64 x6_1] (h := ?_); (with_reducible refine (op_At.calls a0_0 a0_1 a0_2 a0_3 a0_4 a0_5 a0_6 _ _ l0_7 a0_8 a0_9 a0_10 x6_1 t170 t171 t172 _ ?side1 ?side2 A7.out).mono ?_); (case side1 => exact cb HR0_7 HB); (case side2 => exact HC0_7.out); rintro e w10 ⟨rfl,hb⟩; refine ⟨_,rfl, ?_⟩; replace HO_2:=rb HO_2 hb; replace BK168:=bl BK168 hb; replace HB:=bs HB hb; clear hb) | ((with_reducible refine gate_builtin (b:=.append) (xs:=#[.tmp 9, .tmp 13]) rfl ?_); at_builtin; refine Kd.R_append Qaw (w0:=w) w.heap.size rfl (.tmp 9) (.tmp 13) 23 30 (.agg #[(.int .i64 0),(.int .i64 0),(.int .i64 0)]) 24 rfl Try.underlying23 info30 rfl (by decide) (by omega) u2 x2_1 (⟨t170,t171,t172⟩ : SElem) [.int .i64 t170, .int .i64 t171, .int .i64 t172] (fun _ => True) (fun _ => False) rfl rfl ?aP (fun _ hk => hk.elim) ?aF ?aO ?aB ?aS ?aL ?_; (case aP => exact kElem_mkM _ _ _ (⟨t170,t171,t172⟩ : SElem)); (case aB => exact (bw HB)); (case aF => exact (fun _ _ => trivial)); (case aO => exact (rk HO_2)); (case aS => exact (Qap (bw HB))); (case aL => have:=LMc8.out; omega); intro v174 w11 ho hb hg hat; rw [<- Ny173.out] at ho; have n0_:=Zz.k (blk_grown (kk BK168) hg (Kd.R_ne HO_2.out BK168.out (by decide))); have n1_:=Zz.k (hb); have n2_:=Zz.k (ho); clear BK168; clear HB; clear HO_2; have BK168:=n0_; have HB:=n1_; have HO175:=n2_; clear n0_ n1_ n2_; clear ho hb hg hat))
   go_roundg k1
   case measure => have:=HK1.out; omega
   case rel => exact ⟨(y173),(wrap64 (x6_1 + 1)),rf,H',⟨by have:=HK1.out; omega⟩,⟨rk HO175⟩,⟨kk BK168⟩,⟨bw HB⟩⟩
end
section
def InB (n : List Int) (b : Int) : Prop:=∀ x ∈ n,0 <= x /\ x <= b
theorem cstep_bound (l : List SOp) {n : List Int} {b : Int} (h : InB n b) (hb : 0 <= b) (o : SOp) : InB (cstep l n o) (b + 1):=by
 have hd : 0 <= n.getD (Qay l o.f6 o.f7).toNat 0 /\ n.getD (Qay l o.f6 o.f7).toNat 0 <= b:=by
  rw [List.getD_eq_getElem?_getD]
  cases hq : n[(Qay l o.f6 o.f7).toNat]? with
  | none => exact ⟨Int.le_refl _,hb⟩
  | some y => exact h y (List.mem_of_getElem? hq)
 unfold cstep
 split
 ·split
  ·intro x hx
   rcases List.mem_or_eq_of_mem_set hx with hx | rfl
   ·have:=h x hx; omega
   ·omega
  ·intro x hx; have:=h x hx; omega
 ·intro x hx; have:=h x hx; omega
theorem tree_Find_f {l : List SOp} (hl : l.length <= 1000000) (a b : Int) : tree_Find.f l a b = some (Qay l a b):=by unfold tree_Find.f; rw [if_pos (by omega)]
theorem Counts_loop {l : List SOp} (h : RowOk l) : ∀ d i,i + d = l.length -> ∀ n : List Int,n.length = l.length -> InB n (i : Int) -> (l.take i).foldl (cstep l) (List.replicate l.length 0) = n -> Ev (fun k => doc_Counts.l0 k l n l (l.length : Int) (i : Int)) (countsL l)
 | 0,i,hi,n,hn,hb,hf => by
  rw [List.take_of_length_le (by omega)] at hf
  have : countsL l = n:=hf
  rw [this]
  refine Ev.step (f:=fun _ => some n) (fun k => ?_) (Ev.now _)
  simp only [doc_Counts.l0]
  rw [if_neg (by omega)]
 | d + 1,i,hi,n,hn,hb,hf => by
  have hlt : i < l.length:=by omega
  have h40:=h.sums.1
  have ih:=Counts_loop h d (i + 1) (by omega) (cstep l n l[i]) (by rw [cstep_length]; exact hn) (by have:=cstep_bound l hb (by omega) l[i]; simpa using this) (by
   rw [List.take_succ_eq_append_getElem hlt,List.foldl_append,hf]; rfl)
  refine Ev.step (fun k => ?_) ih
  simp only [doc_Counts.l0]
  rw [if_pos (by omega),if_pos (by omega),if_pos (by omega),Qax _ _ hlt,wrapS hlt (by omega)]
  by_cases h2 : l[i].f2 = 2
  ·obtain ⟨j,hj,_,_,_,e⟩:=tog_found h (List.getElem_mem hlt) h2
   have hd : 0 <= n.getD j 0 /\ n.getD j 0 <= (i : Int):=by
    rw [List.getD_eq_getElem?_getD]
    cases hq : n[j]? with
    | none => exact ⟨Int.le_refl _,by simp⟩
    | some y => exact hb y (List.mem_of_getElem? hq)
   rw [if_pos h2,tree_Find_f (by omega),Option.bind_some]
   unfold cstep
   rw [if_pos h2,e]
   rw [if_pos (by omega),if_pos (by omega)]
   have hrd : rd n (j : Int) = n.getD j 0:=by unfold rd; rw [Int.toNat_natCast]
   rw [hrd,Int.toNat_natCast,Qai (by omega) (by omega)]
   by_cases h8 : l[i].f8 = n.getD j 0
   ·rw [if_pos h8,if_pos h8]
   ·rw [if_neg h8,if_neg h8]
  ·rw [if_neg h2]
   unfold cstep
   rw [if_neg h2]
theorem Counts_ev {l : List SOp} (h : RowOk l) : Ev (fun k => doc_Counts.f k l) (countsL l):=by
 have h40:=h.sums.1
 refine Ev.congr (fun k => ?_) (Counts_loop h l.length 0 (Nat.zero_add _) (List.replicate l.length 0) (by simp) (fun x hx => by rw [List.eq_of_mem_replicate hx]; exact ⟨Int.le_refl _,Int.le_refl _⟩) rfl)
 unfold doc_Counts.f
 rw [if_pos (by omega),if_pos (by omega),Int.toNat_natCast]
 rfl
theorem counts_bound {l : List SOp} : InB (countsL l) (l.length : Int):=by
 have : ∀ i,i <= l.length -> InB ((l.take i).foldl (cstep l) (List.replicate l.length 0)) (i : Int):=by
  intro i
  induction i with
  | zero => intro _ x hx; rw [List.eq_of_mem_replicate hx]; exact ⟨Int.le_refl _,Int.le_refl _⟩
  | succ i ih =>
   intro hi
   rw [List.take_succ_eq_append_getElem (by omega),List.foldl_append]
   have:=cstep_bound l (ih (by omega)) (by omega) (l[i]'(by omega))
   simpa using this
 have:=this l.length (Nat.le_refl _)
 rwa [List.take_length] at this
def worksL (l : List SOp) : List Bool:=l.map (workE l)
theorem Works_loop {l : List SOp} (h : RowOk l) : ∀ d i,i + d = l.length -> Ev (fun k => doc_Works.l0 k l ((l.take i).map (workE l) ++ List.replicate (l.length - i) false) (countsL l) (l.length : Int) (i : Int)) (worksL l)
 | 0,i,hi => by
  rw [List.take_of_length_le (by omega),show l.length - i = 0 by omega]
  simp only [List.replicate_zero,List.append_nil]
  refine Ev.step (f:=fun _ => some (worksL l)) (fun k => ?_) (Ev.now _)
  simp only [doc_Works.l0]
  rw [if_neg (by omega)]
  rfl
 | d + 1,i,hi => by
  have hlt : i < l.length:=by omega
  have h40:=h.sums.1
  have ih:=Works_loop h d (i + 1) (by omega)
  have hc:=counts_at h hlt
  have hcb : 0 <= (countsL l).getD i 0:=by
   rw [List.getD_eq_getElem?_getD]
   cases hq : (countsL l)[i]? with
   | none => exact Int.le_refl _
   | some y => exact (counts_bound y (List.mem_of_getElem? hq)).1
  have hset : ∀ b,b = workE l l[i] -> ((l.take i).map (workE l) ++ List.replicate (l.length - i) false).set i b = (l.take (i + 1)).map (workE l) ++ List.replicate (l.length - (i + 1)) false:=by
   intro b hb
   have hl : ((l.take i).map (workE l)).length = i:=by rw [List.length_map,List.length_take]; omega
   rw [List.set_append,if_neg (by omega),hl,Nat.sub_self,show l.length - i = (l.length - (i + 1)) + 1 by omega,List.replicate_succ,List.set_cons_zero,List.take_succ_eq_append_getElem hlt,List.map_append,hb]
   simp
  have hlen : (((l.take i).map (workE l) ++ List.replicate (l.length - i) false).length : Int) = l.length:=by
   rw [List.length_append,List.length_map,List.length_take,List.length_replicate]; omega
  refine Ev.step (fun k => ?_) ih
  simp only [doc_Works.l0]
  rw [hlen,if_pos (by omega),if_pos (by omega),if_pos (by rw [counts_length]; omega),if_pos (by omega),Qax _ _ hlt,wrapS hlt (by omega),Int.toNat_natCast]
  have hrd : rd (countsL l) (i : Int) = cntR l l[i].f0 l[i].f1:=by unfold rd; rw [Int.toNat_natCast,hc]
  by_cases h1 : l[i].f2 = 1
  ·rw [if_pos h1,if_pos (by omega),hset _ ?_]
   rw [hrd]
   unfold workE
   rw [<- hc,Int.tmod_eq_emod_of_nonneg hcb,h1]
   simp
  ·rw [if_neg h1,if_pos (by omega),hset _ ?_]
   unfold workE
   simp [h1]
theorem Works_ev {l : List SOp} (h : RowOk l) : Ev (fun k => doc_Works.f k l) (worksL l):=by
 have h40:=h.sums.1
 refine Ev.congr (f:=fun k => (doc_Counts.f k l).bind fun t314 => doc_Works.l0 k l (List.replicate l.length false) t314 (t314.length : Int) 0) (fun k => ?_) (Ev.bind (f:=fun k t314 => doc_Works.l0 k l (List.replicate l.length false) t314 (t314.length : Int) 0) (Counts_ev h) ?_)
 ·unfold doc_Works.f
  rw [if_pos (by omega),if_pos (by omega),Int.toNat_natCast]
 ·rw [counts_length]
  have:=Works_loop h l.length 0 (Nat.zero_add _)
  simpa using this
theorem All_loop (o : SOp) (hs : Qaj o <= 1000000) : ∀ d i,i + d = Qaj o -> Ev (fun k => op_All.l0 k ((List.range i).map fun j : Nat => (⟨o.f0,o.f1,(j : Int)⟩ : SElem)) (Qaj o : Int) (i : Int) o.f0 o.f1 o.f2 o.f3.f0 o.f3.f1 o.f3.f2 o.f4 o.f5 o.f6 o.f7 o.f8) (Qao o)
 | 0,i,hi => by
  obtain rfl : i = Qaj o:=by omega
  refine Ev.step (f:=fun _ => some (Qao o)) (fun k => ?_) (Ev.now _)
  simp only [op_All.l0]
  rw [if_neg (by omega)]
  rfl
 | d + 1,i,hi => by
  have ih:=All_loop o hs d (i + 1) (by omega)
  rw [List.range_succ,List.map_append] at ih
  refine Ev.step (fun k => ?_) ih
  simp only [op_All.l0]
  unfold op_At.f
  rw [if_pos (by omega),Option.bind_some,if_pos (by simp; omega),wrapS (show i < Qaj o by omega) (by omega)]
  rfl
theorem All_ev (o : SOp) (hs : Sm o) (h12 : Qaj o <= 1000000) : Ev (fun k => op_All.f k o.f0 o.f1 o.f2 o.f3.f0 o.f3.f1 o.f3.f2 o.f4 o.f5 o.f6 o.f7 o.f8) (Qao o):=by
 refine Ev.congr (fun k => ?_) (All_loop o h12 (Qaj o) 0 (Nat.zero_add _))
 unfold op_All.f
 rw [op_Size_f o hs,Option.bind_some]
 rfl
end
end Go.Proofs.Ytlllghajjamdpaa.L
end
