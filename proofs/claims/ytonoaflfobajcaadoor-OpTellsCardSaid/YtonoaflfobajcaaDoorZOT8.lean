/- Part 8 of the proof that for every argument the law OpTells answers true: whether any op may be, its elements, what it needs, any own element, and whether any element may be, are the page's, or the error is. -/
import Derived.Test.YtonoaflfobajcaaDoorZOT7
import Derived.Lib.RuneCountTail
section
namespace Go.Proofs.YtonoaflfobajcaaDoor.L
open Go.RowKit Go.Proofs.YtonoaflfobajcaaDoorW.PrintWords Go.Proofs.YtonoaflfobajcaaDoorW.PrintLast Go.Proofs.YtonoaflfobajcaaDoorW.PrintMore
set_option linter.unusedVariables false
set_option linter.unusedSimpArgs false
set_option maxHeartbeats 40000000
set_option maxRecDepth 1000000
section
theorem putL_mem (e : SElem) : ∀ (l : List SElem) (y : SElem),y ∈ putL l e ↔ y ∈ l \/ y = e
 | [],y => by unfold putL; simp
 | x :: r,y => by
  unfold putL
  split
  ·rw [List.mem_cons,putL_mem e r,List.mem_cons,or_assoc]
  ·split
   ·rename_i h
    subst h
    constructor
    ·exact .inl
    ·rintro (h | rfl)
     ·exact h
     ·exact List.mem_cons_self
   ·rw [List.mem_cons,or_comm]
theorem putL_asc (e : SElem) : ∀ (l : List SElem),Asc l -> Asc (putL l e)
 | [],_ => by unfold putL; exact List.pairwise_singleton _ _
 | x :: r,h => by
  obtain ⟨h1,h2⟩:=List.pairwise_cons.1 h
  unfold putL
  split
  ·rename_i hx
   refine List.pairwise_cons.2 ⟨fun y hy => ?_,putL_asc e r h2⟩
   rcases (putL_mem e r y).1 hy with hy | rfl
   ·exact h1 y hy
   ·exact hx
  ·rename_i hx
   split
   ·exact h
   ·rename_i hne
    have hex : Qaw e x = true:=by
     cases hc : Qaw e x
     ·exact absurd (el_eq (by simpa using hx) hc) hne
     ·rfl
    refine List.pairwise_cons.2 ⟨fun y hy => ?_,h⟩
    rcases List.mem_cons.1 hy with rfl | hy
    ·exact hex
    ·exact el_trans hex (h1 y hy)
theorem refPuts_asc : ∀ (g l : List SElem),Asc l -> Asc (Qcc l g)
 | [],l,h => h
 | e :: r,l,h => refPuts_asc r (putL l (z0 e)) (putL_asc _ _ h)
theorem refPuts_mem : ∀ (g l : List SElem) (y : SElem),y ∈ Qcc l g ↔ y ∈ l \/ ∃ x ∈ g,y = z0 x
 | [],l,y => by
  constructor
  ·exact .inl
  ·rintro (h | ⟨x,hx,_⟩)
   ·exact h
   ·cases hx
 | e :: r,l,y => by
  show y ∈ Qcc (putL l (z0 e)) r ↔ _
  rw [refPuts_mem r,putL_mem]
  constructor
  ·rintro ((h | rfl) | ⟨x,hx,rfl⟩)
   ·exact .inl h
   ·exact .inr ⟨e,List.mem_cons_self,rfl⟩
   ·exact .inr ⟨x,List.mem_cons_of_mem _ hx,rfl⟩
  ·rintro (h | ⟨x,hx,rfl⟩)
   ·exact .inl (.inl h)
   ·rcases List.mem_cons.1 hx with rfl | hx
    ·exact .inl (.inr rfl)
    ·exact .inr ⟨x,hx,rfl⟩
theorem opOk_kind {o : SOp} (h : opOk o = true) : (o.f2 = 1) \/ (o.f2 = 2):=by
 unfold opOk at h
 simp only [Bool.and_eq_true] at h
 by_cases h1 : o.f2 = 1
 ·exact .inl h1
 ·rw [if_neg h1] at h
  simp only [Bool.and_eq_true,beq_iff_eq] at h
  exact .inr h.2.1
theorem refNeeds_eq {o : SOp} (h : opOk o = true) : Qcd o = needsL o:=by
 refine asc_ext ?_ (needs_asc o) (fun e => ?_)
 ·unfold Qcd
  split
  ·exact List.pairwise_singleton _ _
  ·refine refPuts_asc _ _ ?_
   unfold Qbq
   split
   ·exact List.Pairwise.nil
   ·exact List.pairwise_singleton _ _
 ·rw [needs_iff h]
  unfold Qcd
  rcases opOk_kind h with h1 | h1
  ·rw [if_neg (by omega),if_pos h1,refPuts_mem]
   constructor
   ·rintro (h2 | ⟨x,hx,rfl⟩)
    ·unfold Qbq at h2
     cases hb : Qao o.f3
     ·rw [hb,if_neg (by decide),List.mem_singleton] at h2
      exact ⟨o.f3, .inr ⟨rfl,rfl⟩,h2⟩
     ·rw [hb,if_pos rfl] at h2; cases h2
    ·exact ⟨x, .inl hx,rfl⟩
   ·rintro ⟨x,hx | ⟨rfl,hb⟩,rfl⟩
    ·exact .inr ⟨x,hx,rfl⟩
    ·refine .inl ?_
     unfold Qbq
     rw [hb,if_neg (by decide)]
     exact List.mem_singleton.2 rfl
  ·rw [if_pos h1,if_neg (by omega),List.mem_singleton]
theorem refNeeds4 (o : SOp) (hl : o.f5.length <= 900000) : r4_Needs.f o.f0 o.f1 o.f2 o.f3.f0 o.f3.f1 o.f3.f2 o.f4 o.f5 o.f6 o.f7 o.f8 = some (Qcd o):=by
 show refNeedsF o = _
 unfold refNeedsF
 rw [if_pos hl]
end
section
theorem ref1_Rune_f (r : Int) : r1_Rune.f r = some (runeOk r):=by
 unfold r1_Rune.f runeOk
 by_cases h10 : r = 10
 ·simp [h10]
 ·have e10 : (r == 10) = false:=by simp [h10]
  rw [if_neg h10,e10,Bool.false_or]
  by_cases h1 : 32 <= r <;> by_cases h2 : r <= 1114111 <;> by_cases h3 : r = 127 <;> by_cases h4 : r = 65533 <;> by_cases h5 : r <= 55295 <;> by_cases h6 : 57344 <= r <;> (first | (exfalso; omega) | simp [h1,h2,h3,h4,h5,h6])
theorem decodeN_le (n b0 b1 b2 b3 : Nat) (h : 1 <= n) : (Lib.decodeN n b0 b1 b2 b3).2 <= n:=by
 unfold Lib.decodeN
 repeat' split
 all_goals (simp_all <;> omega)
theorem decode_le (s : ByteArray) (i : Nat) (h : i < s.size) : 1 <= (Utf8.decode s i).2 /\ i + (Utf8.decode s i).2 <= s.size:=by
 refine ⟨Lib.decode_width_pos s i h, ?_⟩
 rw [Lib.decode_at]
 have:=decodeN_le (s.size - i) (s.get! i).toNat (s.get! (i + 1)).toNat (s.get! (i + 2)).toNat (s.get! (i + 3)).toNat (by omega)
 omega
theorem decFrom_more (s : ByteArray) : ∀ d pos f,s.size <= pos + d -> d <= f -> Qbt s f pos = Qbt s d pos
 | 0,pos,f,h,_ => by cases f <;> simp [Qbt,Nat.not_lt.2 (show s.size <= pos by omega)]
 | d + 1,pos,0,h,hf => by omega
 | d + 1,pos,f + 1,h,hf => by
  unfold Qbt
  by_cases hp : pos < s.size
  ·rw [if_pos hp,if_pos hp,decFrom_more s d _ f (by have:=(decode_le s pos hp).1; omega) (by omega)]
  ·rw [if_neg hp,if_neg hp]
theorem decFrom_step (s : ByteArray) (pos : Nat) (h : pos < s.size) : Qbt s s.size pos = ((Utf8.decode s pos).1 : Int) :: Qbt s s.size (pos + (Utf8.decode s pos).2):=by
 have hw:=decode_le s pos h
 rw [decFrom_more s (s.size - pos) pos s.size (by omega) (by omega),show s.size - pos = (s.size - pos - 1) + 1 by omega]
 conv => lhs; unfold Qbt
 rw [if_pos h,<- decFrom_more s (s.size - pos - 1) (pos + (Utf8.decode s pos).2) s.size (by omega) (by omega)]
theorem decFrom_end (s : ByteArray) (pos : Nat) (h : s.size <= pos) : Qbt s s.size pos = []:=by
 rw [decFrom_more s 0 pos s.size (by omega) (by omega)]; rfl
theorem decodeGo_at (s : ByteArray) (pos : Nat) (h : pos < s.size) : Lib.decodeGo (s.extract pos s.size) = Utf8.decode s pos:=by
 unfold Lib.decodeGo
 rw [if_neg (by rw [ByteArray.size_extract]; omega),Lib.tail_decode,Nat.add_zero]
def runesR (s : ByteArray) (acc : List Int) (pos : Nat) : List Int × Bool:=if (Qbt s s.size pos).all runeOk = true then (acc ++ Qbt s s.size pos,true) else ([],false)
theorem Runes_loop (s : ByteArray) (hs : s.size <= 35184372088000) : ∀ d pos (acc : List Int),s.size <= pos + d -> pos <= s.size -> acc.length <= pos -> Ev (fun k => r1_Runes.l0 k s acc (pos : Int)) (runesR s acc pos)
 | 0,pos,acc,h,hp,_ => by
  unfold runesR
  rw [decFrom_end s pos (by omega),List.all_nil,if_pos rfl,List.append_nil]
  exact Ev.step (f:=fun _ => some (acc,true)) (fun k => by simp only [r1_Runes.l0]; rw [if_neg (by omega)]) (Ev.now _)
 | d + 1,pos,acc,h,hp,ha => by
  by_cases hlt : pos < s.size
  ·have hw:=decode_le s pos hlt
   have ih:=Runes_loop s hs d (pos + (Utf8.decode s pos).2) (acc ++ [((Utf8.decode s pos).1 : Int)]) (by omega) hw.2 (by simp; omega)
   have hf : utf8_DecodeRuneInString.f (s.extract (pos : Int).toNat s.size) = some (((Utf8.decode s pos).1 : Int),((Utf8.decode s pos).2 : Int)):=by
    unfold utf8_DecodeRuneInString.f
    rw [Int.toNat_natCast,decodeGo_at s pos hlt]
   unfold runesR at ih ⊢
   rw [decFrom_step s pos hlt,List.all_cons]
   cases hr : runeOk ((Utf8.decode s pos).1 : Int)
   ·simp only [Bool.false_and,Bool.false_eq_true,if_false]
    refine Ev.step (f:=fun _ => some ([],false)) (fun k => ?_) (Ev.now _)
    simp only [r1_Runes.l0]
    rw [if_pos (by omega),if_pos (by omega),if_pos (by omega),hf,Option.bind_some,ref1_Rune_f,Option.bind_some,hr]
    rfl
   ·simp only [Bool.true_and]
    rw [List.append_assoc,List.singleton_append] at ih
    refine Ev.step (fun k => ?_) ih
    simp only [r1_Runes.l0]
    rw [if_pos (by omega),if_pos (by omega),if_pos (by omega),hf,Option.bind_some,ref1_Rune_f,Option.bind_some,hr,if_pos rfl,if_pos (by omega),Qaq (by omega) (by omega)]
    simp only [Int.natCast_add]
  ·have hpe : pos = s.size:=by omega
   unfold runesR
   rw [decFrom_end s pos (by omega),List.all_nil,if_pos rfl,List.append_nil]
   exact Ev.step (f:=fun _ => some (acc,true)) (fun k => by simp only [r1_Runes.l0]; rw [if_neg (by omega)]) (Ev.now _)
theorem Runes_ev (s : ByteArray) (hs : s.size <= 35184372088000) : Ev (fun k => r1_Runes.f k s) (if textOk s = true then (runesOf s,true) else ([],false)) :=
 Runes_loop s hs s.size 0 [] (by omega) (Nat.zero_le _) (Nat.le_refl _)
theorem ref4_Begin_f (e : SElem) : r4_Begin.f e.f0 e.f1 e.f2 = some (Qao e):=rfl
theorem ref0_Between_f (a b c : Int) : r0_Between.f a b c = some (decide (b <= a) && decide (a <= c)):=by
 unfold r0_Between.f
 by_cases h : b <= a <;> simp [h]
theorem ref4_name_f (a b : Int) : r4_name.f a b = some (nameOk a b):=by
 unfold r4_name.f nameOk
 rw [ref0_Between_f,ref0_Between_f]
 simp only [Option.bind_some]
 cases decide (1 <= a) <;> cases decide (a <= 8) <;> simp
theorem ref0_Num_f (a b : Int) : r0_Num.f a b = some (decide (0 <= a) && decide (a <= b)):=by
 unfold r0_Num.f
 by_cases h : 0 <= a <;> simp [h]
theorem ref4_Elem_f (e : SElem) : r4_Elem.f e.f0 e.f1 e.f2 = some (Qbs e):=by
 unfold r4_Elem.f Qbs
 rw [ref4_Begin_f,ref4_name_f,ref0_Num_f]
 simp only [Option.bind_some]
 have : decide (e.f2 <= 11) = decide (e.f2 < 12):=decide_eq_decide.2 (by omega)
 rw [this]
 cases Qao e <;> cases nameOk e.f0 e.f1 <;> simp
theorem ref4_Less_f (a b : SElem) : r4_Less.f a.f0 a.f1 a.f2 b.f0 b.f1 b.f2 = some (Qaw a b):=by
 unfold r4_Less.f Qaw
 by_cases h0 : a.f0 = b.f0
 ·by_cases h1 : a.f1 = b.f1
  ·simp [h0,h1]
  ·have : ¬ b.f0 < b.f0:=by omega
   simp [h0,h1]
 ·simp [h0]
theorem ref4_own_f (o : SOp) (e : SElem) : r4_own.f o.f0 o.f1 o.f2 o.f3.f0 o.f3.f1 o.f3.f2 o.f4 o.f5 o.f6 o.f7 o.f8 e.f0 e.f1 e.f2 = some (ownEl o e):=by
 unfold r4_own.f ownEl
 by_cases h : e.f0 = o.f0 <;> simp [h]
def Sm2 (o : SOp) : Prop:=o.f4.size <= 35184372088000 /\ o.f5.length <= 1000000000000000
theorem ref4_Op_l0 (o : SOp) (h : Sm2 o) : ∀ d i,i + d = o.f5.length ->
  Ev (fun k => r4_Op.l0 k (i : Int) o.f0 o.f1 o.f2 o.f3.f0 o.f3.f1 o.f3.f2 o.f4 o.f5 o.f6 o.f7 o.f8) (Qbb o (if i = 0 then none else some (Qaa o.f5 ((i : Int) - 1))) (o.f5.drop i))
 | 0,i,hi => by
  rw [List.drop_eq_nil_of_le (by omega)]
  exact Ev.step (f:=fun _ => some true) (fun k => by simp only [r4_Op.l0]; rw [if_neg (by omega)]) (Ev.now _)
 | d + 1,i,hi => by
  have hlt : i < o.f5.length:=by omega
  have ih:=ref4_Op_l0 o h d (i + 1) (by omega)
  have hw : wrap64 ((i : Int) + 1) = ((i + 1 : Nat) : Int):=wrap4 hlt (by have:=h.2; omega)
  have hw1 : wrap64 ((i : Int) - 1) = (i : Int) - 1:=Qaq (by omega) (by have:=h.2; omega)
  have hd : o.f5.drop i = Qaa o.f5 (i : Int) :: o.f5.drop (i + 1):=by rw [Qam _ _ hlt]; exact List.drop_eq_getElem_cons hlt
  rw [hd]
  generalize hx : Qaa o.f5 (i : Int) = x at ih ⊢
  have hp1 : Qaa o.f5 (((i + 1 : Nat) : Int) - 1) = x:=by rw [show (((i + 1 : Nat) : Int) - 1) = (i : Int) by omega]; exact hx
  rw [if_neg (show ¬ i + 1 = 0 by omega),hp1] at ih
  have unf : ∀ k,r4_Op.l0 (k + 1) (i : Int) o.f0 o.f1 o.f2 o.f3.f0 o.f3.f1 o.f3.f2 o.f4 o.f5 o.f6 o.f7 o.f8 =
    (if Qao x = true then some false else if Qbs x = true then (if ownEl o x = true then some false else if (i : Int) > 0 then
     (if Qaw (Qaa o.f5 ((i : Int) - 1)) x = true then r4_Op.l0 k ((i + 1 : Nat) : Int) o.f0 o.f1 o.f2 o.f3.f0 o.f3.f1 o.f3.f2 o.f4 o.f5 o.f6 o.f7 o.f8 else some false)
     else r4_Op.l0 k ((i + 1 : Nat) : Int) o.f0 o.f1 o.f2 o.f3.f0 o.f3.f1 o.f3.f2 o.f4 o.f5 o.f6 o.f7 o.f8) else some false):=by
   intro k
   simp only [r4_Op.l0]
   rw [if_pos (by omega),if_pos (by omega),hx,ref4_Begin_f,ref4_Elem_f,ref4_own_f,hw,hw1]
   simp only [Option.bind_some]
   by_cases hi0 : (i : Int) > 0
   ·simp only [if_pos hi0]
    rw [if_pos (show (0 : Int) <= (i : Int) - 1 by omega),if_pos (show (i : Int) - 1 < (o.f5.length : Int) by omega),ref4_Less_f]
    rfl
   ·simp only [if_neg hi0]
  unfold Qbb
  have no : ∀ c : Bool,c = false -> (∀ k,r4_Op.l0 (k + 1) (i : Int) o.f0 o.f1 o.f2 o.f3.f0 o.f3.f1 o.f3.f2 o.f4 o.f5 o.f6 o.f7 o.f8 = some false) -> Ev (fun k => r4_Op.l0 k (i : Int) o.f0 o.f1 o.f2 o.f3.f0 o.f3.f1 o.f3.f2 o.f4 o.f5 o.f6 o.f7 o.f8) c:=by
   intro c hc hk; subst hc; exact Ev.step (f:=fun _ => some false) hk (Ev.now _)
  cases hb : Qao x
  ·cases he : Qbs x
   ·exact no _ (by simp) (fun k => by rw [unf,hb,he]; simp)
   ·cases ho : ownEl o x
    ·by_cases hi0 : i = 0
     ·subst hi0
      simp only [if_true,Bool.not_false,Bool.true_and]
      exact Ev.step (fun k => by rw [unf,hb,he,ho]; simp) ih
     ·simp only [if_neg hi0]
      cases hl : Qaw (Qaa o.f5 ((i : Int) - 1)) x
      ·exact no _ (by simp [hl]) (fun k => by rw [unf,hb,he,ho,hl]; simp; omega)
      ·simp only [Bool.not_false,Bool.true_and]
       exact Ev.step (fun k => by rw [unf,hb,he,ho,hl]; simp) ih
    ·exact no _ (by simp) (fun k => by rw [unf,hb,he,ho]; simp)
  ·exact no _ (by simp) (fun k => by rw [unf,hb]; simp)
theorem Op_l0_start (o : SOp) (h : Sm2 o) : Ev (fun k => r4_Op.l0 k 0 o.f0 o.f1 o.f2 o.f3.f0 o.f3.f1 o.f3.f2 o.f4 o.f5 o.f6 o.f7 o.f8) (Qbb o none o.f5):=by
 have:=ref4_Op_l0 o h o.f5.length 0 (Nat.zero_add _)
 simpa using this
theorem Op_j1 (o : SOp) (h : Sm2 o) (b : Bool) : Ev (fun k => r4_Op.j1 k b o.f0 o.f1 o.f2 o.f3.f0 o.f3.f1 o.f3.f2 o.f4 o.f5 o.f6 o.f7 o.f8) (!b && Qbb o none o.f5):=by
 cases b
 ·simp only [Bool.not_false,Bool.true_and]
  exact Ev.step (fun k => by simp only [r4_Op.j1]; rw [if_neg (by decide)]) (Op_l0_start o h)
 ·simp only [Bool.not_true,Bool.false_and]
  exact Ev.step (f:=fun _ => some false) (fun k => by simp only [r4_Op.j1]; rw [if_pos True.intro]) (Ev.now _)
def restOk (o : SOp) : Bool:=textOk o.f4 && (decide (Qap o <= 12) && (Qbs o.f3 && (!(decide (Qap o = 0) && !Qao o.f3) && (!ownEl o o.f3 && Qbb o none o.f5))))
theorem Op_j0 (o : SOp) (h : Sm2 o) (b : Bool) : Ev (fun k => r4_Op.j0 k b o.f0 o.f1 o.f2 o.f3.f0 o.f3.f1 o.f3.f2 o.f4 o.f5 o.f6 o.f7 o.f8) (!b && restOk o):=by
 cases b
 ·simp only [Bool.not_false,Bool.true_and]
  have hR:=Runes_ev o.f4 h.1
  unfold restOk
  obtain ⟨F,hF⟩ : ∃ F : Nat -> List Int × Bool -> Option Bool,F = (fun k bt => (if bt.2 = true then (if (bt.1.length : Int) > 12 then (r4_Op.j1 k true o.f0 o.f1 o.f2 o.f3.f0 o.f3.f1 o.f3.f2 o.f4 o.f5 o.f6 o.f7 o.f8) else ((r4_Elem.f o.f3.f0 o.f3.f1 o.f3.f2).bind fun t176 => (if t176 = true then (if (bt.1.length : Int) = 0 then ((r4_Begin.f o.f3.f0 o.f3.f1 o.f3.f2).bind fun t177 => (if t177 = true then ((r4_own.f o.f0 o.f1 o.f2 o.f3.f0 o.f3.f1 o.f3.f2 o.f4 o.f5 o.f6 o.f7 o.f8 o.f3.f0 o.f3.f1 o.f3.f2).bind fun t178 => (r4_Op.j1 k t178 o.f0 o.f1 o.f2 o.f3.f0 o.f3.f1 o.f3.f2 o.f4 o.f5 o.f6 o.f7 o.f8)) else (r4_Op.j1 k true o.f0 o.f1 o.f2 o.f3.f0 o.f3.f1 o.f3.f2 o.f4 o.f5 o.f6 o.f7 o.f8))) else ((r4_own.f o.f0 o.f1 o.f2 o.f3.f0 o.f3.f1 o.f3.f2 o.f4 o.f5 o.f6 o.f7 o.f8 o.f3.f0 o.f3.f1 o.f3.f2).bind fun t179 => (r4_Op.j1 k t179 o.f0 o.f1 o.f2 o.f3.f0 o.f3.f1 o.f3.f2 o.f4 o.f5 o.f6 o.f7 o.f8))) else (r4_Op.j1 k true o.f0 o.f1 o.f2 o.f3.f0 o.f3.f1 o.f3.f2 o.f4 o.f5 o.f6 o.f7 o.f8)))) else (r4_Op.j1 k true o.f0 o.f1 o.f2 o.f3.f0 o.f3.f1 o.f3.f2 o.f4 o.f5 o.f6 o.f7 o.f8))):=⟨_,rfl⟩
  refine Ev.step (f:=fun k => (r1_Runes.f k o.f4).bind (F k)) (fun k => ?_) (Ev.bind hR ?_)
  ·simp only [r4_Op.j0]; rw [if_neg (by decide),hF]
  ·rw [hF]
   have hn : ∀ x : Bool,Ev (fun k => r4_Op.j1 k true o.f0 o.f1 o.f2 o.f3.f0 o.f3.f1 o.f3.f2 o.f4 o.f5 o.f6 o.f7 o.f8) (x && false):=fun x => by rw [Bool.and_false]; exact Op_j1 o h true
   simp only [ref4_Elem_f,ref4_own_f,ref4_Begin_f,Option.bind_some]
   cases ht : textOk o.f4
   ·simp only [Bool.false_eq_true,if_false,Bool.false_and]
    exact Op_j1 o h true
   ·simp only [if_true,Bool.true_and]
    have hl : (runesOf o.f4).length = Qap o:=rfl
    rw [hl]
    by_cases h12 : Qap o <= 12
    ·have e12 : decide (Qap o <= 12) = true:=Zd h12
     rw [e12,Bool.true_and]
     have n12 : ¬ ((Qap o : Int) > 12):=by omega
     simp only [if_neg n12]
     cases he : Qbs o.f3
     ·simp only [Bool.false_eq_true,if_false,Bool.false_and]
      exact Op_j1 o h true
     ·simp only [if_true,Bool.true_and]
      by_cases h0 : Qap o = 0
      ·have h0i : (Qap o : Int) = 0:=by omega
       simp only [if_pos h0i,h0,decide_true,Bool.true_and,Bool.not_not]
       cases hb : Qao o.f3
       ·simp only [Bool.false_eq_true,if_false,Bool.false_and]
        exact Op_j1 o h true
       ·simp only [if_true,Bool.true_and]
        exact Op_j1 o h _
      ·have h0i : ¬ (Qap o : Int) = 0:=by omega
       have e0 : decide (Qap o = 0) = false:=Ze h0
       simp only [if_neg h0i,e0,Bool.false_and,Bool.not_false,Bool.true_and]
       exact Op_j1 o h _
    ·have e12 : decide (Qap o <= 12) = false:=Ze h12
     rw [e12,Bool.false_and]
     have n12 : (Qap o : Int) > 12:=by omega
     simp only [if_pos n12]
     exact Op_j1 o h true
 ·simp only [Bool.not_true,Bool.false_and]
  exact Ev.step (f:=fun _ => some false) (fun k => by simp only [r4_Op.j0]; rw [if_pos True.intro]) (Ev.now _)
theorem editOk_rest (o : SOp) : editOk o = (o.f6 == 0 && (o.f7 == 0 && (o.f8 == 0 && (decide (o.f5.length <= 200) && (!(o.f4.toList.isEmpty && o.f5.isEmpty) && restOk o))))):=by
 unfold editOk restOk goneOk
 have : decide (Qap o = 0) = o.f4.toList.isEmpty:=by
  rw [Bool.eq_iff_iff,decide_eq_true_eq]; exact (runesOf_nil4 o.f4)
 rw [this]
 cases o.f6 == 0 <;> cases o.f7 == 0 <;> cases o.f8 == 0 <;> cases decide (o.f5.length <= 200) <;> cases o.f4.toList.isEmpty <;> cases o.f5.isEmpty <;> cases textOk o.f4 <;> cases decide (Qap o <= 12) <;> cases Qbs o.f3 <;> cases Qao o.f3 <;> cases ownEl o o.f3 <;> cases Qbb o none o.f5 <;> rfl
theorem Op_ev (o : SOp) (h : Sm2 o) : Ev (fun k => r4_Op.f k o.f0 o.f1 o.f2 o.f3.f0 o.f3.f1 o.f3.f2 o.f4 o.f5 o.f6 o.f7 o.f8) (opOk o):=by
 unfold r4_Op.f opOk
 simp only [ref4_name_f,ref4_Begin_f,ref0_Num_f,Option.bind_some]
 cases nameOk o.f0 o.f1
 ·simp only [Bool.false_eq_true,if_false,Bool.false_and]; exact Ev.now _
 ·simp only [if_true,Bool.true_and]
  by_cases h2 : o.f2 = 2
  ·have h1 : ¬ o.f2 = 1:=by omega
   rw [if_neg h1]
   simp only [h2,if_true,beq_self_eq_true,Bool.true_and]
   unfold toggleOk
   refine Ev.congr (fun k => ?_) (Ev.now _)
   have hl : ((o.f5.length : Int) == 0) = o.f5.isEmpty:=isEmpty_len _
   have ht : (o.f4.toList = ([] : List UInt8)) ↔ o.f4.toList.isEmpty = true:=toList_isEmpty _
   simp only [hl,ht]
   cases nameOk o.f6 o.f7
   ·simp
   ·by_cases e6 : o.f6 = o.f0 <;> by_cases e7 : o.f7 = o.f1 <;> by_cases e8 : 0 <= o.f8 <;> by_cases e9 : o.f8 <= 268435456 <;> cases Qao o.f3 <;> cases o.f4.toList.isEmpty <;> simp [e6,e7,e8,e9]
  ·have e2 : (o.f2 == 2) = false:=by simp [h2]
   simp only [if_neg h2]
   by_cases h1 : o.f2 = 1
   ·simp only [if_pos h1]
    rw [editOk_rest]
    by_cases e6 : o.f6 = 0
    ·simp only [if_pos e6]
     by_cases e7 : o.f7 = 0
     ·simp only [if_pos e7]
      by_cases e8 : o.f8 = 0
      ·simp only [if_pos e8]
       have b6 : (o.f6 == 0) = true:=by simp [e6]
       have b7 : (o.f7 == 0) = true:=by simp [e7]
       have b8 : (o.f8 == 0) = true:=by simp [e8]
       rw [b6,b7,b8,Bool.true_and,Bool.true_and,Bool.true_and]
       by_cases e5 : o.f5.length <= 200
       ·have n5 : ¬ (o.f5.length : Int) > 200:=by omega
        have d5 : decide (o.f5.length <= 200) = true:=Zd e5
        simp only [if_neg n5,d5,Bool.true_and,isEmpty_len]
        by_cases e4 : o.f4.toList = ([] : List UInt8)
        ·simp only [if_pos e4,List.isEmpty_iff.2 e4,Bool.true_and]; exact Op_j0 o h _
        ·have : o.f4.toList.isEmpty = false:=by cases hh : o.f4.toList.isEmpty; rfl; exact absurd (List.isEmpty_iff.1 hh) e4
         simp only [if_neg e4,this,Bool.false_and]; exact Op_j0 o h _
       ·have n5 : (o.f5.length : Int) > 200:=by omega
        have d5 : decide (o.f5.length <= 200) = false:=Ze e5
        simp only [if_pos n5,d5,Bool.false_and]; exact Op_j0 o h _
      ·have b8 : (o.f8 == 0) = false:=by simp [e8]
       simp only [if_neg e8,b8,Bool.false_and,Bool.and_false]; exact Op_j0 o h _
     ·have b7 : (o.f7 == 0) = false:=by simp [e7]
      simp only [if_neg e7,b7,Bool.false_and,Bool.and_false]; exact Op_j0 o h _
    ·have b6 : (o.f6 == 0) = false:=by simp [e6]
     simp only [if_neg e6,b6,Bool.false_and]; exact Op_j0 o h _
   ·simp only [if_neg h1,e2,Bool.false_and]; have hh:=Op_j0 o h true; simp only [Bool.not_true,Bool.false_and] at hh; exact hh
theorem eqE_iff (x : SElem) (a b c : Int) : (x.f0 == a && (x.f1 == b && (x.f2 == c))) = decide (x = ⟨a,b,c⟩):=by
 rw [Bool.eq_iff_iff]
 simp only [Bool.and_eq_true,beq_iff_eq,decide_eq_true_eq]
 cases x
 rw [SElem.mk.injEq]
theorem EqElems_loop (a b : List SElem) (hab : a.length = b.length) (hl : a.length <= 1000000000) : ∀ d i,i + d = a.length -> Ev (fun k => r0_EqElems.l0 k a b (i : Int)) (decide (a.drop i = b.drop i))
 | 0,i,h => by
  rw [List.drop_eq_nil_of_le (by omega),List.drop_eq_nil_of_le (by omega)]
  exact Ev.step (f:=fun _ => some true) (fun k => by simp only [r0_EqElems.l0]; rw [if_neg (by omega)]) (Ev.now _)
 | d + 1,i,h => by
  have ih:=EqElems_loop a b hab hl d (i + 1) (by omega)
  have ha : i < a.length:=by omega
  have hb : i < b.length:=by omega
  rw [List.drop_eq_getElem_cons ha,List.drop_eq_getElem_cons hb]
  have hc : (!(((Qaa a (i : Int)).f0) == ((Qaa b (i : Int)).f0)) || (!(((Qaa a (i : Int)).f1) == ((Qaa b (i : Int)).f1)) || (!(((Qaa a (i : Int)).f2) == ((Qaa b (i : Int)).f2))))) = !decide (a[i] = b[i]):=by
   rw [Qam _ _ ha,Qam _ _ hb]
   have:=eqE_iff a[i] b[i].f0 b[i].f1 b[i].f2
   rw [<- this]
   cases a[i].f0 == b[i].f0 <;> cases a[i].f1 == b[i].f1 <;> cases a[i].f2 == b[i].f2 <;> rfl
  by_cases he : a[i] = b[i]
  ·have : decide (a[i] :: a.drop (i + 1) = b[i] :: b.drop (i + 1)) = decide (a.drop (i + 1) = b.drop (i + 1)):=decide_eq_decide.2 (by rw [List.cons.injEq]; exact ⟨fun h => h.2,fun h => ⟨he,h⟩⟩)
   rw [this]
   refine Ev.step (fun k => ?_) ih
   simp only [r0_EqElems.l0,hc]
   rw [if_pos (by omega),if_pos (by omega),if_pos (by omega),if_neg (by simp [he]),wrap4 ha (by omega)]
  ·have : decide (a[i] :: a.drop (i + 1) = b[i] :: b.drop (i + 1)) = false:=Ze (by rw [List.cons.injEq]; exact fun h => he h.1)
   rw [this]
   refine Ev.step (f:=fun _ => some false) (fun k => ?_) (Ev.now _)
   simp only [r0_EqElems.l0,hc]
   rw [if_pos (by omega),if_pos (by omega),if_pos (by omega),if_pos (by simp [he])]
theorem EqElems_ev (a b : List SElem) (hl : a.length <= 1000000000) : Ev (fun k => r0_EqElems.f k a b) (decide (a = b)):=by
 by_cases hab : a.length = b.length
 ·have:=EqElems_loop a b hab hl a.length 0 (Nat.zero_add _)
  simp only [List.drop_zero] at this
  refine Ev.congr (fun k => ?_) this
  unfold r0_EqElems.f
  rw [if_pos (by omega)]
  rfl
 ·have : decide (a = b) = false:=by simp; rintro rfl; exact hab rfl
  rw [this]
  refine Ev.congr (fun k => ?_) (Ev.now false)
  unfold r0_EqElems.f
  rw [if_neg (by omega)]
theorem CopyOp4 (o : SOp) (hl : o.f5.length <= 1000000000000) : Ev (fun k => r0_CopyOp.f k o.f0 o.f1 o.f2 o.f3.f0 o.f3.f1 o.f3.f2 o.f4 o.f5 o.f6 o.f7 o.f8) (o.f0,o.f1,o.f2,o.f3.f0,o.f3.f1,o.f3.f2,o.f4,o.f5,o.f6,o.f7,o.f8) :=
 Ev.bind (f:=fun _ t => some (o.f0,o.f1,o.f2,o.f3.f0,o.f3.f1,o.f3.f2,o.f4,t,o.f6,o.f7,o.f8)) (copyE_ev o.f5 hl) (Ev.now _)
end
section
theorem wakes4t_ev : Ev (fun k => w4_wakes.f k) true:=Ev.of w4_wakes.mono (by decide +kernel : w4_wakes.f 60 = some true)
theorem opOk_text {o : SOp} (h : opOk o = true) : textOk o.f4 = true:=by
 unfold opOk at h
 simp only [Bool.and_eq_true] at h
 obtain ⟨hn,h⟩:=h
 by_cases h1 : o.f2 = 1
 ·rw [if_pos h1] at h
  unfold editOk at h
  simp only [Bool.and_eq_true] at h
  exact h.1.1.1.1.1.2
 ·rw [if_neg h1] at h
  simp only [Bool.and_eq_true] at h
  have h3:=h.2
  unfold toggleOk at h3
  simp only [Bool.and_eq_true] at h3
  have h4:=(runesOf_nil4 o.f4).2 h3.1.2
  unfold textOk
  rw [List.eq_nil_of_length_eq_zero h4]; rfl
theorem RElems_loop (o : SOp) (h : opOk o = true) (ht : tiny4 o) : ∀ d i,i + d = Qap o -> Ev (fun k => r4_Elems.l0 k ((List.range i).map fun j : Nat => (⟨o.f0,o.f1,(j : Int)⟩ : SElem)) (i : Int) o.f0 o.f1 o.f2 o.f3.f0 o.f3.f1 o.f3.f2 o.f4 o.f5 o.f6 o.f7 o.f8) (chain4 o):=by
 have hr : Ev (fun k => r4_Runes.f k o.f0 o.f1 o.f2 o.f3.f0 o.f3.f1 o.f3.f2 o.f4 o.f5 o.f6 o.f7 o.f8) (Qap o : Int):=by
  have:=Runes_ev o.f4 (by have:=ht.1; omega)
  rw [if_pos (opOk_text h)] at this
  exact Ev.bind (f:=fun _ bt312 => some (bt312.1.length : Int)) this (Ev.now _)
 have h12:=size4 h
 intro d
 induction d with
 | zero =>
  intro i hi
  obtain rfl : i = Qap o:=by omega
  refine Ev.step (fun k => by simp only [r4_Elems.l0]; rfl) (Ev.bind hr ?_)
  refine Ev.congr (fun k => ?_) (Ev.now (chain4 o))
  rw [if_neg (by omega)]
  rfl
 | succ d ih =>
  intro i hi
  have ih:=ih (i + 1) (by omega)
  rw [List.range_succ,List.map_append] at ih
  refine Ev.step (fun k => by simp only [r4_Elems.l0]; rfl) (Ev.bind hr ?_)
  refine Ev.congr (fun k => ?_) ih
  rw [if_pos (by omega),if_pos (by simp; omega),wrap4 (show i < Qap o by omega) (by omega)]
  rfl
theorem RElems_ev (o : SOp) (h : opOk o = true) (ht : tiny4 o) : Ev (fun k => r4_Elems.f k o.f0 o.f1 o.f2 o.f3.f0 o.f3.f1 o.f3.f2 o.f4 o.f5 o.f6 o.f7 o.f8) (chain4 o):=RElems_loop o h ht (Qap o) 0 (Nat.zero_add _)
theorem EqOp4 (o : SOp) (hl : o.f5.length <= 1000000) : Ev (fun k => r0_EqOp.f k o.f0 o.f1 o.f2 o.f3.f0 o.f3.f1 o.f3.f2 o.f4 o.f5 o.f6 o.f7 o.f8 o.f0 o.f1 o.f2 o.f3.f0 o.f3.f1 o.f3.f2 o.f4 o.f5 o.f6 o.f7 o.f8) true:=by
 have h:=EqElems_ev o.f5 o.f5 (by omega)
 rw [Zd rfl] at h
 refine Ev.congr (fun k => ?_) (Ev.bind (f:=fun _ t => if t = true then some (o.f8 == o.f8) else some false) h ?_)
 ·unfold r0_EqOp.f
  simp only [if_true,beq_self_eq_true,Bool.and_self]
 ·simp only [if_true,beq_self_eq_true]
  exact Ev.now _
theorem Wipe4_loop : ∀ d i (x : List SElem),i + d = x.length -> x.length <= 1000000 -> ∃ r,Ev (fun k => w0_Elems.l0 k x (i : Int)) r
 | 0,i,x,h,_ => ⟨x,Ev.step (f:=fun _ => some x) (fun k => by simp only [w0_Elems.l0]; rw [if_neg (by omega)]) (Ev.now _)⟩
 | d + 1,i,x,h,hl => by
  obtain ⟨r,hr⟩:=Wipe4_loop d (i + 1) (x.set i ⟨-9,0,0⟩) (by rw [List.length_set]; omega) (by rw [List.length_set]; exact hl)
  refine ⟨r,Ev.step (fun k => ?_) hr⟩
  simp only [w0_Elems.l0]
  rw [if_pos (by omega),if_pos (by omega),wrap4 (show i < x.length by omega) (by omega),Int.toNat_natCast]
theorem Wipe4 (x : List SElem) (hl : x.length <= 1000000) : ∃ r,Ev (fun k => w0_Elems.f k x) r:=Wipe4_loop x.length 0 x (Nat.zero_add _) hl
theorem op_Elem_f (e : SElem) : op_Elem.f e.f0 e.f1 e.f2 = some (if Qbs e = true then 0 else 1):=by
 unfold op_Elem.f
 rw [op_IsElem_f,Option.bind_some]
 cases Qbs e <;> rfl
section
variable {l0 : List SOp} {l1 : List SElem} {l2 : List Int}
theorem OT_l3 (h1 : l1.length <= 900) {i : Nat} (hi : i < l1.length) (hn : Ev (fun k => w4_OpTells.l2 k ((i + 1 : Nat) : Int) l0 l1 l2) true) : ∀ d q,q + d = l1.length -> Ev (fun k => w4_OpTells.l3 k (i : Int) (q : Int) l0 l1 l2) true:=by
 have hend : ∀ q : Nat,Ev (fun k => w4_OpTells.j10 k (i : Int) (q : Int) false l0 l1 l2) true:=fun q => by
  refine Ev.step (fun k => ?_) hn
  simp only [w4_OpTells.j10]
  rw [if_neg (by decide),wrap4 hi (by omega)]
 intro d
 induction d with
 | zero =>
  intro q hq
  refine Ev.step (fun k => ?_) (hend q)
  simp only [w4_OpTells.l3]; rw [if_neg (by omega)]
 | succ d ih =>
  intro q hq
  have hlt : q < l1.length:=by omega
  have ih:=ih (q + 1) (by omega)
  by_cases h10 : (q : Int) < 20
  ·have q0 : (0 : Int) <= (q : Int):=by omega
   have q1 : (q : Int) < (l1.length : Int):=by omega
   have i0 : (0 : Int) <= (i : Int):=by omega
   have i1 : (i : Int) < (l1.length : Int):=by omega
   have hw:=wrap4 hlt (by omega)
   refine Ev.step (f:=fun k => w4_OpTells.j10 k (i : Int) (q : Int) true l0 l1 l2) (fun k => by simp only [w4_OpTells.l3]; rw [if_pos q1,Zd h10]) ?_
   generalize hx : Qaa l1 (i : Int) = x
   generalize hy : Qaa l1 (q : Int) = y
   refine Ev.step (fun k => by simp only [w4_OpTells.j10]; rw [if_pos True.intro,if_pos i0,if_pos i1,if_pos q0,if_pos q1,hx,hy,rless_f x y]) (Ev.bind (op_Less_ev x y) ?_)
   refine Ev.congr (fun k => ?_) ih
   rw [Option.bind_some,bne_self_eq_false,if_neg (by decide),hw]
  ·refine Ev.step (fun k => ?_) (hend q)
   simp only [w4_OpTells.l3]; rw [if_pos (by omega),Ze h10]
theorem OT_l2 (h1 : l1.length <= 900) : ∀ d i,i + d = l1.length -> Ev (fun k => w4_OpTells.l2 k (i : Int) l0 l1 l2) true:=by
 have hend : ∀ i : Nat,Ev (fun k => w4_OpTells.j8 k (i : Int) false l0 l1 l2) true:=fun i => by
  refine Ev.step (fun k => ?_) (Ev.bind (f:=fun _ t => some t) wakes4t_ev (Ev.now _))
  simp only [w4_OpTells.j8]
  rw [if_neg (by decide)]
 intro d
 induction d with
 | zero =>
  intro i hi
  refine Ev.step (fun k => ?_) (hend i)
  simp only [w4_OpTells.l2]; rw [if_neg (by omega)]
 | succ d ih =>
  intro i hi
  have ih:=ih (i + 1) (by omega)
  have h4:=OT_l3 (l0:=l0) (l2:=l2) h1 (i:=i) (by omega) ih l1.length 0 (Nat.zero_add _)
  by_cases h10 : (i : Int) < 20
  ·refine Ev.step (f:=fun k => w4_OpTells.j8 k (i : Int) true l0 l1 l2) (fun k => by simp only [w4_OpTells.l2]; rw [if_pos (by omega),Zd h10]) ?_
   refine Ev.step (fun k => ?_) h4
   simp only [w4_OpTells.j8]
   rw [if_pos True.intro,if_pos (by omega),if_pos (by omega),op_Elem_f,Option.bind_some,ref4_Elem_f]
   simp only [w4_num.f,Option.bind_some]
   cases Qbs (Qaa l1 (i : Int)) <;> rfl
  ·refine Ev.step (fun k => ?_) (hend i)
   simp only [w4_OpTells.l2]; rw [if_pos (by omega),Ze h10]
theorem OT_j6 (ns : List Int) (x4 : Int) (x8 : List SElem) (x10 : Int) (x11 : List SElem) {q : Nat} (hq : q < 2000) (c : Int) (o : SOp) (a b d : Int) (hn : Ev (fun k => w4_OpTells.l1 k ns x4 x8 x10 x11 ((q + 1 : Nat) : Int) l0 l1 l2 o.f0 o.f1 o.f2 o.f3.f0 o.f3.f1 o.f3.f2 o.f4 o.f5 o.f6 o.f7 o.f8) true) :
  Ev (fun k => w4_OpTells.j6 k ns x4 x8 x10 x11 (q : Int) c c l0 l1 l2 o.f0 o.f1 o.f2 o.f3.f0 o.f3.f1 o.f3.f2 o.f4 o.f5 o.f6 o.f7 o.f8 a b d a b d) true:=by
 refine Ev.step (fun k => ?_) hn
 simp only [w4_OpTells.j6,w4_num.f,Option.bind_some,if_true,beq_self_eq_true,Bool.not_true,Bool.or_self,Bool.false_eq_true,if_false]
 rw [wrap4 hq (by omega)]
theorem OT_l1 (ns : List Int) (hns : ns.length <= 910) (x4 : Int) (x8 : List SElem) (o : SOp) (ht : tiny4 o) (x10 : Int) (x11 : List SElem) (h10 : x10 = if opOk o = true then 0 else 1) (h11 : x11 = if opOk o = true then chain4 o else [])
  (hn : ∀ q : Nat,Ev (fun k => w4_OpTells.j5 k ns x4 x8 x10 x11 (q : Int) false l0 l1 l2 o.f0 o.f1 o.f2 o.f3.f0 o.f3.f1 o.f3.f2 o.f4 o.f5 o.f6 o.f7 o.f8) true) :
  ∀ d q,q + d = ns.length -> Ev (fun k => w4_OpTells.l1 k ns x4 x8 x10 x11 (q : Int) l0 l1 l2 o.f0 o.f1 o.f2 o.f3.f0 o.f3.f1 o.f3.f2 o.f4 o.f5 o.f6 o.f7 o.f8) true
 | 0,q,hq => by
  refine Ev.step (fun k => ?_) (hn q)
  simp only [w4_OpTells.l1]; rw [if_neg (by omega)]
 | d + 1,q,hq => by
  have ih:=OT_l1 ns hns x4 x8 o ht x10 x11 h10 h11 hn d (q + 1) (by omega)
  have q0 : (0 : Int) <= (q : Int):=by omega
  have q1 : (q : Int) < (ns.length : Int):=by omega
  by_cases hlt : (q : Int) < 10
  ·refine Ev.step (f:=fun k => w4_OpTells.j5 k ns x4 x8 x10 x11 (q : Int) true l0 l1 l2 o.f0 o.f1 o.f2 o.f3.f0 o.f3.f1 o.f3.f2 o.f4 o.f5 o.f6 o.f7 o.f8) (fun k => by simp only [w4_OpTells.l1]; rw [if_pos q1,Zd hlt]) ?_
   generalize hnv : rd ns (q : Int) = n
   have hO:=Own4 o (tiny4_Sm ht) n
   have hj6:=fun c a b e => OT_j6 (l0:=l0) (l1:=l1) (l2:=l2) ns x4 x8 x10 x11 (q:=q) (by omega) c o a b e ih
   refine Ev.step (fun k => by simp only [w4_OpTells.j5]; rw [if_pos True.intro,if_pos q0,if_pos q1,hnv]) (Ev.bind hO ?_)
   cases hok : opOk o
   ·rw [hok] at h10 h11
    simp only [Bool.false_eq_true,if_false] at h10 h11
    subst h10 h11
    refine Ev.congr (fun k => ?_) (hj6 1 0 0 0)
    simp only [Bool.false_eq_true,if_false]
    rw [if_neg (by decide)]
   ·rw [hok] at h10 h11
    simp only [if_true] at h10 h11
    subst h10 h11
    have h12:=size4 hok
    have hw : wrap64 (((chain4 o).length : Int) - 1) = (Qap o : Int) - 1:=by rw [chain4_len,Qaq (by omega) (by omega)]
    simp only [if_true]
    by_cases hin : 0 <= n /\ n < (Qap o : Int)
    ·refine Ev.congr (fun k => ?_) (hj6 0 o.f0 o.f1 n)
     rw [if_pos hin,ref0_Num_f,hw,Option.bind_some,Zd hin.1,Zd (by omega)]
     obtain ⟨m,rfl⟩:=Int.eq_ofNat_of_zero_le hin.1
     rw [Bool.and_self,if_pos rfl,if_pos hin.1,if_pos (by rw [chain4_len]; exact hin.2),chain4_at o (by omega)]
    ·refine Ev.congr (fun k => ?_) (hj6 2 0 0 0)
     rw [if_neg hin,ref0_Num_f,hw,Option.bind_some]
     have : (decide (0 <= n) && decide (n <= (Qap o : Int) - 1)) = false:=by
      rw [Bool.eq_false_iff,Ne,Bool.and_eq_true,decide_eq_true_eq,decide_eq_true_eq]
      omega
     rw [this,if_neg (by decide)]
  ·refine Ev.step (fun k => ?_) (hn q)
   simp only [w4_OpTells.l1]; rw [if_pos q1,Ze hlt]
theorem OT_l0 (ns : List Int) (hns : ns.length <= 910) (h0 : l0.length <= 900) (ht : ∀ o ∈ l0,tiny4 o) (h1 : l1.length <= 900) : ∀ d i,i + d = l0.length -> Ev (fun k => w4_OpTells.l0 k ns (i : Int) l0 l1 l2) true:=by
 have hend : ∀ i : Nat,Ev (fun k => w4_OpTells.j1 k ns (i : Int) false l0 l1 l2) true:=fun i => by
  refine Ev.step (fun k => ?_) (OT_l2 (l0:=l0) (l2:=l2) h1 l1.length 0 (Nat.zero_add _))
  simp only [w4_OpTells.j1]
  rw [if_neg (by decide)]; rfl
 intro d
 induction d with
 | zero =>
  intro i hi
  refine Ev.step (fun k => ?_) (hend i)
  simp only [w4_OpTells.l0]; rw [if_neg (by omega)]
 | succ d ih =>
  intro i hi
  have ih:=ih (i + 1) (by omega)
  have hlt : i < l0.length:=by omega
  have hto:=ht _ (List.getElem_mem hlt)
  have hw:=wrap4 hlt (by omega)
  by_cases h10 : (i : Int) < 10
  ·have i0 : (0 : Int) <= (i : Int):=by omega
   have i1 : (i : Int) < (l0.length : Int):=by omega
   have hrd:=rd4_Op l0 i hlt
   generalize l0[i] = o at hto hrd
   have t4:=hto.1
   have t5:=hto.2
   have hs:=tiny4_Sm hto
   have hN:=needs4 o hs.1 (by omega)
   have hR:=refNeeds4 o (by omega)
   have hC:=CopyOp4 o (by omega)
   have hE:=Elems4 o hs
   have hO:=Op_ev o ⟨by omega,by omega⟩
   have hK:=Check4 o hs
   have hlen:=needs_len o
   obtain ⟨wr,hwr⟩:=Wipe4 (needsL o) (by omega)
   have hQ:=EqOp4 o (by omega)
   refine Ev.step (f:=fun k => w4_OpTells.j1 k ns (i : Int) true l0 l1 l2) (fun k => by simp only [w4_OpTells.l0]; rw [if_pos i1,Zd h10]) ?_
   refine Ev.step (fun k => by simp only [w4_OpTells.j1]; rw [if_pos True.intro,if_pos i0,if_pos i1,hrd]) (Ev.bind hC (Ev.bind hE ?_))
   simp only [hN,hR,Option.bind_some]
   refine Ev.bind hO ?_
   have hfin : ∀ (x8 : List SElem) (x10 : Int) (x11 : List SElem),(∃ r,Ev (fun k => w0_Elems.f k x8) r) -> ∀ q : Nat,Ev (fun k => w4_OpTells.j5 k ns (i : Int) x8 x10 x11 (q : Int) false l0 l1 l2 o.f0 o.f1 o.f2 o.f3.f0 o.f3.f1 o.f3.f2 o.f4 o.f5 o.f6 o.f7 o.f8) true:=by
    rintro x8 x10 x11 ⟨r,hr⟩ q
    refine Ev.step (fun k => by simp only [w4_OpTells.j5]; rw [if_neg (by decide)]) (Ev.bind hr ?_)
    refine Ev.congr (fun k => by rw [if_pos i0,if_pos i1,hrd]) (Ev.bind (f:=fun k t385 => if t385 = true then (w4_OpTells.l0 k ns (wrap64 ((i : Int) + 1)) l0 l1 l2) else (some false)) hQ ?_)
    simp only [if_true]
    rw [hw]
    exact ih
   cases hok : opOk o
   ·simp only [Bool.false_eq_true,if_false]
    have hL:=OT_l1 (l0:=l0) (l1:=l1) (l2:=l2) ns hns (i : Int) [] o hto 1 [] (by rw [hok]; rfl) (by rw [hok]; rfl) (hfin [] 1 [] (Wipe4 [] (by decide))) ns.length 0 (Nat.zero_add _)
    have hq:=EqElems_ev [] [] (by decide)
    rw [Zd rfl] at hq
    rw [hok] at hK
    simp only [Bool.false_eq_true,if_false] at hK
    refine Ev.step (fun k => by simp only [w4_OpTells.j2]; rfl) (Ev.bind hK ?_)
    simp only [w4_num.f,Option.bind_some,if_true]
    refine Ev.bind hq ?_
    simp only [if_true]
    refine Ev.bind hq ?_
    refine Ev.step (fun k => ?_) hL
    simp only [w4_OpTells.j3]
    rw [if_neg (by decide)]; rfl
   ·simp only [if_true]
    have hRE:=RElems_ev o hok hto
    refine Ev.bind hRE ?_
    have hL:=OT_l1 (l0:=l0) (l1:=l1) (l2:=l2) ns hns (i : Int) (needsL o) o hto 0 (chain4 o) (by rw [hok]; rfl) (by rw [hok]; rfl) (hfin (needsL o) 0 (chain4 o) ⟨wr,hwr⟩) ns.length 0 (Nat.zero_add _)
    have hq1:=EqElems_ev (chain4 o) (chain4 o) (by rw [chain4_len]; have:=size4 hok; omega)
    have hq2:=EqElems_ev (needsL o) (needsL o) (by omega)
    rw [Zd rfl] at hq1 hq2
    rw [hok] at hK
    simp only [if_true] at hK
    rw [refNeeds_eq hok]
    refine Ev.step (fun k => by simp only [w4_OpTells.j2]; rfl) (Ev.bind hK ?_)
    simp only [w4_num.f,Option.bind_some,if_true]
    refine Ev.bind hq1 ?_
    simp only [if_true]
    refine Ev.bind hq2 ?_
    refine Ev.step (fun k => ?_) hL
    simp only [w4_OpTells.j3]
    rw [if_neg (by decide)]; rfl
  ·refine Ev.step (fun k => ?_) (hend i)
   simp only [w4_OpTells.l0]; rw [if_pos (by omega),Ze h10]
end
theorem PureOpTells (l0 : List SOp) (l1 : List SElem) (l2 : List Int) (hg : GoodAsk4 l0 l1 l2) : ∃ k,w4_OpTells.f k l0 l1 l2 = some true:=by
 obtain ⟨b,hb,hsm⟩:=Heavy4 hg
 have : Ev (fun k => w4_OpTells.f k l0 l1 l2) true:=by
  refine Ev.bind hb ?_
  cases b
  ·obtain ⟨h0,h1,h2,h3⟩:=hsm rfl
   have hl : ([0,1,(-1),11,12] : List Int).length + l2.length < 17592186044416:=by simp only [List.length_cons,List.length_nil]; omega
   have:=OT_l0 (l0:=l0) (l1:=l1) (l2:=l2) (([0,1,(-1),11,12] : List Int) ++ l2) (by rw [List.length_append]; simp only [List.length_cons,List.length_nil]; omega) h0 h1 h2 l0.length 0 (Nat.zero_add _)
   refine Ev.congr (fun k => ?_) this
   simp only [Bool.false_eq_true,if_false,Option.bind_some]
   rw [if_pos hl]
   rfl
  ·exact Ev.now _
 exact this.rounds
end
end Go.Proofs.YtonoaflfobajcaaDoor.L
end
