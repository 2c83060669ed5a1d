/- Part 7 of the proof that for every argument the law OpForms answers true: ops of each form, with each part spoilt by itself, may be, or not, as the page says: by ops made here. -/
import Derived.Test.YtonoaflfobajcaaDoorZOF6
import Derived.Lib.RuneCountTail
section
namespace Go.Proofs.YtonoaflfobajcaaDoor.L
open Go.RowKit Go.Proofs.YtonoaflfobajcaaDoorW.PrintWords Go.Proofs.YtonoaflfobajcaaDoorW.PrintLast Go.Proofs.YtonoaflfobajcaaDoorW.PrintMore
set_option linter.unusedVariables false
set_option linter.unusedSimpArgs false
set_option maxHeartbeats 40000000
set_option maxRecDepth 1000000
section
theorem ref1_Rune_f (r : Int) : r1_Rune.f r = some (runeOk r):=by
 unfold r1_Rune.f runeOk
 by_cases h10 : r = 10
 ·simp [h10]
 ·have e10 : (r == 10) = false:=by simp [h10]
  rw [if_neg h10,e10,Bool.false_or]
  by_cases h1 : 32 <= r <;> by_cases h2 : r <= 1114111 <;> by_cases h3 : r = 127 <;> by_cases h4 : r = 65533 <;> by_cases h5 : r <= 55295 <;> by_cases h6 : 57344 <= r <;> (first | (exfalso; omega) | simp [h1,h2,h3,h4,h5,h6])
theorem decodeN_le (n b0 b1 b2 b3 : Nat) (h : 1 <= n) : (Lib.decodeN n b0 b1 b2 b3).2 <= n:=by
 unfold Lib.decodeN
 repeat' split
 all_goals (simp_all <;> omega)
theorem decode_le (s : ByteArray) (i : Nat) (h : i < s.size) : 1 <= (Utf8.decode s i).2 /\ i + (Utf8.decode s i).2 <= s.size:=by
 refine ⟨Lib.decode_width_pos s i h, ?_⟩
 rw [Lib.decode_at]
 have:=decodeN_le (s.size - i) (s.get! i).toNat (s.get! (i + 1)).toNat (s.get! (i + 2)).toNat (s.get! (i + 3)).toNat (by omega)
 omega
theorem decFrom_more (s : ByteArray) : ∀ d pos f,s.size <= pos + d -> d <= f -> Qbs s f pos = Qbs s d pos
 | 0,pos,f,h,_ => by cases f <;> simp [Qbs,Nat.not_lt.2 (show s.size <= pos by omega)]
 | d + 1,pos,0,h,hf => by omega
 | d + 1,pos,f + 1,h,hf => by
  unfold Qbs
  by_cases hp : pos < s.size
  ·rw [if_pos hp,if_pos hp,decFrom_more s d _ f (by have:=(decode_le s pos hp).1; omega) (by omega)]
  ·rw [if_neg hp,if_neg hp]
theorem decFrom_step (s : ByteArray) (pos : Nat) (h : pos < s.size) : Qbs s s.size pos = ((Utf8.decode s pos).1 : Int) :: Qbs s s.size (pos + (Utf8.decode s pos).2):=by
 have hw:=decode_le s pos h
 rw [decFrom_more s (s.size - pos) pos s.size (by omega) (by omega),show s.size - pos = (s.size - pos - 1) + 1 by omega]
 conv => lhs; unfold Qbs
 rw [if_pos h,<- decFrom_more s (s.size - pos - 1) (pos + (Utf8.decode s pos).2) s.size (by omega) (by omega)]
theorem decFrom_end (s : ByteArray) (pos : Nat) (h : s.size <= pos) : Qbs s s.size pos = []:=by
 rw [decFrom_more s 0 pos s.size (by omega) (by omega)]; rfl
theorem decodeGo_at (s : ByteArray) (pos : Nat) (h : pos < s.size) : Lib.decodeGo (s.extract pos s.size) = Utf8.decode s pos:=by
 unfold Lib.decodeGo
 rw [if_neg (by rw [ByteArray.size_extract]; omega),Lib.tail_decode,Nat.add_zero]
def runesR (s : ByteArray) (acc : List Int) (pos : Nat) : List Int × Bool:=if (Qbs s s.size pos).all runeOk = true then (acc ++ Qbs s s.size pos,true) else ([],false)
theorem Runes_loop (s : ByteArray) (hs : s.size <= 35184372088000) : ∀ d pos (acc : List Int),s.size <= pos + d -> pos <= s.size -> acc.length <= pos -> Ev (fun k => r1_Runes.l0 k s acc (pos : Int)) (runesR s acc pos)
 | 0,pos,acc,h,hp,_ => by
  unfold runesR
  rw [decFrom_end s pos (by omega),List.all_nil,if_pos rfl,List.append_nil]
  exact Ev.step (f:=fun _ => some (acc,true)) (fun k => by simp only [r1_Runes.l0]; rw [if_neg (by omega)]) (Ev.now _)
 | d + 1,pos,acc,h,hp,ha => by
  by_cases hlt : pos < s.size
  ·have hw:=decode_le s pos hlt
   have ih:=Runes_loop s hs d (pos + (Utf8.decode s pos).2) (acc ++ [((Utf8.decode s pos).1 : Int)]) (by omega) hw.2 (by simp; omega)
   have hf : utf8_DecodeRuneInString.f (s.extract (pos : Int).toNat s.size) = some (((Utf8.decode s pos).1 : Int),((Utf8.decode s pos).2 : Int)):=by
    unfold utf8_DecodeRuneInString.f
    rw [Int.toNat_natCast,decodeGo_at s pos hlt]
   unfold runesR at ih ⊢
   rw [decFrom_step s pos hlt,List.all_cons]
   cases hr : runeOk ((Utf8.decode s pos).1 : Int)
   ·simp only [Bool.false_and,Bool.false_eq_true,if_false]
    refine Ev.step (f:=fun _ => some ([],false)) (fun k => ?_) (Ev.now _)
    simp only [r1_Runes.l0]
    rw [if_pos (by omega),if_pos (by omega),if_pos (by omega),hf,Option.bind_some,ref1_Rune_f,Option.bind_some,hr]
    rfl
   ·simp only [Bool.true_and]
    rw [List.append_assoc,List.singleton_append] at ih
    refine Ev.step (fun k => ?_) ih
    simp only [r1_Runes.l0]
    rw [if_pos (by omega),if_pos (by omega),if_pos (by omega),hf,Option.bind_some,ref1_Rune_f,Option.bind_some,hr,if_pos rfl,if_pos (by omega),Qar (by omega) (by omega)]
    simp only [Int.natCast_add]
  ·have hpe : pos = s.size:=by omega
   unfold runesR
   rw [decFrom_end s pos (by omega),List.all_nil,if_pos rfl,List.append_nil]
   exact Ev.step (f:=fun _ => some (acc,true)) (fun k => by simp only [r1_Runes.l0]; rw [if_neg (by omega)]) (Ev.now _)
theorem Runes_ev (s : ByteArray) (hs : s.size <= 35184372088000) : Ev (fun k => r1_Runes.f k s) (if textOk s = true then (runesOf s,true) else ([],false)) :=
 Runes_loop s hs s.size 0 [] (by omega) (Nat.zero_le _) (Nat.le_refl _)
theorem ref4_Begin_f (e : SElem) : r4_Begin.f e.f0 e.f1 e.f2 = some (Qak e):=rfl
theorem ref0_Between_f (a b c : Int) : r0_Between.f a b c = some (decide (b <= a) && decide (a <= c)):=by
 unfold r0_Between.f
 by_cases h : b <= a <;> simp [h]
theorem ref4_name_f (a b : Int) : r4_name.f a b = some (nameOk a b):=by
 unfold r4_name.f nameOk
 rw [ref0_Between_f,ref0_Between_f]
 simp only [Option.bind_some]
 cases decide (1 <= a) <;> cases decide (a <= 8) <;> simp
theorem ref0_Num_f (a b : Int) : r0_Num.f a b = some (decide (0 <= a) && decide (a <= b)):=by
 unfold r0_Num.f
 by_cases h : 0 <= a <;> simp [h]
theorem ref4_Elem_f (e : SElem) : r4_Elem.f e.f0 e.f1 e.f2 = some (Qbx e):=by
 unfold r4_Elem.f Qbx
 rw [ref4_Begin_f,ref4_name_f,ref0_Num_f]
 simp only [Option.bind_some]
 have : decide (e.f2 <= 11) = decide (e.f2 < 12):=decide_eq_decide.2 (by omega)
 rw [this]
 cases Qak e <;> cases nameOk e.f0 e.f1 <;> simp
theorem ref4_Less_f (a b : SElem) : r4_Less.f a.f0 a.f1 a.f2 b.f0 b.f1 b.f2 = some (Qaq a b):=by
 unfold r4_Less.f Qaq
 by_cases h0 : a.f0 = b.f0
 ·by_cases h1 : a.f1 = b.f1
  ·simp [h0,h1]
  ·have : ¬ b.f0 < b.f0:=by omega
   simp [h0,h1]
 ·simp [h0]
theorem ref4_own_f (o : SOp) (e : SElem) : r4_own.f o.f0 o.f1 o.f2 o.f3.f0 o.f3.f1 o.f3.f2 o.f4 o.f5 o.f6 o.f7 o.f8 e.f0 e.f1 e.f2 = some (ownEl o e):=by
 unfold r4_own.f ownEl
 by_cases h : e.f0 = o.f0 <;> simp [h]
def Sm2 (o : SOp) : Prop:=o.f4.size <= 35184372088000 /\ o.f5.length <= 1000000000000000
theorem ref4_Op_l0 (o : SOp) (h : Sm2 o) : ∀ d i,i + d = o.f5.length ->
  Ev (fun k => r4_Op.l0 k (i : Int) o.f0 o.f1 o.f2 o.f3.f0 o.f3.f1 o.f3.f2 o.f4 o.f5 o.f6 o.f7 o.f8) (Qaw o (if i = 0 then none else some (Qaa o.f5 ((i : Int) - 1))) (o.f5.drop i))
 | 0,i,hi => by
  rw [List.drop_eq_nil_of_le (by omega)]
  exact Ev.step (f:=fun _ => some true) (fun k => by simp only [r4_Op.l0]; rw [if_neg (by omega)]) (Ev.now _)
 | d + 1,i,hi => by
  have hlt : i < o.f5.length:=by omega
  have ih:=ref4_Op_l0 o h d (i + 1) (by omega)
  have hw : wrap64 ((i : Int) + 1) = ((i + 1 : Nat) : Int):=wrap4 hlt (by have:=h.2; omega)
  have hw1 : wrap64 ((i : Int) - 1) = (i : Int) - 1:=Qar (by omega) (by have:=h.2; omega)
  have hd : o.f5.drop i = Qaa o.f5 (i : Int) :: o.f5.drop (i + 1):=by rw [Qaj _ _ hlt]; exact List.drop_eq_getElem_cons hlt
  rw [hd]
  generalize hx : Qaa o.f5 (i : Int) = x at ih ⊢
  have hp1 : Qaa o.f5 (((i + 1 : Nat) : Int) - 1) = x:=by rw [show (((i + 1 : Nat) : Int) - 1) = (i : Int) by omega]; exact hx
  rw [if_neg (show ¬ i + 1 = 0 by omega),hp1] at ih
  have unf : ∀ k,r4_Op.l0 (k + 1) (i : Int) o.f0 o.f1 o.f2 o.f3.f0 o.f3.f1 o.f3.f2 o.f4 o.f5 o.f6 o.f7 o.f8 =
    (if Qak x = true then some false else if Qbx x = true then (if ownEl o x = true then some false else if (i : Int) > 0 then
     (if Qaq (Qaa o.f5 ((i : Int) - 1)) x = true then r4_Op.l0 k ((i + 1 : Nat) : Int) o.f0 o.f1 o.f2 o.f3.f0 o.f3.f1 o.f3.f2 o.f4 o.f5 o.f6 o.f7 o.f8 else some false)
     else r4_Op.l0 k ((i + 1 : Nat) : Int) o.f0 o.f1 o.f2 o.f3.f0 o.f3.f1 o.f3.f2 o.f4 o.f5 o.f6 o.f7 o.f8) else some false):=by
   intro k
   simp only [r4_Op.l0]
   rw [if_pos (by omega),if_pos (by omega),hx,ref4_Begin_f,ref4_Elem_f,ref4_own_f,hw,hw1]
   simp only [Option.bind_some]
   by_cases hi0 : (i : Int) > 0
   ·simp only [if_pos hi0]
    rw [if_pos (show (0 : Int) <= (i : Int) - 1 by omega),if_pos (show (i : Int) - 1 < (o.f5.length : Int) by omega),ref4_Less_f]
    rfl
   ·simp only [if_neg hi0]
  unfold Qaw
  have no : ∀ c : Bool,c = false -> (∀ k,r4_Op.l0 (k + 1) (i : Int) o.f0 o.f1 o.f2 o.f3.f0 o.f3.f1 o.f3.f2 o.f4 o.f5 o.f6 o.f7 o.f8 = some false) -> Ev (fun k => r4_Op.l0 k (i : Int) o.f0 o.f1 o.f2 o.f3.f0 o.f3.f1 o.f3.f2 o.f4 o.f5 o.f6 o.f7 o.f8) c:=by
   intro c hc hk; subst hc; exact Ev.step (f:=fun _ => some false) hk (Ev.now _)
  cases hb : Qak x
  ·cases he : Qbx x
   ·exact no _ (by simp) (fun k => by rw [unf,hb,he]; simp)
   ·cases ho : ownEl o x
    ·by_cases hi0 : i = 0
     ·subst hi0
      simp only [if_true,Bool.not_false,Bool.true_and]
      exact Ev.step (fun k => by rw [unf,hb,he,ho]; simp) ih
     ·simp only [if_neg hi0]
      cases hl : Qaq (Qaa o.f5 ((i : Int) - 1)) x
      ·exact no _ (by simp [hl]) (fun k => by rw [unf,hb,he,ho,hl]; simp; omega)
      ·simp only [Bool.not_false,Bool.true_and]
       exact Ev.step (fun k => by rw [unf,hb,he,ho,hl]; simp) ih
    ·exact no _ (by simp) (fun k => by rw [unf,hb,he,ho]; simp)
  ·exact no _ (by simp) (fun k => by rw [unf,hb]; simp)
theorem Op_l0_start (o : SOp) (h : Sm2 o) : Ev (fun k => r4_Op.l0 k 0 o.f0 o.f1 o.f2 o.f3.f0 o.f3.f1 o.f3.f2 o.f4 o.f5 o.f6 o.f7 o.f8) (Qaw o none o.f5):=by
 have:=ref4_Op_l0 o h o.f5.length 0 (Nat.zero_add _)
 simpa using this
theorem Op_j1 (o : SOp) (h : Sm2 o) (b : Bool) : Ev (fun k => r4_Op.j1 k b o.f0 o.f1 o.f2 o.f3.f0 o.f3.f1 o.f3.f2 o.f4 o.f5 o.f6 o.f7 o.f8) (!b && Qaw o none o.f5):=by
 cases b
 ·simp only [Bool.not_false,Bool.true_and]
  exact Ev.step (fun k => by simp only [r4_Op.j1]; rw [if_neg (by decide)]) (Op_l0_start o h)
 ·simp only [Bool.not_true,Bool.false_and]
  exact Ev.step (f:=fun _ => some false) (fun k => by simp only [r4_Op.j1]; rw [if_pos True.intro]) (Ev.now _)
def restOk (o : SOp) : Bool:=textOk o.f4 && (decide (Qbb o <= 12) && (Qbx o.f3 && (!(decide (Qbb o = 0) && !Qak o.f3) && (!ownEl o o.f3 && Qaw o none o.f5))))
theorem Op_j0 (o : SOp) (h : Sm2 o) (b : Bool) : Ev (fun k => r4_Op.j0 k b o.f0 o.f1 o.f2 o.f3.f0 o.f3.f1 o.f3.f2 o.f4 o.f5 o.f6 o.f7 o.f8) (!b && restOk o):=by
 cases b
 ·simp only [Bool.not_false,Bool.true_and]
  have hR:=Runes_ev o.f4 h.1
  unfold restOk
  obtain ⟨F,hF⟩ : ∃ F : Nat -> List Int × Bool -> Option Bool,F = (fun k bt => (if bt.2 = true then (if (bt.1.length : Int) > 12 then (r4_Op.j1 k true o.f0 o.f1 o.f2 o.f3.f0 o.f3.f1 o.f3.f2 o.f4 o.f5 o.f6 o.f7 o.f8) else ((r4_Elem.f o.f3.f0 o.f3.f1 o.f3.f2).bind fun t176 => (if t176 = true then (if (bt.1.length : Int) = 0 then ((r4_Begin.f o.f3.f0 o.f3.f1 o.f3.f2).bind fun t177 => (if t177 = true then ((r4_own.f o.f0 o.f1 o.f2 o.f3.f0 o.f3.f1 o.f3.f2 o.f4 o.f5 o.f6 o.f7 o.f8 o.f3.f0 o.f3.f1 o.f3.f2).bind fun t178 => (r4_Op.j1 k t178 o.f0 o.f1 o.f2 o.f3.f0 o.f3.f1 o.f3.f2 o.f4 o.f5 o.f6 o.f7 o.f8)) else (r4_Op.j1 k true o.f0 o.f1 o.f2 o.f3.f0 o.f3.f1 o.f3.f2 o.f4 o.f5 o.f6 o.f7 o.f8))) else ((r4_own.f o.f0 o.f1 o.f2 o.f3.f0 o.f3.f1 o.f3.f2 o.f4 o.f5 o.f6 o.f7 o.f8 o.f3.f0 o.f3.f1 o.f3.f2).bind fun t179 => (r4_Op.j1 k t179 o.f0 o.f1 o.f2 o.f3.f0 o.f3.f1 o.f3.f2 o.f4 o.f5 o.f6 o.f7 o.f8))) else (r4_Op.j1 k true o.f0 o.f1 o.f2 o.f3.f0 o.f3.f1 o.f3.f2 o.f4 o.f5 o.f6 o.f7 o.f8)))) else (r4_Op.j1 k true o.f0 o.f1 o.f2 o.f3.f0 o.f3.f1 o.f3.f2 o.f4 o.f5 o.f6 o.f7 o.f8))):=⟨_,rfl⟩
  refine Ev.step (f:=fun k => (r1_Runes.f k o.f4).bind (F k)) (fun k => ?_) (Ev.bind hR ?_)
  ·simp only [r4_Op.j0]; rw [if_neg (by decide),hF]
  ·rw [hF]
   have hn : ∀ x : Bool,Ev (fun k => r4_Op.j1 k true o.f0 o.f1 o.f2 o.f3.f0 o.f3.f1 o.f3.f2 o.f4 o.f5 o.f6 o.f7 o.f8) (x && false):=fun x => by rw [Bool.and_false]; exact Op_j1 o h true
   simp only [ref4_Elem_f,ref4_own_f,ref4_Begin_f,Option.bind_some]
   cases ht : textOk o.f4
   ·simp only [Bool.false_eq_true,if_false,Bool.false_and]
    exact Op_j1 o h true
   ·simp only [if_true,Bool.true_and]
    have hl : (runesOf o.f4).length = Qbb o:=rfl
    rw [hl]
    by_cases h12 : Qbb o <= 12
    ·have e12 : decide (Qbb o <= 12) = true:=Zd h12
     rw [e12,Bool.true_and]
     have n12 : ¬ ((Qbb o : Int) > 12):=by omega
     simp only [if_neg n12]
     cases he : Qbx o.f3
     ·simp only [Bool.false_eq_true,if_false,Bool.false_and]
      exact Op_j1 o h true
     ·simp only [if_true,Bool.true_and]
      by_cases h0 : Qbb o = 0
      ·have h0i : (Qbb o : Int) = 0:=by omega
       simp only [if_pos h0i,h0,decide_true,Bool.true_and,Bool.not_not]
       cases hb : Qak o.f3
       ·simp only [Bool.false_eq_true,if_false,Bool.false_and]
        exact Op_j1 o h true
       ·simp only [if_true,Bool.true_and]
        exact Op_j1 o h _
      ·have h0i : ¬ (Qbb o : Int) = 0:=by omega
       have e0 : decide (Qbb o = 0) = false:=Ze h0
       simp only [if_neg h0i,e0,Bool.false_and,Bool.not_false,Bool.true_and]
       exact Op_j1 o h _
    ·have e12 : decide (Qbb o <= 12) = false:=Ze h12
     rw [e12,Bool.false_and]
     have n12 : (Qbb o : Int) > 12:=by omega
     simp only [if_pos n12]
     exact Op_j1 o h true
 ·simp only [Bool.not_true,Bool.false_and]
  exact Ev.step (f:=fun _ => some false) (fun k => by simp only [r4_Op.j0]; rw [if_pos True.intro]) (Ev.now _)
theorem editOk_rest (o : SOp) : editOk o = (o.f6 == 0 && (o.f7 == 0 && (o.f8 == 0 && (decide (o.f5.length <= 200) && (!(o.f4.toList.isEmpty && o.f5.isEmpty) && restOk o))))):=by
 unfold editOk restOk goneOk
 have : decide (Qbb o = 0) = o.f4.toList.isEmpty:=by
  rw [Bool.eq_iff_iff,decide_eq_true_eq]; exact (runesOf_nil4 o.f4)
 rw [this]
 cases o.f6 == 0 <;> cases o.f7 == 0 <;> cases o.f8 == 0 <;> cases decide (o.f5.length <= 200) <;> cases o.f4.toList.isEmpty <;> cases o.f5.isEmpty <;> cases textOk o.f4 <;> cases decide (Qbb o <= 12) <;> cases Qbx o.f3 <;> cases Qak o.f3 <;> cases ownEl o o.f3 <;> cases Qaw o none o.f5 <;> rfl
theorem Op_ev (o : SOp) (h : Sm2 o) : Ev (fun k => r4_Op.f k o.f0 o.f1 o.f2 o.f3.f0 o.f3.f1 o.f3.f2 o.f4 o.f5 o.f6 o.f7 o.f8) (opOk o):=by
 unfold r4_Op.f opOk
 simp only [ref4_name_f,ref4_Begin_f,ref0_Num_f,Option.bind_some]
 cases nameOk o.f0 o.f1
 ·simp only [Bool.false_eq_true,if_false,Bool.false_and]; exact Ev.now _
 ·simp only [if_true,Bool.true_and]
  by_cases h2 : o.f2 = 2
  ·have h1 : ¬ o.f2 = 1:=by omega
   rw [if_neg h1]
   simp only [h2,if_true,beq_self_eq_true,Bool.true_and]
   unfold toggleOk
   refine Ev.congr (fun k => ?_) (Ev.now _)
   have hl : ((o.f5.length : Int) == 0) = o.f5.isEmpty:=isEmpty_len _
   have ht : (o.f4.toList = ([] : List UInt8)) ↔ o.f4.toList.isEmpty = true:=toList_isEmpty _
   simp only [hl,ht]
   cases nameOk o.f6 o.f7
   ·simp
   ·by_cases e6 : o.f6 = o.f0 <;> by_cases e7 : o.f7 = o.f1 <;> by_cases e8 : 0 <= o.f8 <;> by_cases e9 : o.f8 <= 268435456 <;> cases Qak o.f3 <;> cases o.f4.toList.isEmpty <;> simp [e6,e7,e8,e9]
  ·have e2 : (o.f2 == 2) = false:=by simp [h2]
   simp only [if_neg h2]
   by_cases h1 : o.f2 = 1
   ·simp only [if_pos h1]
    rw [editOk_rest]
    by_cases e6 : o.f6 = 0
    ·simp only [if_pos e6]
     by_cases e7 : o.f7 = 0
     ·simp only [if_pos e7]
      by_cases e8 : o.f8 = 0
      ·simp only [if_pos e8]
       have b6 : (o.f6 == 0) = true:=by simp [e6]
       have b7 : (o.f7 == 0) = true:=by simp [e7]
       have b8 : (o.f8 == 0) = true:=by simp [e8]
       rw [b6,b7,b8,Bool.true_and,Bool.true_and,Bool.true_and]
       by_cases e5 : o.f5.length <= 200
       ·have n5 : ¬ (o.f5.length : Int) > 200:=by omega
        have d5 : decide (o.f5.length <= 200) = true:=Zd e5
        simp only [if_neg n5,d5,Bool.true_and,isEmpty_len]
        by_cases e4 : o.f4.toList = ([] : List UInt8)
        ·simp only [if_pos e4,List.isEmpty_iff.2 e4,Bool.true_and]; exact Op_j0 o h _
        ·have : o.f4.toList.isEmpty = false:=by cases hh : o.f4.toList.isEmpty; rfl; exact absurd (List.isEmpty_iff.1 hh) e4
         simp only [if_neg e4,this,Bool.false_and]; exact Op_j0 o h _
       ·have n5 : (o.f5.length : Int) > 200:=by omega
        have d5 : decide (o.f5.length <= 200) = false:=Ze e5
        simp only [if_pos n5,d5,Bool.false_and]; exact Op_j0 o h _
      ·have b8 : (o.f8 == 0) = false:=by simp [e8]
       simp only [if_neg e8,b8,Bool.false_and,Bool.and_false]; exact Op_j0 o h _
     ·have b7 : (o.f7 == 0) = false:=by simp [e7]
      simp only [if_neg e7,b7,Bool.false_and,Bool.and_false]; exact Op_j0 o h _
    ·have b6 : (o.f6 == 0) = false:=by simp [e6]
     simp only [if_neg e6,b6,Bool.false_and]; exact Op_j0 o h _
   ·simp only [if_neg h1,e2,Bool.false_and]; have hh:=Op_j0 o h true; simp only [Bool.not_true,Bool.false_and] at hh; exact hh
theorem eqE_iff (x : SElem) (a b c : Int) : (x.f0 == a && (x.f1 == b && (x.f2 == c))) = decide (x = ⟨a,b,c⟩):=by
 rw [Bool.eq_iff_iff]
 simp only [Bool.and_eq_true,beq_iff_eq,decide_eq_true_eq]
 cases x
 rw [SElem.mk.injEq]
theorem EqElems_loop (a b : List SElem) (hab : a.length = b.length) (hl : a.length <= 1000000000) : ∀ d i,i + d = a.length -> Ev (fun k => r0_EqElems.l0 k a b (i : Int)) (decide (a.drop i = b.drop i))
 | 0,i,h => by
  rw [List.drop_eq_nil_of_le (by omega),List.drop_eq_nil_of_le (by omega)]
  exact Ev.step (f:=fun _ => some true) (fun k => by simp only [r0_EqElems.l0]; rw [if_neg (by omega)]) (Ev.now _)
 | d + 1,i,h => by
  have ih:=EqElems_loop a b hab hl d (i + 1) (by omega)
  have ha : i < a.length:=by omega
  have hb : i < b.length:=by omega
  rw [List.drop_eq_getElem_cons ha,List.drop_eq_getElem_cons hb]
  have hc : (!(((Qaa a (i : Int)).f0) == ((Qaa b (i : Int)).f0)) || (!(((Qaa a (i : Int)).f1) == ((Qaa b (i : Int)).f1)) || (!(((Qaa a (i : Int)).f2) == ((Qaa b (i : Int)).f2))))) = !decide (a[i] = b[i]):=by
   rw [Qaj _ _ ha,Qaj _ _ hb]
   have:=eqE_iff a[i] b[i].f0 b[i].f1 b[i].f2
   rw [<- this]
   cases a[i].f0 == b[i].f0 <;> cases a[i].f1 == b[i].f1 <;> cases a[i].f2 == b[i].f2 <;> rfl
  by_cases he : a[i] = b[i]
  ·have : decide (a[i] :: a.drop (i + 1) = b[i] :: b.drop (i + 1)) = decide (a.drop (i + 1) = b.drop (i + 1)):=decide_eq_decide.2 (by rw [List.cons.injEq]; exact ⟨fun h => h.2,fun h => ⟨he,h⟩⟩)
   rw [this]
   refine Ev.step (fun k => ?_) ih
   simp only [r0_EqElems.l0,hc]
   rw [if_pos (by omega),if_pos (by omega),if_pos (by omega),if_neg (by simp [he]),wrap4 ha (by omega)]
  ·have : decide (a[i] :: a.drop (i + 1) = b[i] :: b.drop (i + 1)) = false:=Ze (by rw [List.cons.injEq]; exact fun h => he h.1)
   rw [this]
   refine Ev.step (f:=fun _ => some false) (fun k => ?_) (Ev.now _)
   simp only [r0_EqElems.l0,hc]
   rw [if_pos (by omega),if_pos (by omega),if_pos (by omega),if_pos (by simp [he])]
theorem EqElems_ev (a b : List SElem) (hl : a.length <= 1000000000) : Ev (fun k => r0_EqElems.f k a b) (decide (a = b)):=by
 by_cases hab : a.length = b.length
 ·have:=EqElems_loop a b hab hl a.length 0 (Nat.zero_add _)
  simp only [List.drop_zero] at this
  refine Ev.congr (fun k => ?_) this
  unfold r0_EqElems.f
  rw [if_pos (by omega)]
  rfl
 ·have : decide (a = b) = false:=by simp; rintro rfl; exact hab rfl
  rw [this]
  refine Ev.congr (fun k => ?_) (Ev.now false)
  unfold r0_EqElems.f
  rw [if_neg (by omega)]
theorem CopyOp4 (o : SOp) (hl : o.f5.length <= 1000000000000) : Ev (fun k => r0_CopyOp.f k o.f0 o.f1 o.f2 o.f3.f0 o.f3.f1 o.f3.f2 o.f4 o.f5 o.f6 o.f7 o.f8) (o.f0,o.f1,o.f2,o.f3.f0,o.f3.f1,o.f3.f2,o.f4,o.f5,o.f6,o.f7,o.f8) :=
 Ev.bind (f:=fun _ t => some (o.f0,o.f1,o.f2,o.f3.f0,o.f3.f1,o.f3.f2,o.f4,t,o.f6,o.f7,o.f8)) (copyE_ev o.f5 hl) (Ev.now _)
end
section
theorem wakes4_ev : Ev (fun k => w4_wakes.f k) true:=Ev.of w4_wakes.mono (by decide +kernel : w4_wakes.f 60 = some true)
section
variable {l0 : List SOp} {l1 : List SElem} {l2 : List Int}
theorem OF_j2 (L : List SOp) (x5 x6 : Int) (e0 e1 e2 : Int) (o : SOp) (ht : tiny4 o) (h6 : 0 <= x6 /\ x6 < 22) (hn : Ev (fun k => w4_OpForms.l1 k L x5 (x6 + 1) l0 l1 l2 e0 e1 e2) true) :
  Ev (fun k => w4_OpForms.j2 k L x5 x6 l0 l1 l2 e0 e1 e2 o.f0 o.f1 o.f2 o.f3.f0 o.f3.f1 o.f3.f2 o.f4 o.f5 o.f6 o.f7 o.f8) true:=by
 have hs:=tiny4_Sm ht
 have hN:=needs4 o hs.1 (by have:=ht.2; omega)
 have hR:=refNeeds4 o (by have:=ht.2; omega)
 have hO:=Op_ev o ⟨by have:=ht.1; omega,by have:=ht.2; omega⟩
 have hC:=Check4 o hs
 have hj : Ev (fun k => w4_OpForms.j3 k L x5 x6 false l0 l1 l2 e0 e1 e2) true:=by
  refine Ev.step (fun k => ?_) hn
  simp only [w4_OpForms.j3]
  rw [if_neg (by decide),Qar (by omega) (by omega)]
 refine Ev.step (fun k => by simp only [w4_OpForms.j2]; rw [hN,Option.bind_some]) (Ev.bind hO (Ev.bind hC ?_))
 cases h : opOk o
 ·refine Ev.congr (fun k => ?_) hj
  simp only [w4_num.f,Option.bind_some,Bool.false_eq_true,if_false]
  rw [if_neg (by decide),if_neg (by decide)]
 ·refine Ev.congr (f:=fun k => (r0_EqElems.f k (needsL o) (needsL o)).bind fun t304 => w4_OpForms.j3 k L x5 x6 (!t304) l0 l1 l2 e0 e1 e2) (fun k => ?_) (Ev.bind (f:=fun k t304 => w4_OpForms.j3 k L x5 x6 (!t304) l0 l1 l2 e0 e1 e2) (EqElems_ev (needsL o) (needsL o) (by have:=needs_len o; have:=ht.2; omega)) ?_)
  ·simp only [w4_num.f,Option.bind_some,if_true]
   rw [if_neg (by decide),if_neg (by decide),hR,Option.bind_some,refNeeds_eq h]
  ·rw [Zd rfl]
   exact hj
theorem OF_j2f (L : List SOp) (x5 x6 : Int) (e0 e1 e2 : Int) (a0 a1 a2 a3 a4 a5 : Int) (a6 : ByteArray) (a7 : List SElem) (a8 a9 a10 : Int) (h6 : 0 <= x6 /\ x6 < 22) (hn : Ev (fun k => w4_OpForms.l1 k L x5 (x6 + 1) l0 l1 l2 e0 e1 e2) true) (ht6 : a6.size <= 4000) (ht7 : a7.length <= 1000) :
  Ev (fun k => w4_OpForms.j2 k L x5 x6 l0 l1 l2 e0 e1 e2 a0 a1 a2 a3 a4 a5 a6 a7 a8 a9 a10) true :=
 OF_j2 L x5 x6 e0 e1 e2 ⟨a0,a1,a2,⟨a3,a4,a5⟩,a6,a7,a8,a9,a10⟩ ⟨ht6,ht7⟩ h6 hn
def tinyer (o : SOp) : Prop:=o.f4.size <= 100 /\ o.f5.length <= 100
theorem OF_l1 {L : List SOp} (hL : L.length <= 10) {i : Nat} (hi : i < L.length) (ht : tinyer L[i]) (e0 e1 e2 : Int) (hn : Ev (fun k => w4_OpForms.l0 k L ((i + 1 : Nat) : Int) l0 l1 l2 e0 e1 e2) true) :
  ∀ (d : Nat) (x6 : Int),x6 + d = 22 -> 0 <= x6 -> Ev (fun k => w4_OpForms.l1 k L (i : Int) x6 l0 l1 l2 e0 e1 e2) true
 | 0,x6,h,h0 => by
  refine Ev.step (fun k => ?_) hn
  simp only [w4_OpForms.l1]
  rw [if_neg (by omega),wrap4 hi (by omega)]
 | d + 1,x6,h,h0 => by
  have ih:=OF_l1 hL hi ht e0 e1 e2 hn d (x6 + 1) (by omega) (by omega)
  have hlt : x6 < 22:=by omega
  have i0 : (0 : Int) <= (i : Int):=by omega
  have i1 : (i : Int) < (L.length : Int):=by omega
  have hC:=CopyOp4 L[i] (by have:=ht.2; omega)
  have hrd:=rd4_Op L i hi
  generalize L[i] = o at ht hC hrd
  have t4:=ht.1
  have t5:=ht.2
  refine Ev.step (fun k => by simp only [w4_OpForms.l1]; rw [if_pos hlt,if_pos i0,if_pos i1,hrd]) (Ev.bind hC ?_)
  have h6 : x6 = 0 \/ x6 = 1 \/ x6 = 2 \/ x6 = 3 \/ x6 = 4 \/ x6 = 5 \/ x6 = 6 \/ x6 = 7 \/ x6 = 8 \/ x6 = 9 \/ x6 = 10 \/ x6 = 11 \/ x6 = 12 \/ x6 = 13 \/ x6 = 14 \/ x6 = 15 \/ x6 = 16 \/ x6 = 17 \/ x6 = 18 \/ x6 = 19 \/ x6 = 20 \/ x6 = 21:=by omega
  have hb : o.f5.length < 5864062014805:=by omega
  rcases h6 with rfl | rfl | rfl | rfl | rfl | rfl | rfl | rfl | rfl | rfl | rfl | rfl | rfl | rfl | rfl | rfl | rfl | rfl | rfl | rfl | rfl | rfl
  all_goals
   refine Ev.congr (fun k => by simp only [Int.reduceEq,if_false,if_true,hb]; rfl) (OF_j2f L (i : Int) _ e0 e1 e2 _ _ _ _ _ _ _ _ _ _ _ (by decide) ih ?_ ?_)
  all_goals first | (rw [List.length_append]; show _ + 1 <= 1000; omega) | omega | (show (_ : Nat) <= 4000; decide)
theorem OF_l0 {L : List SOp} (hL : L.length <= 10) (ht : ∀ o ∈ L,tinyer o) (e0 e1 e2 : Int) : ∀ d i,i + d = L.length -> Ev (fun k => w4_OpForms.l0 k L (i : Int) l0 l1 l2 e0 e1 e2) true
 | 0,i,h => by
  refine Ev.step (fun k => ?_) (Ev.bind (f:=fun _ t => some t) wakes4_ev (Ev.now _))
  simp only [w4_OpForms.l0]
  rw [if_neg (by omega),if_pos (by omega)]
 | d + 1,i,h => by
  have ih:=OF_l0 hL ht e0 e1 e2 d (i + 1) (by omega)
  refine Ev.step (fun k => ?_) (OF_l1 hL (i:=i) (by omega) (ht _ (List.getElem_mem (by omega))) e0 e1 e2 ih 22 0 (by decide) (by decide))
  simp only [w4_OpForms.l0]
  rw [if_pos (by omega)]
end
theorem PureOpForms (l0 : List SOp) (l1 : List SElem) (l2 : List Int) (_ : GoodAsk4 l0 l1 l2) : ∃ k,w4_OpForms.f k l0 l1 l2 = some true:=by
 have : Ev (fun k => w4_OpForms.f k l0 l1 l2) true:=by
  refine OF_l0 (by decide) ?_ 2 1 0 _ 0 (Nat.zero_add _)
  intro o ho
  simp only [List.mem_cons,List.not_mem_nil,or_false] at ho
  rcases ho with rfl | rfl | rfl | rfl <;> exact ⟨by decide,by decide⟩
 exact this.rounds
end
end Go.Proofs.YtonoaflfobajcaaDoor.L
end
