/- Part 12 of the proof that for every argument the law DocTells answers true: which elements of any row are visible, its text, how many toggles of any edit count, whether it is effective, any element's rune, and whether any op would be idle, are the page's, or the error is. -/
import Derived.Test.YtonoaflfobajcaaGreatDoorZDO11
import Derived.Lib.RuneCountTail
section
namespace Go.Proofs.YtonoaflfobajcaaGreatDoor.L
open Go.RowKit Go.Proofs.YtonoaflfobajcaaGreatDoorW.PrintWords Go.Proofs.YtonoaflfobajcaaGreatDoorW.PrintLast Go.Proofs.YtonoaflfobajcaaGreatDoorW.PrintMore
set_option linter.unusedVariables false
set_option linter.unusedSimpArgs false
set_option maxHeartbeats 40000000
set_option maxRecDepth 1000000
section
def tiny (o : SOp) : Prop:=o.f4.size <= 4000 /\ o.f5.length <= 1000
def Tiny (l : List SOp) : Prop:=∀ o ∈ l,tiny o
theorem OpsWeight_small (l : List SOp) (hl : l.length <= 140737488351232) (hs : ∀ o ∈ l,o.f4.size <= 140737488351232 /\ o.f5.length <= 140737488351232) : ∀ d i (t : Int),i + d = l.length -> 0 <= t -> t <= 200000000000000 ->
  ∃ r,Ev (fun k => w0_OpsWeight.l0 k l t (i : Int)) r /\ t <= r /\ r <= 400000000000000 /\ (r <= 900 -> ∀ j (hj : j < l.length),i <= j -> tiny l[j])
 | 0,i,t,h,h0,h1 => ⟨t,Ev.step (f:=fun _ => some t) (fun k => by simp only [w0_OpsWeight.l0]; rw [if_neg (by omega)]) (Ev.now _),Int.le_refl _,by omega,fun _ j hj hij => by omega⟩
 | d + 1,i,t,h,h0,h1 => by
  by_cases ht : t < 1048576
  ·have hlt : i < l.length:=by omega
   have hb:=hs _ (List.getElem_mem hlt)
   have hw : wrap64 (t + (wrap64 ((wrap64 (2 + (wrap64 ((l[i].f4.size : Int) / 4)))) + (l[i].f5.length : Int)))) = t + (2 + (l[i].f4.size : Int) / 4 + (l[i].f5.length : Int)):=by
    rw [Qak (i:=(l[i].f4.size : Int) / 4) (by omega) (by omega),Qak (i:=2 + (l[i].f4.size : Int) / 4) (by omega) (by omega),Qak (i:=2 + (l[i].f4.size : Int) / 4 + (l[i].f5.length : Int)) (by omega) (by omega),Qak (by omega) (by omega)]
   obtain ⟨r,hr,r1,r2,r3⟩:=OpsWeight_small l hl hs d (i + 1) (t + (2 + (l[i].f4.size : Int) / 4 + (l[i].f5.length : Int))) (by omega) (by omega) (by omega)
   rw [<- hw] at hr
   refine ⟨r,Ev.step (fun k => ?_) hr,by omega,r2,fun h9 j hj hij => ?_⟩
   ·simp only [w0_OpsWeight.l0]
    rw [if_pos (by omega),if_pos ht,if_pos (by omega),Qdc hlt (by omega),Qam _ _ hlt]
    rfl
   ·rcases Nat.lt_or_ge i j with hj2 | hj2
    ·exact r3 h9 j hj hj2
    ·obtain rfl : j = i:=by omega
     exact ⟨by omega,by omega⟩
  ·exact ⟨t,Ev.step (f:=fun _ => some t) (fun k => by simp only [w0_OpsWeight.l0]; rw [if_pos (by omega),if_neg ht]) (Ev.now _),Int.le_refl _,by omega,fun h9 => by omega⟩
theorem rd_LOp_nat (l : List (List SOp)) (i : Nat) (h : i < l.length) : Qde l (i : Int) = l[i]:=by unfold Qde; simp [h]
theorem Heavy_lp {l0 : List (List SOp)} {l1 : List SElem} {l2 : List SOp} {l3 : List Int} (hg : GoodAsk l0 l1 l2 l3) : ∀ d i (t : Int),i + d = l0.length -> 0 <= t -> t <= 900000000000000 ->
  ∃ b,Ev (fun k => w5_Heavy.l0 k t (i : Int) l0 l1 l2 l3) b /\ (b = false -> t <= 900 /\ ∀ j (hj : j < l0.length),i <= j -> l0[j].length <= 900 /\ Tiny l0[j])
 | 0,i,t,h,h0,h1 => ⟨_,Ev.step (f:=fun _ => some (decide (t > 900))) (fun k => by simp only [w5_Heavy.l0]; rw [if_neg (by omega)]) (Ev.now _),fun hb => ⟨by have:=of_decide_eq_false hb; omega,fun j hj hij => by omega⟩⟩
 | d + 1,i,t,h,h0,h1 => by
  by_cases ht : t < 1048576
  ·have hlt : i < l0.length:=by omega
   have hn:=hg.n0
   have hm:=hg.r0 _ (List.getElem_mem hlt)
   obtain ⟨q,hq,q1,q2,q3⟩:=OpsWeight_small l0[i] hm.1 hm.2 _ 0 (l0[i].length : Int) (Nat.zero_add _) (by omega) (by omega)
   obtain ⟨b,hr,r1⟩:=Heavy_lp hg d (i + 1) (t + q) (by omega) (by omega) (by omega)
   have hw : wrap64 (t + q) = t + q:=Qak (by omega) (by omega)
   refine ⟨b,Ev.step (fun k => ?_) (Ev.bind (f:=fun k q => w5_Heavy.l0 k (wrap64 (t + q)) ((i + 1 : Nat) : Int) l0 l1 l2 l3) hq (by rw [hw]; exact hr)),fun hb => ?_⟩
   ·simp only [w5_Heavy.l0]
    rw [if_pos (by omega),if_pos ht,if_pos (by omega),Qdc hlt (by omega),rd_LOp_nat _ _ hlt]
    rfl
   ·obtain ⟨k1,k2⟩:=r1 hb
    refine ⟨by omega,fun j hj hij => ?_⟩
    rcases Nat.lt_or_ge i j with hj2 | hj2
    ·exact k2 j hj hj2
    ·obtain rfl : j = i:=by omega
     refine ⟨by omega,fun o ho => ?_⟩
     obtain ⟨z,hz,rfl⟩:=List.getElem_of_mem ho
     exact q3 (by omega) z hz (Nat.zero_le _)
  ·exact ⟨_,Ev.step (f:=fun _ => some (decide (t > 900))) (fun k => by simp only [w5_Heavy.l0]; rw [if_pos (by omega),if_neg ht]) (Ev.now _),fun hb => by have:=of_decide_eq_false hb; omega⟩
theorem Heavy_small2 {l0 : List (List SOp)} {l1 : List SElem} {l2 : List SOp} {l3 : List Int} (hg : GoodAsk l0 l1 l2 l3) : ∃ b,Ev (fun k => w5_Heavy.f k l0 l1 l2 l3) b /\ (b = false -> (∀ x ∈ l0,x.length <= 900 /\ Tiny x) /\ l1.length <= 900 /\ l3.length <= 900 /\ Tiny l2):=by
 have n1:=hg.n1
 have n2:=hg.n2
 have n3:=hg.n3
 obtain ⟨q,hq,q1,q2,q3⟩:=OpsWeight_small l2 hg.n2 hg.r2 _ 0 (l2.length : Int) (Nat.zero_add _) (by omega) (by omega)
 have hw : wrap64 ((wrap64 ((l1.length : Int) + (l3.length : Int))) + q) = (l1.length : Int) + (l3.length : Int) + q:=by
  rw [Qak (i:=(l1.length : Int) + (l3.length : Int)) (by omega) (by omega),Qak (by omega) (by omega)]
 obtain ⟨b,hb,hr⟩:=Heavy_lp hg _ 0 ((l1.length : Int) + (l3.length : Int) + q) (Nat.zero_add _) (by omega) (by omega)
 refine ⟨b,Ev.bind (f:=fun k q => w5_Heavy.l0 k (wrap64 ((wrap64 ((l1.length : Int) + (l3.length : Int))) + q)) 0 l0 l1 l2 l3) hq (by rw [hw]; exact hb),fun h => ?_⟩
 obtain ⟨h1,h2⟩:=hr h
 refine ⟨fun x hx => ?_,by omega,by omega,fun o ho => by obtain ⟨z,hz,rfl⟩:=List.getElem_of_mem ho; exact q3 (by omega) z hz (Nat.zero_le _)⟩
 obtain ⟨j,hj,rfl⟩:=List.getElem_of_mem hx
 exact h2 j hj (Nat.zero_le _)
end
section
theorem ref1_Rune_f (r : Int) : r1_Rune.f r = some (runeOk r):=by
 unfold r1_Rune.f runeOk
 by_cases h10 : r = 10
 ·simp [h10]
 ·have e10 : (r == 10) = false:=by simp [h10]
  rw [if_neg h10,e10,Bool.false_or]
  by_cases h1 : 32 <= r <;> by_cases h2 : r <= 1114111 <;> by_cases h3 : r = 127 <;> by_cases h4 : r = 65533 <;> by_cases h5 : r <= 55295 <;> by_cases h6 : 57344 <= r <;> (first | (exfalso; omega) | simp [h1,h2,h3,h4,h5,h6])
theorem decodeN_le (n b0 b1 b2 b3 : Nat) (h : 1 <= n) : (Lib.decodeN n b0 b1 b2 b3).2 <= n:=by
 unfold Lib.decodeN
 repeat' split
 all_goals (simp_all <;> omega)
theorem decode_le (s : ByteArray) (i : Nat) (h : i < s.size) : 1 <= (Utf8.decode s i).2 /\ i + (Utf8.decode s i).2 <= s.size:=by
 refine ⟨Lib.decode_width_pos s i h, ?_⟩
 rw [Lib.decode_at]
 have:=decodeN_le (s.size - i) (s.get! i).toNat (s.get! (i + 1)).toNat (s.get! (i + 2)).toNat (s.get! (i + 3)).toNat (by omega)
 omega
theorem decFrom_more (s : ByteArray) : ∀ d pos f,s.size <= pos + d -> d <= f -> Qbu s f pos = Qbu s d pos
 | 0,pos,f,h,_ => by cases f <;> simp [Qbu,Nat.not_lt.2 (show s.size <= pos by omega)]
 | d + 1,pos,0,h,hf => by omega
 | d + 1,pos,f + 1,h,hf => by
  unfold Qbu
  by_cases hp : pos < s.size
  ·rw [if_pos hp,if_pos hp,decFrom_more s d _ f (by have:=(decode_le s pos hp).1; omega) (by omega)]
  ·rw [if_neg hp,if_neg hp]
theorem decFrom_step (s : ByteArray) (pos : Nat) (h : pos < s.size) : Qbu s s.size pos = ((Utf8.decode s pos).1 : Int) :: Qbu s s.size (pos + (Utf8.decode s pos).2):=by
 have hw:=decode_le s pos h
 rw [decFrom_more s (s.size - pos) pos s.size (by omega) (by omega),show s.size - pos = (s.size - pos - 1) + 1 by omega]
 conv => lhs; unfold Qbu
 rw [if_pos h,<- decFrom_more s (s.size - pos - 1) (pos + (Utf8.decode s pos).2) s.size (by omega) (by omega)]
theorem decFrom_end (s : ByteArray) (pos : Nat) (h : s.size <= pos) : Qbu s s.size pos = []:=by
 rw [decFrom_more s 0 pos s.size (by omega) (by omega)]; rfl
theorem decFrom_len (s : ByteArray) : ∀ f pos,(Qbu s f pos).length <= f
 | 0,_ => Nat.le_refl _
 | f + 1,pos => by
  unfold Qbu
  split
  ·simp only [List.length_cons]; have:=decFrom_len s f (pos + (Utf8.decode s pos).2); omega
  ·simp
theorem decodeGo_at (s : ByteArray) (pos : Nat) (h : pos < s.size) : Lib.decodeGo (s.extract pos s.size) = Utf8.decode s pos:=by
 unfold Lib.decodeGo
 rw [if_neg (by rw [ByteArray.size_extract]; omega),Lib.tail_decode,Nat.add_zero]
def runesR (s : ByteArray) (acc : List Int) (pos : Nat) : List Int × Bool:=if (Qbu s s.size pos).all runeOk = true then (acc ++ Qbu s s.size pos,true) else ([],false)
theorem Runes_loop (s : ByteArray) (hs : s.size <= 35184372088000) : ∀ d pos (acc : List Int),s.size <= pos + d -> pos <= s.size -> acc.length <= pos -> Ev (fun k => r1_Runes.l0 k s acc (pos : Int)) (runesR s acc pos)
 | 0,pos,acc,h,hp,_ => by
  unfold runesR
  rw [decFrom_end s pos (by omega),List.all_nil,if_pos rfl,List.append_nil]
  exact Ev.step (f:=fun _ => some (acc,true)) (fun k => by simp only [r1_Runes.l0]; rw [if_neg (by omega)]) (Ev.now _)
 | d + 1,pos,acc,h,hp,ha => by
  by_cases hlt : pos < s.size
  ·have hw:=decode_le s pos hlt
   have ih:=Runes_loop s hs d (pos + (Utf8.decode s pos).2) (acc ++ [((Utf8.decode s pos).1 : Int)]) (by omega) hw.2 (by simp; omega)
   have hf : utf8_DecodeRuneInString.f (s.extract (pos : Int).toNat s.size) = some (((Utf8.decode s pos).1 : Int),((Utf8.decode s pos).2 : Int)):=by
    unfold utf8_DecodeRuneInString.f
    rw [Int.toNat_natCast,decodeGo_at s pos hlt]
   unfold runesR at ih ⊢
   rw [decFrom_step s pos hlt,List.all_cons]
   cases hr : runeOk ((Utf8.decode s pos).1 : Int)
   ·simp only [Bool.false_and,Bool.false_eq_true,if_false]
    refine Ev.step (f:=fun _ => some ([],false)) (fun k => ?_) (Ev.now _)
    simp only [r1_Runes.l0]
    rw [if_pos (by omega),if_pos (by omega),if_pos (by omega),hf,Option.bind_some,ref1_Rune_f,Option.bind_some,hr]
    rfl
   ·simp only [Bool.true_and]
    rw [List.append_assoc,List.singleton_append] at ih
    refine Ev.step (fun k => ?_) ih
    simp only [r1_Runes.l0]
    rw [if_pos (by omega),if_pos (by omega),if_pos (by omega),hf,Option.bind_some,ref1_Rune_f,Option.bind_some,hr,if_pos rfl,if_pos (by omega),Qak (by omega) (by omega)]
    simp only [Int.natCast_add]
  ·have hpe : pos = s.size:=by omega
   unfold runesR
   rw [decFrom_end s pos (by omega),List.all_nil,if_pos rfl,List.append_nil]
   exact Ev.step (f:=fun _ => some (acc,true)) (fun k => by simp only [r1_Runes.l0]; rw [if_neg (by omega)]) (Ev.now _)
theorem Runes_ev (s : ByteArray) (hs : s.size <= 35184372088000) : Ev (fun k => r1_Runes.f k s) (if textOk s = true then (Qbh s,true) else ([],false)) :=
 Runes_loop s hs s.size 0 [] (by omega) (Nat.zero_le _) (Nat.le_refl _)
theorem Qca (e : SElem) : r4_Begin.f e.f0 e.f1 e.f2 = some (Qan e):=rfl
theorem ref0_Between_f (a b c : Int) : r0_Between.f a b c = some (decide (b <= a) && decide (a <= c)):=by
 unfold r0_Between.f
 by_cases h : b <= a <;> simp [h]
theorem ref4_name_f (a b : Int) : r4_name.f a b = some (nameOk a b):=by
 unfold r4_name.f nameOk
 rw [ref0_Between_f,ref0_Between_f]
 simp only [Option.bind_some]
 cases decide (1 <= a) <;> cases decide (a <= 8) <;> simp
theorem ref0_Num_f (a b : Int) : r0_Num.f a b = some (decide (0 <= a) && decide (a <= b)):=by
 unfold r0_Num.f
 by_cases h : 0 <= a <;> simp [h]
theorem ref4_Elem_f (e : SElem) : r4_Elem.f e.f0 e.f1 e.f2 = some (Qck e):=by
 unfold r4_Elem.f Qck
 rw [Qca,ref4_name_f,ref0_Num_f]
 simp only [Option.bind_some]
 have : decide (e.f2 <= 11) = decide (e.f2 < 12):=decide_eq_decide.2 (by omega)
 rw [this]
 cases Qan e <;> cases nameOk e.f0 e.f1 <;> simp
theorem ref4_Less_f (a b : SElem) : r4_Less.f a.f0 a.f1 a.f2 b.f0 b.f1 b.f2 = some (elLess a b):=by
 unfold r4_Less.f elLess
 by_cases h0 : a.f0 = b.f0
 ·by_cases h1 : a.f1 = b.f1
  ·simp [h0,h1]
  ·have : ¬ b.f0 < b.f0:=by omega
   simp [h0,h1]
 ·simp [h0]
theorem ref4_own_f (o : SOp) (e : SElem) : r4_own.f o.f0 o.f1 o.f2 o.f3.f0 o.f3.f1 o.f3.f2 o.f4 o.f5 o.f6 o.f7 o.f8 e.f0 e.f1 e.f2 = some (ownEl o e):=by
 unfold r4_own.f ownEl
 by_cases h : e.f0 = o.f0 <;> simp [h]
def Sm2 (o : SOp) : Prop:=o.f4.size <= 35184372088000 /\ o.f5.length <= 1000000000000000
theorem ref4_Op_l0 (o : SOp) (h : Sm2 o) : ∀ d i,i + d = o.f5.length ->
  Ev (fun k => r4_Op.l0 k (i : Int) o.f0 o.f1 o.f2 o.f3.f0 o.f3.f1 o.f3.f2 o.f4 o.f5 o.f6 o.f7 o.f8) (Qbq o (if i = 0 then none else some (Qaa o.f5 ((i : Int) - 1))) (o.f5.drop i))
 | 0,i,hi => by
  rw [List.drop_eq_nil_of_le (by omega)]
  exact Ev.step (f:=fun _ => some true) (fun k => by simp only [r4_Op.l0]; rw [if_neg (by omega)]) (Ev.now _)
 | d + 1,i,hi => by
  have hlt : i < o.f5.length:=by omega
  have ih:=ref4_Op_l0 o h d (i + 1) (by omega)
  have hw : wrap64 ((i : Int) + 1) = ((i + 1 : Nat) : Int):=Qdc hlt (by have:=h.2; omega)
  have hw1 : wrap64 ((i : Int) - 1) = (i : Int) - 1:=Qak (by omega) (by have:=h.2; omega)
  have hd : o.f5.drop i = Qaa o.f5 (i : Int) :: o.f5.drop (i + 1):=by rw [Qaq _ _ hlt]; exact List.drop_eq_getElem_cons hlt
  rw [hd]
  generalize hx : Qaa o.f5 (i : Int) = x at ih ⊢
  have hp1 : Qaa o.f5 (((i + 1 : Nat) : Int) - 1) = x:=by rw [show (((i + 1 : Nat) : Int) - 1) = (i : Int) by omega]; exact hx
  rw [if_neg (show ¬ i + 1 = 0 by omega),hp1] at ih
  have unf : ∀ k,r4_Op.l0 (k + 1) (i : Int) o.f0 o.f1 o.f2 o.f3.f0 o.f3.f1 o.f3.f2 o.f4 o.f5 o.f6 o.f7 o.f8 =
    (if Qan x = true then some false else if Qck x = true then (if ownEl o x = true then some false else if (i : Int) > 0 then
     (if elLess (Qaa o.f5 ((i : Int) - 1)) x = true then r4_Op.l0 k ((i + 1 : Nat) : Int) o.f0 o.f1 o.f2 o.f3.f0 o.f3.f1 o.f3.f2 o.f4 o.f5 o.f6 o.f7 o.f8 else some false)
     else r4_Op.l0 k ((i + 1 : Nat) : Int) o.f0 o.f1 o.f2 o.f3.f0 o.f3.f1 o.f3.f2 o.f4 o.f5 o.f6 o.f7 o.f8) else some false):=by
   intro k
   simp only [r4_Op.l0]
   rw [if_pos (by omega),if_pos (by omega),hx,Qca,ref4_Elem_f,ref4_own_f,hw,hw1]
   simp only [Option.bind_some]
   by_cases hi0 : (i : Int) > 0
   ·simp only [if_pos hi0]
    rw [if_pos (show (0 : Int) <= (i : Int) - 1 by omega),if_pos (show (i : Int) - 1 < (o.f5.length : Int) by omega),ref4_Less_f]
    rfl
   ·simp only [if_neg hi0]
  unfold Qbq
  have no : ∀ c : Bool,c = false -> (∀ k,r4_Op.l0 (k + 1) (i : Int) o.f0 o.f1 o.f2 o.f3.f0 o.f3.f1 o.f3.f2 o.f4 o.f5 o.f6 o.f7 o.f8 = some false) -> Ev (fun k => r4_Op.l0 k (i : Int) o.f0 o.f1 o.f2 o.f3.f0 o.f3.f1 o.f3.f2 o.f4 o.f5 o.f6 o.f7 o.f8) c:=by
   intro c hc hk; subst hc; exact Ev.step (f:=fun _ => some false) hk (Ev.now _)
  cases hb : Qan x
  ·cases he : Qck x
   ·exact no _ (by simp) (fun k => by rw [unf,hb,he]; simp)
   ·cases ho : ownEl o x
    ·by_cases hi0 : i = 0
     ·subst hi0
      simp only [if_true,Bool.not_false,Bool.true_and]
      exact Ev.step (fun k => by rw [unf,hb,he,ho]; simp) ih
     ·simp only [if_neg hi0]
      cases hl : elLess (Qaa o.f5 ((i : Int) - 1)) x
      ·exact no _ (by simp [hl]) (fun k => by rw [unf,hb,he,ho,hl]; simp; omega)
      ·simp only [Bool.not_false,Bool.true_and]
       exact Ev.step (fun k => by rw [unf,hb,he,ho,hl]; simp) ih
    ·exact no _ (by simp) (fun k => by rw [unf,hb,he,ho]; simp)
  ·exact no _ (by simp) (fun k => by rw [unf,hb]; simp)
theorem Op_l0_start (o : SOp) (h : Sm2 o) : Ev (fun k => r4_Op.l0 k 0 o.f0 o.f1 o.f2 o.f3.f0 o.f3.f1 o.f3.f2 o.f4 o.f5 o.f6 o.f7 o.f8) (Qbq o none o.f5):=by
 have:=ref4_Op_l0 o h o.f5.length 0 (Nat.zero_add _)
 simpa using this
theorem Op_j1 (o : SOp) (h : Sm2 o) (b : Bool) : Ev (fun k => r4_Op.j1 k b o.f0 o.f1 o.f2 o.f3.f0 o.f3.f1 o.f3.f2 o.f4 o.f5 o.f6 o.f7 o.f8) (!b && Qbq o none o.f5):=by
 cases b
 ·simp only [Bool.not_false,Bool.true_and]
  exact Ev.step (fun k => by simp only [r4_Op.j1]; rw [if_neg (by decide)]) (Op_l0_start o h)
 ·simp only [Bool.not_true,Bool.false_and]
  exact Ev.step (f:=fun _ => some false) (fun k => by simp only [r4_Op.j1]; rw [if_pos True.intro]) (Ev.now _)
def restOk (o : SOp) : Bool:=textOk o.f4 && (decide (Qai o <= 12) && (Qck o.f3 && (!(decide (Qai o = 0) && !Qan o.f3) && (!ownEl o o.f3 && Qbq o none o.f5))))
theorem Op_j0 (o : SOp) (h : Sm2 o) (b : Bool) : Ev (fun k => r4_Op.j0 k b o.f0 o.f1 o.f2 o.f3.f0 o.f3.f1 o.f3.f2 o.f4 o.f5 o.f6 o.f7 o.f8) (!b && restOk o):=by
 cases b
 ·simp only [Bool.not_false,Bool.true_and]
  have hR:=Runes_ev o.f4 h.1
  unfold restOk
  obtain ⟨F,hF⟩ : ∃ F : Nat -> List Int × Bool -> Option Bool,F = (fun k bt => (if bt.2 = true then (if (bt.1.length : Int) > 12 then (r4_Op.j1 k true o.f0 o.f1 o.f2 o.f3.f0 o.f3.f1 o.f3.f2 o.f4 o.f5 o.f6 o.f7 o.f8) else ((r4_Elem.f o.f3.f0 o.f3.f1 o.f3.f2).bind fun t176 => (if t176 = true then (if (bt.1.length : Int) = 0 then ((r4_Begin.f o.f3.f0 o.f3.f1 o.f3.f2).bind fun t177 => (if t177 = true then ((r4_own.f o.f0 o.f1 o.f2 o.f3.f0 o.f3.f1 o.f3.f2 o.f4 o.f5 o.f6 o.f7 o.f8 o.f3.f0 o.f3.f1 o.f3.f2).bind fun t178 => (r4_Op.j1 k t178 o.f0 o.f1 o.f2 o.f3.f0 o.f3.f1 o.f3.f2 o.f4 o.f5 o.f6 o.f7 o.f8)) else (r4_Op.j1 k true o.f0 o.f1 o.f2 o.f3.f0 o.f3.f1 o.f3.f2 o.f4 o.f5 o.f6 o.f7 o.f8))) else ((r4_own.f o.f0 o.f1 o.f2 o.f3.f0 o.f3.f1 o.f3.f2 o.f4 o.f5 o.f6 o.f7 o.f8 o.f3.f0 o.f3.f1 o.f3.f2).bind fun t179 => (r4_Op.j1 k t179 o.f0 o.f1 o.f2 o.f3.f0 o.f3.f1 o.f3.f2 o.f4 o.f5 o.f6 o.f7 o.f8))) else (r4_Op.j1 k true o.f0 o.f1 o.f2 o.f3.f0 o.f3.f1 o.f3.f2 o.f4 o.f5 o.f6 o.f7 o.f8)))) else (r4_Op.j1 k true o.f0 o.f1 o.f2 o.f3.f0 o.f3.f1 o.f3.f2 o.f4 o.f5 o.f6 o.f7 o.f8))):=⟨_,rfl⟩
  refine Ev.step (f:=fun k => (r1_Runes.f k o.f4).bind (F k)) (fun k => ?_) (Ev.bind hR ?_)
  ·simp only [r4_Op.j0]; rw [if_neg (by decide),hF]
  ·rw [hF]
   have hn : ∀ x : Bool,Ev (fun k => r4_Op.j1 k true o.f0 o.f1 o.f2 o.f3.f0 o.f3.f1 o.f3.f2 o.f4 o.f5 o.f6 o.f7 o.f8) (x && false):=fun x => by rw [Bool.and_false]; exact Op_j1 o h true
   simp only [ref4_Elem_f,ref4_own_f,Qca,Option.bind_some]
   cases ht : textOk o.f4
   ·simp only [Bool.false_eq_true,if_false,Bool.false_and]
    exact Op_j1 o h true
   ·simp only [if_true,Bool.true_and]
    have hl : (Qbh o.f4).length = Qai o:=rfl
    rw [hl]
    by_cases h12 : Qai o <= 12
    ·have e12 : decide (Qai o <= 12) = true:=Zd h12
     rw [e12,Bool.true_and]
     have n12 : ¬ ((Qai o : Int) > 12):=by omega
     simp only [if_neg n12]
     cases he : Qck o.f3
     ·simp only [Bool.false_eq_true,if_false,Bool.false_and]
      exact Op_j1 o h true
     ·simp only [if_true,Bool.true_and]
      by_cases h0 : Qai o = 0
      ·have h0i : (Qai o : Int) = 0:=by omega
       simp only [if_pos h0i,h0,decide_true,Bool.true_and,Bool.not_not]
       cases hb : Qan o.f3
       ·simp only [Bool.false_eq_true,if_false,Bool.false_and]
        exact Op_j1 o h true
       ·simp only [if_true,Bool.true_and]
        exact Op_j1 o h _
      ·have h0i : ¬ (Qai o : Int) = 0:=by omega
       have e0 : decide (Qai o = 0) = false:=Ze h0
       simp only [if_neg h0i,e0,Bool.false_and,Bool.not_false,Bool.true_and]
       exact Op_j1 o h _
    ·have e12 : decide (Qai o <= 12) = false:=Ze h12
     rw [e12,Bool.false_and]
     have n12 : (Qai o : Int) > 12:=by omega
     simp only [if_pos n12]
     exact Op_j1 o h true
 ·simp only [Bool.not_true,Bool.false_and]
  exact Ev.step (f:=fun _ => some false) (fun k => by simp only [r4_Op.j0]; rw [if_pos True.intro]) (Ev.now _)
theorem editOk_rest (o : SOp) : editOk o = (o.f6 == 0 && (o.f7 == 0 && (o.f8 == 0 && (decide (o.f5.length <= 200) && (!(o.f4.toList.isEmpty && o.f5.isEmpty) && restOk o))))):=by
 unfold editOk restOk goneOk
 have : decide (Qai o = 0) = o.f4.toList.isEmpty:=by
  rw [Bool.eq_iff_iff,decide_eq_true_eq]; exact (runesOf_nil o.f4)
 rw [this]
 cases o.f6 == 0 <;> cases o.f7 == 0 <;> cases o.f8 == 0 <;> cases decide (o.f5.length <= 200) <;> cases o.f4.toList.isEmpty <;> cases o.f5.isEmpty <;> cases textOk o.f4 <;> cases decide (Qai o <= 12) <;> cases Qck o.f3 <;> cases Qan o.f3 <;> cases ownEl o o.f3 <;> cases Qbq o none o.f5 <;> rfl
theorem Op_ev (o : SOp) (h : Sm2 o) : Ev (fun k => r4_Op.f k o.f0 o.f1 o.f2 o.f3.f0 o.f3.f1 o.f3.f2 o.f4 o.f5 o.f6 o.f7 o.f8) (opOk o):=by
 unfold r4_Op.f opOk
 simp only [ref4_name_f,Qca,ref0_Num_f,Option.bind_some]
 cases nameOk o.f0 o.f1
 ·simp only [Bool.false_eq_true,if_false,Bool.false_and]; exact Ev.now _
 ·simp only [if_true,Bool.true_and]
  by_cases h2 : o.f2 = 2
  ·have h1 : ¬ o.f2 = 1:=by omega
   rw [if_neg h1]
   simp only [h2,if_true,beq_self_eq_true,Bool.true_and]
   unfold Qce
   refine Ev.congr (fun k => ?_) (Ev.now _)
   have hl : ((o.f5.length : Int) == 0) = o.f5.isEmpty:=isEmpty_len _
   have ht : (o.f4.toList = ([] : List UInt8)) ↔ o.f4.toList.isEmpty = true:=toList_isEmpty _
   simp only [hl,ht]
   cases nameOk o.f6 o.f7
   ·simp
   ·by_cases e6 : o.f6 = o.f0 <;> by_cases e7 : o.f7 = o.f1 <;> by_cases e8 : 0 <= o.f8 <;> by_cases e9 : o.f8 <= 268435456 <;> cases Qan o.f3 <;> cases o.f4.toList.isEmpty <;> simp [e6,e7,e8,e9]
  ·have e2 : (o.f2 == 2) = false:=by simp [h2]
   simp only [if_neg h2]
   by_cases h1 : o.f2 = 1
   ·simp only [if_pos h1]
    rw [editOk_rest]
    by_cases e6 : o.f6 = 0
    ·simp only [if_pos e6]
     by_cases e7 : o.f7 = 0
     ·simp only [if_pos e7]
      by_cases e8 : o.f8 = 0
      ·simp only [if_pos e8]
       have b6 : (o.f6 == 0) = true:=by simp [e6]
       have b7 : (o.f7 == 0) = true:=by simp [e7]
       have b8 : (o.f8 == 0) = true:=by simp [e8]
       rw [b6,b7,b8,Bool.true_and,Bool.true_and,Bool.true_and]
       by_cases e5 : o.f5.length <= 200
       ·have n5 : ¬ (o.f5.length : Int) > 200:=by omega
        have d5 : decide (o.f5.length <= 200) = true:=Zd e5
        simp only [if_neg n5,d5,Bool.true_and,isEmpty_len]
        by_cases e4 : o.f4.toList = ([] : List UInt8)
        ·simp only [if_pos e4,List.isEmpty_iff.2 e4,Bool.true_and]; exact Op_j0 o h _
        ·have : o.f4.toList.isEmpty = false:=by cases hh : o.f4.toList.isEmpty; rfl; exact absurd (List.isEmpty_iff.1 hh) e4
         simp only [if_neg e4,this,Bool.false_and]; exact Op_j0 o h _
       ·have n5 : (o.f5.length : Int) > 200:=by omega
        have d5 : decide (o.f5.length <= 200) = false:=Ze e5
        simp only [if_pos n5,d5,Bool.false_and]; exact Op_j0 o h _
      ·have b8 : (o.f8 == 0) = false:=by simp [e8]
       simp only [if_neg e8,b8,Bool.false_and,Bool.and_false]; exact Op_j0 o h _
     ·have b7 : (o.f7 == 0) = false:=by simp [e7]
      simp only [if_neg e7,b7,Bool.false_and,Bool.and_false]; exact Op_j0 o h _
    ·have b6 : (o.f6 == 0) = false:=by simp [e6]
     simp only [if_neg e6,b6,Bool.false_and]; exact Op_j0 o h _
   ·simp only [if_neg h1,e2,Bool.false_and]; have hh:=Op_j0 o h true; simp only [Bool.not_true,Bool.false_and] at hh; exact hh
theorem Find_loop (l : List SOp) (hl : l.length <= 1000000000000) (a b : Int) : ∀ d i,i + d = l.length -> Ev (fun k => r4_Find.l0 k l a b (i : Int)) (Qbd (fun i => nameIs a b (Qad l i)) l.length d i)
 | 0,i,h => Ev.step (f:=fun _ => some (-1)) (fun k => by simp only [r4_Find.l0]; rw [if_neg (by omega)]) (Ev.now _)
 | d + 1,i,h => by
  have ih:=Find_loop l hl a b d (i + 1) (by omega)
  unfold Qbd
  rw [if_pos (show i < l.length by omega)]
  by_cases h0 : (Qad l (i : Int)).f0 = a
  ·by_cases h1 : (Qad l (i : Int)).f1 = b
   ·rw [if_pos (by unfold nameIs; simp [h0,h1])]
    refine Ev.step (f:=fun _ => some (i : Int)) (fun k => ?_) (Ev.now _)
    simp only [r4_Find.l0]
    rw [if_pos (by omega),if_pos (by omega),if_pos h0,if_pos h1]
   ·rw [if_neg (by unfold nameIs; simp [h1])]
    refine Ev.step (fun k => ?_) ih
    simp only [r4_Find.l0]
    rw [if_pos (by omega),if_pos (by omega),if_pos h0,if_neg h1,Qdc (show i < l.length by omega) (by omega)]
  ·rw [if_neg (by unfold nameIs; simp [h0])]
   refine Ev.step (fun k => ?_) ih
   simp only [r4_Find.l0]
   rw [if_pos (by omega),if_pos (by omega),if_neg h0,Qdc (show i < l.length by omega) (by omega)]
theorem Find_ev (l : List SOp) (hl : l.length <= 1000000000000) (a b : Int) : Ev (fun k => r4_Find.f k l a b) (Qbb l a b):=Find_loop l hl a b l.length 0 (Nat.zero_add _)
def runesN (o : SOp) : Nat:=if textOk o.f4 = true then Qai o else 0
theorem RunesO_ev (o : SOp) (h : o.f4.size <= 35184372088000) : Ev (fun k => r4_Runes.f k o.f0 o.f1 o.f2 o.f3.f0 o.f3.f1 o.f3.f2 o.f4 o.f5 o.f6 o.f7 o.f8) (runesN o : Int):=by
 refine Ev.bind (f:=fun _ (bt : List Int × Bool) => some (bt.1.length : Int)) (Runes_ev o.f4 h) ?_
 unfold runesN
 cases textOk o.f4
 ·exact Ev.now _
 ·exact Ev.now _
theorem opOk_text {o : SOp} (h : opOk o = true) : runesN o = Qai o:=by
 unfold runesN
 rcases Qcv h with ⟨_,h2⟩ | ⟨h1,h2⟩
 ·unfold editOk at h2; simp only [Bool.and_eq_true] at h2
  rw [if_pos h2.1.1.1.1.1.2]
 ·have:=(Qcp h).2 h1
  split <;> omega
def Qcd (l : List SOp) (e : SElem) : Bool:=Qan e || (decide (0 <= Qbb l e.f0 e.f1) && decide (0 <= e.f2) && decide (e.f2 < (runesN (Qad l (Qbb l e.f0 e.f1)) : Int)))
theorem written_ev (l : List SOp) (hl : l.length <= 1000000000000) (hs : ∀ o ∈ l,o.f4.size <= 35184372088000) (e : SElem) : Ev (fun k => r4_written.f k l e.f0 e.f1 e.f2) (Qcd l e):=by
 unfold r4_written.f Qcd
 simp only [Qca,Option.bind_some]
 cases Qan e
 ·simp only [Bool.false_eq_true,if_false,Bool.false_or]
  refine Ev.bind (Find_ev l hl e.f0 e.f1) ?_
  rcases Qav l e.f0 e.f1 with ⟨i,hi,_,_,_,ef⟩ | ⟨_,ef⟩
  ·rw [ef]
   have h0 : (i : Int) >= 0:=by omega
   have d0 : decide ((0 : Int) <= (i : Int)) = true:=Zd (by omega)
   simp only [if_pos h0,d0,Bool.true_and]
   by_cases h2 : e.f2 >= 0
   ·have d2 : decide ((0 : Int) <= e.f2) = true:=Zd h2
    have h3 : (i : Int) < (l.length : Int):=by omega
    have h4 : (0 : Int) <= (i : Int):=by omega
    simp only [if_pos h2,d2,if_pos h3,if_pos h4,Bool.true_and]
    refine Ev.bind (f:=fun _ t => some (decide (e.f2 < t))) (RunesO_ev (Qad l (i : Int)) (by rw [Qam _ _ hi]; exact hs _ (List.getElem_mem hi))) (Ev.now _)
   ·have d2 : decide ((0 : Int) <= e.f2) = false:=Ze (by omega)
    simp only [if_neg h2,d2,Bool.false_and]; exact Ev.now _
  ·rw [ef]
   have h0 : ¬ (-1 : Int) >= 0:=by omega
   simp only [if_neg h0]; exact Ev.now _
 ·simp only [if_true,Bool.true_or]; exact Ev.now _
theorem countS_take (l : List SOp) (a : Int) (i : Nat) (h : i < l.length) : Qcl (l.take (i + 1)) a = Qcl (l.take i) a + if l[i].f0 = a then 1 else 0:=by
 rw [List.take_succ_eq_append_getElem h,countS_app]
theorem Many_loop (l : List SOp) (hl : l.length <= 1000000000000) (a : Int) : ∀ d i,i + d = l.length -> Ev (fun k => r4_Many.l0 k l a (Qcl (l.take i) a : Int) (i : Int)) (Qcl l a : Int)
 | 0,i,h => by
  rw [List.take_of_length_le (by omega)]
  exact Ev.step (f:=fun _ => some (Qcl l a : Int)) (fun k => by simp only [r4_Many.l0]; rw [if_neg (by omega)]) (Ev.now _)
 | d + 1,i,h => by
  have ih:=Many_loop l hl a d (i + 1) (by omega)
  have hlt : i < l.length:=by omega
  have hc : Qcl (l.take i) a <= i:=Nat.le_trans (countS_le _ _) (by rw [List.length_take]; omega)
  rw [countS_take l a i hlt] at ih
  refine Ev.step (fun k => ?_) ih
  simp only [r4_Many.l0]
  rw [if_pos (by omega),if_pos (by omega),Qam _ _ hlt,Qdc hlt (by omega),Qak (i:=(Qcl (l.take i) a : Int) + 1) (by omega) (by omega)]
  by_cases h0 : l[i].f0 = a
  ·rw [if_pos h0,if_pos h0]; rfl
  ·rw [if_neg h0,if_neg h0]; rfl
theorem Many_ev (l : List SOp) (hl : l.length <= 1000000000000) (a : Int) : Ev (fun k => r4_Many.f k l a) (Qcl l a : Int):=Many_loop l hl a l.length 0 (Nat.zero_add _)
def editN (l : List SOp) (a b : Int) : Bool:=decide (0 <= Qbb l a b) && ((Qad l (Qbb l a b)).f2 == 1)
theorem Edit_ev (l : List SOp) (hl : l.length <= 1000000000000) (a b : Int) : Ev (fun k => r4_Edit.f k l a b) (editN l a b):=by
 refine Ev.bind (f:=fun _ t => if t >= 0 then (if 0 <= t then (if t < (l.length : Int) then some ((Qad l t).f2 == 1) else none) else none) else some false) (Find_ev l hl a b) ?_
 unfold editN
 rcases Qav l a b with ⟨i,hi,_,_,_,ef⟩ | ⟨_,ef⟩
 ·rw [ef]
  refine Ev.congr (fun k => ?_) (Ev.now _)
  rw [if_pos (by omega),if_pos (by omega),if_pos (by omega),Zd (show (0 : Int) <= (i : Int) by omega),Bool.true_and]
 ·rw [ef]; exact Ev.now _
structure SmL (l : List SOp) : Prop where
 len : l.length <= 1000000000000
 ops : ∀ o ∈ l,Sm2 o
theorem SmL.take {l : List SOp} (h : SmL l) (n : Nat) : SmL (l.take n):=⟨by have:=h.len; rw [List.length_take]; omega,fun o ho => h.ops o (List.mem_of_mem_take ho)⟩
def goesN (l : List SOp) (o : SOp) : Bool:=opOk o && (decide (o.f1 = (Qcl l o.f0 : Int) + 1) && (Qcd l o.f3 && (o.f5.all (Qcd l) && (o.f2 == 1 || editN l o.f6 o.f7))))
theorem Goes_l0 (l : List SOp) (hl : SmL l) (o : SOp) (h : Sm2 o) : ∀ d i,i + d = o.f5.length -> Ev (fun k => r4_Goes.l0 k l (i : Int) o.f0 o.f1 o.f2 o.f3.f0 o.f3.f1 o.f3.f2 o.f4 o.f5 o.f6 o.f7 o.f8) ((o.f5.drop i).all (Qcd l) && (o.f2 == 1 || editN l o.f6 o.f7))
 | 0,i,hi => by
  rw [List.drop_eq_nil_of_le (by omega)]
  simp only [List.all_nil,Bool.true_and]
  by_cases h1 : o.f2 = 1
  ·have : (o.f2 == 1) = true:=by simp [h1]
   rw [this,Bool.true_or]
   exact Ev.step (f:=fun _ => some true) (fun k => by simp only [r4_Goes.l0]; rw [if_neg (by omega),if_pos h1]) (Ev.now _)
  ·have : (o.f2 == 1) = false:=by simp [h1]
   rw [this,Bool.false_or]
   refine Ev.step (f:=fun k => (r4_Edit.f k l o.f6 o.f7).bind fun t => some t) (fun k => by simp only [r4_Goes.l0]; rw [if_neg (by omega),if_neg h1]) (Ev.bind (f:=fun _ t => some t) (Edit_ev l hl.len o.f6 o.f7) (Ev.now _))
 | d + 1,i,hi => by
  have hlt : i < o.f5.length:=by omega
  have ih:=Goes_l0 l hl o h d (i + 1) (by omega)
  rw [List.drop_eq_getElem_cons hlt,List.all_cons]
  have hw:=written_ev l hl.len (fun o ho => (hl.ops o ho).1) o.f5[i]
  refine Ev.step (f:=fun k => (r4_written.f k l o.f5[i].f0 o.f5[i].f1 o.f5[i].f2).bind fun t => if t = true then r4_Goes.l0 k l ((i + 1 : Nat) : Int) o.f0 o.f1 o.f2 o.f3.f0 o.f3.f1 o.f3.f2 o.f4 o.f5 o.f6 o.f7 o.f8 else some false) (fun k => ?_) (Ev.bind (f:=fun k t => if t = true then r4_Goes.l0 k l ((i + 1 : Nat) : Int) o.f0 o.f1 o.f2 o.f3.f0 o.f3.f1 o.f3.f2 o.f4 o.f5 o.f6 o.f7 o.f8 else some false) hw ?_)
  ·simp only [r4_Goes.l0]
   rw [if_pos (by omega),if_pos (by omega),Qaq _ _ hlt,Qdc hlt (by have:=h.2; omega)]
  ·cases Qcd l o.f5[i]
   ·simp only [Bool.false_and,Bool.false_eq_true,if_false]; exact Ev.now _
   ·simp only [Bool.true_and,if_true]; exact ih
theorem Goes_ev (l : List SOp) (hl : SmL l) (o : SOp) (h : Sm2 o) : Ev (fun k => r4_Goes.f k l o.f0 o.f1 o.f2 o.f3.f0 o.f3.f1 o.f3.f2 o.f4 o.f5 o.f6 o.f7 o.f8) (goesN l o):=by
 have hj : ∀ b : Bool,Ev (fun k => r4_Goes.j0 k l b o.f0 o.f1 o.f2 o.f3.f0 o.f3.f1 o.f3.f2 o.f4 o.f5 o.f6 o.f7 o.f8) (!b && (o.f5.all (Qcd l) && (o.f2 == 1 || editN l o.f6 o.f7))):=by
  intro b
  cases b
  ·simp only [Bool.not_false,Bool.true_and]
   exact Ev.step (fun k => by simp only [r4_Goes.j0]; rw [if_neg (by decide)]; rfl) (Goes_l0 l hl o h o.f5.length 0 (Nat.zero_add _))
  ·simp only [Bool.not_true,Bool.false_and]
   exact Ev.step (f:=fun _ => some false) (fun k => by simp only [r4_Goes.j0]; rw [if_pos True.intro]) (Ev.now _)
 have hjt:=hj true
 simp only [Bool.not_true,Bool.false_and] at hjt
 unfold r4_Goes.f goesN
 refine Ev.bind (Op_ev o h) ?_
 cases opOk o
 ·simp only [Bool.false_eq_true,if_false,Bool.false_and]; exact hjt
 ·simp only [if_true,Bool.true_and]
  refine Ev.bind (Many_ev l hl.len o.f0) ?_
  have hc:=countS_le l o.f0
  have hlen:=hl.len
  simp only [Qak (show -9223372036854775808 <= (Qcl l o.f0 : Int) + 1 by omega) (show (Qcl l o.f0 : Int) + 1 <= 9223372036854775807 by omega)]
  by_cases hq : o.f1 = (Qcl l o.f0 : Int) + 1
  ·simp only [if_pos hq,Zd hq,Bool.true_and]
   refine Ev.bind (written_ev l hl.len (fun o ho => (hl.ops o ho).1) o.f3) ?_
   have:=hj (!Qcd l o.f3)
   rw [Bool.not_not] at this
   exact this
  ·simp only [if_neg hq,Ze hq,Bool.false_and]; exact hjt
def Qcy (l : List SOp) : Nat:=(l.map runesN).sum
theorem totalN_take (l : List SOp) (i : Nat) (h : i < l.length) : Qcy (l.take (i + 1)) = Qcy (l.take i) + runesN l[i]:=by
 unfold Qcy; rw [List.take_succ_eq_append_getElem h,List.map_append,List.sum_append]; simp
theorem sizeOf_le (o : SOp) : Qai o <= o.f4.size:=decFrom_len _ _ _
theorem Fits_loop (l : List SOp) (h40 : l.length <= 40) (hl : SmL l) : ∀ d i,i + d = l.length -> Qcy (l.take i) <= i * 35184372088000 -> Ev (fun k => r4_Fits.l0 k l (Qcy (l.take i) : Int) (i : Int)) (decide (Qcy l <= 200))
 | 0,i,h,_ => by
  rw [List.take_of_length_le (by omega)]
  have : decide ((Qcy l : Int) <= 200) = decide (Qcy l <= 200):=decide_eq_decide.2 (by omega)
  exact Ev.step (f:=fun _ => some (decide (Qcy l <= 200))) (fun k => by simp only [r4_Fits.l0]; rw [if_neg (by omega),if_pos (by omega),this]) (Ev.now _)
 | d + 1,i,h,ht => by
  have hlt : i < l.length:=by omega
  have hr : runesN l[i] <= 35184372088000:=by
   have:=(hl.ops _ (List.getElem_mem hlt)).1
   have:=sizeOf_le l[i]
   unfold runesN; split <;> omega
  have e:=totalN_take l i hlt
  have ih:=Fits_loop l h40 hl d (i + 1) (by omega) (by rw [e]; omega)
  rw [e] at ih
  have hR:=RunesO_ev l[i] (hl.ops _ (List.getElem_mem hlt)).1
  refine Ev.step (fun k => ?_) (Ev.bind (f:=fun k t => r4_Fits.l0 k l (wrap64 ((Qcy (l.take i) : Int) + t)) ((i + 1 : Nat) : Int)) hR ?_)
  ·simp only [r4_Fits.l0]
   rw [if_pos (by omega),if_pos (by omega),if_pos (by omega),Qam _ _ hlt,Qdc hlt (by omega)]
  ·rw [Qak (by omega) (by omega)]
   exact ih
theorem Fits_ev (l : List SOp) (h40 : l.length <= 40) (hl : SmL l) : Ev (fun k => r4_Fits.f k l) (decide (Qcy l <= 200)):=by
 have h:=Fits_loop l h40 hl l.length 0 (Nat.zero_add _) (by rw [List.take_zero]; exact Nat.zero_le _)
 have e : Qcy (l.take 0) = 0:=by rw [List.take_zero]; rfl
 rw [e] at h
 exact h
def rowR (l : List SOp) (i : Nat) : Bool:=(List.range' i (l.length - i)).all (fun j => goesN (l.take j) (Qad l (j : Int))) && decide (Qcy l <= 200)
theorem Row_loop (l : List SOp) (h40 : l.length <= 40) (hl : SmL l) : ∀ d i,i + d = l.length -> Ev (fun k => r4_Row.l0 k l (i : Int)) (rowR l i)
 | 0,i,h => by
  unfold rowR
  rw [show l.length - i = 0 by omega]
  simp only [List.range'_zero,List.all_nil,Bool.true_and]
  refine Ev.step (fun k => by simp only [r4_Row.l0]; rw [if_neg (by omega)]) (Ev.bind (f:=fun _ t => some t) (Fits_ev l h40 hl) (Ev.now _))
 | d + 1,i,h => by
  have hlt : i < l.length:=by omega
  have ih:=Row_loop l h40 hl d (i + 1) (by omega)
  have hG:=Goes_ev (l.take i) (hl.take i) l[i] (hl.ops _ (List.getElem_mem hlt))
  unfold rowR at ih ⊢
  rw [show l.length - i = (l.length - (i + 1)) + 1 by omega,List.range'_succ,List.all_cons,Qam _ _ hlt]
  refine Ev.step (fun k => ?_) (Ev.bind (f:=fun k t => if t = true then r4_Row.l0 k l ((i + 1 : Nat) : Int) else some false) hG ?_)
  ·simp only [r4_Row.l0]
   rw [if_pos (by omega),if_pos (by omega),if_pos (by omega),Qam _ _ hlt,Int.toNat_natCast,Qdc hlt (by omega)]
  ·cases goesN (l.take i) l[i]
   ·simp only [Bool.false_and,Bool.false_eq_true,if_false]; exact Ev.now _
   ·simp only [Bool.true_and,if_true]; exact ih
theorem writtenN_wr {l : List SOp} (hr : RowOk l) (e : SElem) : Qcd l e = true ↔ wr l e:=by
 unfold Qcd wr
 rw [Bool.or_eq_true]
 refine or_congr Iff.rfl ?_
 simp only [Bool.and_eq_true,decide_eq_true_eq]
 constructor
 ·rintro ⟨⟨h0,h1⟩,h2⟩
  rcases Qav l e.f0 e.f1 with ⟨i,hi,e0,e1,_,ef⟩ | ⟨_,ef⟩
  ·rw [ef,Qam _ _ hi,opOk_text (hr.oks _ (List.getElem_mem hi))] at h2
   exact ⟨h1,l[i],List.getElem_mem hi,e0,e1,h2⟩
  ·omega
 ·rintro ⟨h1,p,hp,e0,e1,h2⟩
  obtain ⟨i,hi,ef,ei⟩:=Qcg hr hp
  rw [<- e0,<- e1,ef,Qam _ _ hi,ei,opOk_text (hr.oks p hp)]
  exact ⟨⟨by omega,h1⟩,h2⟩
theorem editN_iff {l : List SOp} (hr : RowOk l) (a b : Int) : editN l a b = true ↔ ∃ p ∈ l,p.f2 = 1 /\ p.f0 = a /\ p.f1 = b:=by
 unfold editN
 simp only [Bool.and_eq_true,decide_eq_true_eq,beq_iff_eq]
 constructor
 ·rintro ⟨h0,h1⟩
  rcases Qav l a b with ⟨i,hi,e0,e1,_,ef⟩ | ⟨_,ef⟩
  ·rw [ef,Qam _ _ hi] at h1; exact ⟨l[i],List.getElem_mem hi,h1,e0,e1⟩
  ·omega
 ·rintro ⟨p,hp,h2,rfl,rfl⟩
  obtain ⟨i,hi,ef,ei⟩:=Qcg hr hp
  rw [ef,Qam _ _ hi,ei]
  exact ⟨by omega,h2⟩
theorem goesN_iff {l : List SOp} (hr : RowOk l) (o : SOp) : goesN l o = true ↔ GoesR l o:=by
 unfold goesN
 simp only [Bool.and_eq_true,decide_eq_true_eq,Bool.or_eq_true,beq_iff_eq,List.all_eq_true,writtenN_wr hr,editN_iff hr]
 constructor
 ·rintro ⟨h1,h2,h3,h4,h5⟩
  exact ⟨h1,h2,h3,h4,fun e => h5.elim (fun e1 => by omega) id⟩
 ·intro h
  refine ⟨h.ok,h.seq,h.after,h.gone, ?_⟩
  rcases Qcv h.ok with ⟨e,_⟩ | ⟨e,_⟩
  ·exact .inl e
  ·exact .inr (h.tog e)
theorem totalN_eq {l : List SOp} (h : ∀ o ∈ l,opOk o = true) : Qcy l = total l:=by
 unfold Qcy total
 rw [List.map_congr_left (fun o ho => opOk_text (h o ho))]
theorem rowR_iff (l : List SOp) (h40 : l.length <= 40) : rowR l 0 = true ↔ RowOk l:=by
 unfold rowR
 rw [Nat.sub_zero]
 simp only [Bool.and_eq_true,decide_eq_true_eq,List.all_eq_true,List.mem_range'_1]
 constructor
 ·rintro ⟨h1,h2⟩
  have key : ∀ n,n <= l.length -> (∀ i (h : i < l.length),i < n -> GoesR (l.take i) l[i]) /\ (∀ o ∈ l.take n,opOk o = true) /\ RowOk (l.take n):=by
   intro n
   induction n with
   | zero => intro _; exact ⟨fun i _ h => by omega,fun o ho => by simp at ho,by simpa using RowOk.nil⟩
   | succ n ih =>
    intro hn
    obtain ⟨a,b,c⟩:=ih (by omega)
    have hlt : n < l.length:=by omega
    have g:=h1 n ⟨Nat.zero_le _,by omega⟩
    rw [Qam _ _ hlt] at g
    have g':=(goesN_iff c l[n]).1 g
    have b' : ∀ o ∈ l.take (n + 1),opOk o = true:=by
     rw [List.take_succ_eq_append_getElem hlt]
     intro o ho
     rcases List.mem_append.1 ho with ho | ho
     ·exact b o ho
     ·simp at ho; subst ho; exact g'.ok
    refine ⟨fun i hi hin => ?_,b', ?_⟩
    ·by_cases e : i = n
     ·subst e; exact g'
     ·exact a i hi (by omega)
    ·rw [List.take_succ_eq_append_getElem hlt]
     refine .snoc c ⟨by rw [List.length_take]; omega,g'.ok,g'.seq,g'.after,g'.gone,g'.tog, ?_⟩
     have t1:=totalN_eq b'
     rw [List.take_succ_eq_append_getElem hlt,total_app] at t1
     have t2 : Qcy (l.take (n + 1)) <= Qcy l:=by
      have : Qcy (l.take (n + 1)) + Qcy (l.drop (n + 1)) = Qcy l:=by
       unfold Qcy; rw [<- List.sum_append,<- List.map_append,List.take_append_drop]
      omega
     rw [List.take_succ_eq_append_getElem hlt] at t2
     omega
  have:=(key l.length (Nat.le_refl _)).2.2
  rwa [List.take_length] at this
 ·intro h
  refine ⟨fun j hj => ?_,by rw [totalN_eq h.oks]; exact h.sums.2⟩
  rw [Qam _ _ (by omega)]
  exact (goesN_iff (h.take j) _).2 (((RowOk_iff l).1 h).2.2 j (by omega))
theorem Row_ev (l : List SOp) (hl : SmL l) : Ev (fun k => r4_Row.f k l) (mayB l):=by
 unfold r4_Row.f
 by_cases h40 : l.length <= 40
 ·have n40 : ¬ (l.length : Int) > 40:=by omega
  simp only [if_neg n40]
  have : mayB l = rowR l 0:=by rw [Bool.eq_iff_iff,Qci,rowR_iff l h40]
  rw [this]
  exact Row_loop l h40 hl l.length 0 (Nat.zero_add _)
 ·have n40 : (l.length : Int) > 40:=by omega
  simp only [if_pos n40]
  have : mayB l = false:=by unfold mayB; simp [h40]
  rw [this]; exact Ev.now _
end
section
theorem Tiny.smL {l : List SOp} (h : Tiny l) (hn : l.length <= 1000) : SmL l:=⟨by omega,fun o ho => by have:=h o ho; unfold tiny at this; unfold Sm2; exact ⟨by omega,by omega⟩⟩
theorem Tiny.smalls {l : List SOp} (h : Tiny l) (hn : l.length <= 1000) : smalls l = true:=good_smalls ⟨by omega,fun o ho => by have:=h o ho; unfold tiny at this; exact ⟨by omega,by omega⟩⟩
theorem Tiny.snoc {l : List SOp} (h : Tiny l) {o : SOp} (ho : tiny o) : Tiny (l ++ [o]):=by
 intro x hx
 rcases List.mem_append.1 hx with hx | hx
 ·exact h x hx
 ·rw [List.mem_singleton] at hx; subst hx; exact ho
end
section
theorem EqElems_loop (a b : List SElem) (hab : a.length = b.length) (hl : a.length <= 1000000000) : ∀ d i,i + d = a.length -> Ev (fun k => r0_EqElems.l0 k a b (i : Int)) (decide (a.drop i = b.drop i))
 | 0,i,h => by
  rw [List.drop_eq_nil_of_le (by omega),List.drop_eq_nil_of_le (by omega)]
  exact Ev.step (f:=fun _ => some true) (fun k => by simp only [r0_EqElems.l0]; rw [if_neg (by omega)]) (Ev.now _)
 | d + 1,i,h => by
  have ih:=EqElems_loop a b hab hl d (i + 1) (by omega)
  have ha : i < a.length:=by omega
  have hb : i < b.length:=by omega
  rw [List.drop_eq_getElem_cons ha,List.drop_eq_getElem_cons hb]
  have hc : (!(((Qaa a (i : Int)).f0) == ((Qaa b (i : Int)).f0)) || (!(((Qaa a (i : Int)).f1) == ((Qaa b (i : Int)).f1)) || (!(((Qaa a (i : Int)).f2) == ((Qaa b (i : Int)).f2))))) = !decide (a[i] = b[i]):=by
   rw [Qaq _ _ ha,Qaq _ _ hb]
   have:=eqE_iff a[i] b[i].f0 b[i].f1 b[i].f2
   rw [<- this]
   cases a[i].f0 == b[i].f0 <;> cases a[i].f1 == b[i].f1 <;> cases a[i].f2 == b[i].f2 <;> rfl
  by_cases he : a[i] = b[i]
  ·have : decide (a[i] :: a.drop (i + 1) = b[i] :: b.drop (i + 1)) = decide (a.drop (i + 1) = b.drop (i + 1)):=decide_eq_decide.2 (by rw [List.cons.injEq]; exact ⟨fun h => h.2,fun h => ⟨he,h⟩⟩)
   rw [this]
   refine Ev.step (fun k => ?_) ih
   simp only [r0_EqElems.l0,hc]
   rw [if_pos (by omega),if_pos (by omega),if_pos (by omega),if_neg (by simp [he]),Qdc ha (by omega)]
  ·have : decide (a[i] :: a.drop (i + 1) = b[i] :: b.drop (i + 1)) = false:=Ze (by rw [List.cons.injEq]; exact fun h => he h.1)
   rw [this]
   refine Ev.step (f:=fun _ => some false) (fun k => ?_) (Ev.now _)
   simp only [r0_EqElems.l0,hc]
   rw [if_pos (by omega),if_pos (by omega),if_pos (by omega),if_pos (by simp [he])]
theorem EqElems_ev (a b : List SElem) (hl : a.length <= 1000000000) : Ev (fun k => r0_EqElems.f k a b) (decide (a = b)):=by
 by_cases hab : a.length = b.length
 ·have:=EqElems_loop a b hab hl a.length 0 (Nat.zero_add _)
  simp only [List.drop_zero] at this
  refine Ev.congr (fun k => ?_) this
  unfold r0_EqElems.f
  rw [if_pos (by omega)]
  rfl
 ·have : decide (a = b) = false:=by simp; rintro rfl; exact hab rfl
  rw [this]
  refine Ev.congr (fun k => ?_) (Ev.now false)
  unfold r0_EqElems.f
  rw [if_neg (by omega)]
end
section
theorem writtenN_eq {l : List SOp} (h : RowOk l) (e : SElem) : Qcd l e = (Qan e || Qbx l e):=by
 unfold Qcd Qbx
 rcases Qav l e.f0 e.f1 with ⟨i,hi,_,_,_,ef⟩ | ⟨_,ef⟩
 ·rw [ef,Qam _ _ hi,opOk_text (h.oks _ (List.getElem_mem hi))]
 ·rw [ef,Ze (by decide)]; rfl
theorem begin_unwritten {l : List SOp} (h : RowOk l) {e : SElem} (he : Qan e = true) : Qbx l e = false:=by
 cases hw : Qbx l e
 ·rfl
 ·obtain ⟨p,hp,e0,_,_,_⟩:=(Qdh h e).1 ((mem_written h e).1 hw)
  have:=(opOk_pos (h.oks p hp)).1
  unfold Qan at he
  simp only [Bool.and_eq_true,beq_iff_eq] at he
  omega
theorem Written_ev {l : List SOp} (hl : SmL l) (h : RowOk l) (e : SElem) : Ev (fun k => r4_Written.f k l e.f0 e.f1 e.f2) (Qbx l e):=by
 have hw:=written_ev l hl.len (fun o ho => (hl.ops o ho).1) e
 rw [writtenN_eq h] at hw
 cases hb : Qan e
 ·rw [hb,Bool.false_or] at hw
  refine Ev.congr (f:=fun k => (r4_written.f k l e.f0 e.f1 e.f2).bind fun t => some t) (fun k => ?_) (Ev.bind (f:=fun _ t => some t) hw (Ev.now _))
  unfold r4_Written.f
  rw [Qca,hb,Option.bind_some,if_neg (by decide)]
 ·refine Ev.congr (f:=fun _ => some false) (fun k => ?_) (by rw [begin_unwritten h hb]; exact Ev.now false)
  unfold r4_Written.f
  rw [Qca,hb,Option.bind_some,if_pos rfl]
theorem EqOp_self (o : SOp) (ho : o.f5.length <= 1000000) : Ev (fun k => r0_EqOp.f k o.f0 o.f1 o.f2 o.f3.f0 o.f3.f1 o.f3.f2 o.f4 o.f5 o.f6 o.f7 o.f8 o.f0 o.f1 o.f2 o.f3.f0 o.f3.f1 o.f3.f2 o.f4 o.f5 o.f6 o.f7 o.f8) true:=by
 have hE:=EqElems_ev o.f5 o.f5 (by omega)
 rw [Zd rfl] at hE
 refine Ev.congr (f:=fun k => (r0_EqElems.f k o.f5 o.f5).bind fun t => if t = true then some true else some false) (fun k => ?_) (Ev.bind (f:=fun _ t => if t = true then some true else some false) hE (Ev.now true))
 unfold r0_EqOp.f
 simp
theorem EqOps_self (l : List SOp) (hl : l.length <= 1000000) (hs : ∀ o ∈ l,o.f5.length <= 1000000) : ∀ d i,i + d = l.length -> Ev (fun k => r0_EqOps.l0 k l l (i : Int)) true
 | 0,i,h => Ev.step (f:=fun _ => some true) (fun k => by simp only [r0_EqOps.l0]; rw [if_neg (by omega)]) (Ev.now _)
 | d + 1,i,h => by
  have hlt : i < l.length:=by omega
  have ih:=EqOps_self l hl hs d (i + 1) (by omega)
  refine Ev.step (fun k => by simp only [r0_EqOps.l0]; rw [if_pos (by omega),if_pos (by omega),if_pos (by omega),Qam _ _ hlt]) (Ev.bind (EqOp_self l[i] (hs _ (List.getElem_mem hlt))) ?_)
  simp only [if_true,Qdc hlt (show l.length <= 4611686018427387904 by omega)]
  exact ih
theorem EqOps_ev (l : List SOp) (hl : l.length <= 1000000) (hs : ∀ o ∈ l,o.f5.length <= 1000000) : Ev (fun k => r0_EqOps.f k l l) true :=
 Ev.congr (fun k => if_pos rfl) (EqOps_self l hl hs _ 0 (Nat.zero_add _))
theorem ElT_l0 (L : List SOp) (hL : L.length <= 1000) : ∀ d i (acc : List SElem),i + d = L.length -> acc.length <= 6 + i -> ∃ es,Ev (fun k => w5_Elems.l0 k L acc (i : Int)) es /\ es.length <= 1100
 | 0,i,acc,hi,ha => ⟨acc,Ev.step (f:=fun _ => some acc) (fun k => by simp only [w5_Elems.l0]; rw [if_neg (by omega)]) (Ev.now _),by omega⟩
 | d + 1,i,acc,hi,ha => by
  by_cases h40 : i < 40
  ·obtain ⟨es,h1,h2⟩:=ElT_l0 L hL d (i + 1) (acc ++ [(⟨(Qad L (i : Int)).f0,(Qad L (i : Int)).f1,Int.tmod (i : Int) 3⟩ : SElem)]) (by omega) (by rw [List.length_append,List.length_singleton]; omega)
   refine ⟨es,Ev.step (fun k => ?_) h1,h2⟩
   simp only [w5_Elems.l0]
   rw [if_pos (by omega),if_pos (by omega),if_pos (by omega),if_pos (by omega),Qdc (show i < L.length by omega) (by omega)]
  ·refine ⟨acc,Ev.step (f:=fun _ => some acc) (fun k => ?_) (Ev.now _),by omega⟩
   simp only [w5_Elems.l0]
   rw [if_pos (by omega),if_neg (by omega)]
theorem ElemsT_some (l0 : List (List SOp)) (l1 : List SElem) (l2 : List SOp) (l3 : List Int) (hn : l1.length <= 900) (L : List SOp) (hL : L.length <= 1000) : ∃ es,Ev (fun k => w5_Elems.f k l0 l1 l2 l3 L) es /\ es.length <= 1100:=by
 have hlen : ([(⟨0,0,0⟩ : SElem)] ++ l1).length = 1 + l1.length:=by rw [List.length_append,List.length_singleton]
 obtain ⟨es,h1,h2⟩:=ElT_l0 L hL L.length 0 (if (([(⟨0,0,0⟩ : SElem)] ++ l1).length : Int) > 6 then ([(⟨0,0,0⟩ : SElem)] ++ l1).take 6 else [(⟨0,0,0⟩ : SElem)] ++ l1) (Nat.zero_add _) (by
  split
  ·rw [List.length_take]; omega
  ·omega)
 refine ⟨es,Ev.congr (f:=fun k => w5_Elems.j0 k L (if (([(⟨0,0,0⟩ : SElem)] ++ l1).length : Int) > 6 then ([(⟨0,0,0⟩ : SElem)] ++ l1).take 6 else [(⟨0,0,0⟩ : SElem)] ++ l1)) (fun k => ?_) (Ev.step (fun k => by simp only [w5_Elems.j0]; rfl) h1),h2⟩
 unfold w5_Elems.f
 simp only [Option.bind_some]
 rw [if_pos (by rw [List.length_singleton]; omega)]
 by_cases h6 : (([(⟨0,0,0⟩ : SElem)] ++ l1).length : Int) > 6
 ·rw [if_pos h6,if_pos (by omega),if_pos h6]; rfl
 ·rw [if_neg h6,if_neg h6]
end
section
def hungC (l : List SOp) (e : SElem) (k : Nat) : Bool:=!(Qad l (k : Int)).f4.toList.isEmpty && decide (key3 (Qad l (k : Int)).f3 = key3 e)
def hungR (l : List SOp) (e : SElem) (i : Nat) : List SElem:=((List.range i).reverse.filter (hungC l e)).map (fun k : Nat => (⟨(Qad l (k : Int)).f0,(Qad l (k : Int)).f1,0⟩ : SElem))
def tailR (l : List SOp) (e : SElem) : List SElem:=if Qan e then [] else if Qcd l ⟨e.f0,e.f1,wrap64 (e.f2 + 1)⟩ then [⟨e.f0,e.f1,wrap64 (e.f2 + 1)⟩] else []
theorem hungR_succ (l : List SOp) (e : SElem) (i : Nat) : hungR l e (i + 1) = (if hungC l e i = true then [⟨(Qad l (i : Int)).f0,(Qad l (i : Int)).f1,0⟩] else []) ++ hungR l e i:=by
 unfold hungR
 rw [List.range_succ,List.reverse_append,List.reverse_cons,List.reverse_nil,List.nil_append,List.singleton_append,List.filter_cons]
 cases hungC l e i <;> rfl
theorem eqK_iff (x : SElem) (a b c : Int) : (x.f0 == a && (x.f1 == b && (x.f2 == c))) = decide (key3 x = key3 ⟨a,b,c⟩):=by
 rw [eqE_iff,decide_eq_decide]
 exact ⟨fun h => by rw [h],fun h => key3_inj h⟩
theorem Under_loop (l : List SOp) (hl : SmL l) (hn : l.length <= 1000000) (e : SElem) : ∀ i (x : List SElem),i <= l.length -> x.length + i <= 1000000 -> Ev (fun k => r4_Under.l0 k l x ((i : Int) - 1) e.f0 e.f1 e.f2) (x ++ (hungR l e i ++ tailR l e))
 | 0,x,hi,hx => by
  have e0 : hungR l e 0 = []:=rfl
  rw [e0,List.nil_append]
  unfold tailR
  refine Ev.step (f:=fun k => (some (Qan e)).bind fun t => if t = true then some x else (r4_written.f k l e.f0 e.f1 (wrap64 (e.f2 + 1))).bind fun t => if t = true then (if x.length < 5864062014805 then some (x ++ [(⟨e.f0,e.f1,wrap64 (e.f2 + 1)⟩ : SElem)]) else none) else some x) (fun k => ?_) ?_
  ·simp only [r4_Under.l0]
   rw [if_neg (by omega),Qca]
  ·simp only [Option.bind_some]
   cases Qan e
   ·simp only [Bool.false_eq_true,if_false]
    refine Ev.bind (written_ev l hl.len (fun o ho => (hl.ops o ho).1) ⟨e.f0,e.f1,wrap64 (e.f2 + 1)⟩) ?_
    cases Qcd l ⟨e.f0,e.f1,wrap64 (e.f2 + 1)⟩
    ·simp only [Bool.false_eq_true,if_false,List.append_nil]; exact Ev.now _
    ·have hx' : x.length < 5864062014805:=by omega
     simp only [if_true,if_pos hx']; exact Ev.now _
   ·simp only [if_true,List.append_nil]; exact Ev.now _
 | i + 1,x,hi,hx => by
  have hlt : i < l.length:=by omega
  have hw : wrap64 ((((i + 1 : Nat) : Int) - 1) - 1) = (i : Int) - 1:=by rw [Qak (by omega) (by omega)]; omega
  have hr : Qad l (((i + 1 : Nat) : Int) - 1) = Qad l (i : Int):=by rw [show ((i + 1 : Nat) : Int) - 1 = (i : Int) by omega]
  rw [hungR_succ]
  have hk:=eqK_iff (Qad l (i : Int)).f3 e.f0 e.f1 e.f2
  have he : (⟨e.f0,e.f1,e.f2⟩ : SElem) = e:=rfl
  rw [he] at hk
  by_cases hz : (Qad l (i : Int)).f4.toList = []
  ·have hc : hungC l e i = false:=by unfold hungC; rw [hz]; rfl
   rw [hc]
   simp only [Bool.false_eq_true,if_false,List.nil_append]
   refine Ev.step (fun k => ?_) (Under_loop l hl hn e i x (by omega) (by omega))
   simp only [r4_Under.l0]
   rw [if_pos (by omega),if_pos (by omega),if_pos (by omega),hr,hw,if_pos hz]
  ·have hz' : (Qad l (i : Int)).f4.toList.isEmpty = false:=by
    cases hq : (Qad l (i : Int)).f4.toList with
    | nil => exact absurd hq hz
    | cons => rfl
   have hc : hungC l e i = decide (key3 (Qad l (i : Int)).f3 = key3 e):=by unfold hungC; rw [hz']; rfl
   rw [hc]
   by_cases hq : key3 (Qad l (i : Int)).f3 = key3 e
   ·have ih:=Under_loop l hl hn e i (x ++ [⟨(Qad l (i : Int)).f0,(Qad l (i : Int)).f1,0⟩]) (by omega) (by simp; omega)
    rw [if_pos (Zd hq)]
    rw [List.append_assoc] at ih ⊢
    refine Ev.step (fun k => ?_) ih
    simp only [r4_Under.l0]
    rw [if_pos (by omega),if_pos (by omega),if_pos (by omega),hr,hw,if_neg hz,hk,if_pos (Zd hq),if_pos (by omega)]
   ·rw [if_neg (by simp [hq]),List.nil_append]
    refine Ev.step (fun k => ?_) (Under_loop l hl hn e i x (by omega) (by omega))
    simp only [r4_Under.l0]
    rw [if_pos (by omega),if_pos (by omega),if_pos (by omega),hr,hw,if_neg hz,hk,if_neg (by simp [hq])]
theorem under_eq {l : List SOp} (h : RowOk l) {e : SElem} (he : e = bgE \/ e ∈ ordL l) : hungR l e l.length ++ tailR l e = chl l e:=by
 rw [chl_under h he]
 unfold underR hungR tailR
 congr 1
 rcases he with rfl | he
 ·rfl
 ·have hp:=ordL_pos h he
  obtain ⟨p,hp',e0,e1,h2,h3⟩:=(Qdh h e).1 he
  have hsz:=(Qcp (h.oks p hp')).1
  rw [Qak (by omega) (by omega)]
  have hb : Qan (⟨e.f0,e.f1,e.f2 + 1⟩ : SElem) = false:=by
   unfold Qan
   have : (e.f0 == 0) = false:=by simp; omega
   rw [this]; rfl
  have : Qcd l ⟨e.f0,e.f1,e.f2 + 1⟩ = Qbx l ⟨e.f0,e.f1,e.f2 + 1⟩:=by
   unfold Qcd Qbx
   rw [hb,Bool.false_or]
   rcases Qav l e.f0 e.f1 with ⟨i,hi,_,_,_,ef⟩ | ⟨_,ef⟩
   ·simp only [ef,Qam _ _ hi,opOk_text (h.oks _ (List.getElem_mem hi))]
   ·simp only [ef]; rfl
  rw [this]
theorem Under_ev {l : List SOp} (hl : SmL l) (h : RowOk l) {e : SElem} (he : e = bgE \/ e ∈ ordL l) : Ev (fun k => r4_Under.f k l e.f0 e.f1 e.f2) (chl l e):=by
 have h40:=h.sums.1
 have:=Under_loop l hl (by omega) e l.length [] (Nat.le_refl _) (by simp; omega)
 rw [List.nil_append,under_eq h he] at this
 unfold r4_Under.f
 rw [Qak (by omega) (by omega)]
 exact this
theorem Order_push (l : List SOp) (x u : List SElem) {r : List SElem} : ∀ i (t : List SElem),i <= u.length -> t.length + i <= 1000000000 -> Ev (fun k => r4_Order.l0 k l x (t ++ (u.take i).reverse)) r -> Ev (fun k => r4_Order.l1 k l x t u ((i : Int) - 1)) r
 | 0,t,hi,ht,h => by
  rw [List.take_zero,List.reverse_nil,List.append_nil] at h
  refine Ev.step (fun k => ?_) h
  simp only [r4_Order.l1]
  rw [if_neg (by omega)]
 | i + 1,t,hi,ht,h => by
  have hlt : i < u.length:=by omega
  have hw : wrap64 ((((i + 1 : Nat) : Int) - 1) - 1) = (i : Int) - 1:=by rw [Qak (by omega) (by omega)]; omega
  have hr : Qaa u (((i + 1 : Nat) : Int) - 1) = u[i]:=by rw [show ((i + 1 : Nat) : Int) - 1 = (i : Int) by omega,Qaq _ _ hlt]
  have ih:=Order_push l x u (r:=r) i (t ++ [u[i]]) (by omega) (by simp; omega) (by
   rw [List.take_succ_eq_append_getElem hlt,List.reverse_append,List.reverse_singleton,List.singleton_append] at h
   rw [List.append_assoc,List.singleton_append]; exact h)
  refine Ev.step (fun k => ?_) ih
  simp only [r4_Order.l1]
  rw [if_pos (by omega),if_pos (by omega),if_pos (by omega),if_pos (by omega),hr,hw]
theorem Order_one {l : List SOp} (hl : SmL l) (h : RowOk l) {e : SElem} (he : e = bgE \/ e ∈ ordL l) (x t : List SElem) {r : List SElem} (ht : t.length + (chl l e).length <= 1000000000) (hx : x.length <= 1000000000)
  (k : Ev (fun k => r4_Order.l0 k l (if Qan e = true then x else x ++ [e]) (t ++ (chl l e).reverse)) r) : Ev (fun k => r4_Order.l0 k l x (t ++ [e])) r:=by
 have hlen : (t ++ [e]).length = t.length + 1:=by simp
 have hr : Qaa (t ++ [e]) (t.length : Int) = e:=by rw [Qaq _ _ (by simp)]; simp
 have hj : ∀ y : List SElem,Ev (fun k => r4_Order.l0 k l y (t ++ (chl l e).reverse)) r -> Ev (fun k => r4_Order.j1 k l y t e.f0 e.f1 e.f2) r:=by
  intro y hy
  refine Ev.step (f:=fun k => (r4_Under.f k l e.f0 e.f1 e.f2).bind fun t366 => r4_Order.l1 k l y t t366 (wrap64 ((t366.length : Int) - 1))) (fun k => by simp only [r4_Order.j1]) (Ev.bind (f:=fun k t366 => r4_Order.l1 k l y t t366 (wrap64 ((t366.length : Int) - 1))) (Under_ev hl h he) ?_)
  rw [Qak (by omega) (by omega)]
  refine Order_push l y (chl l e) (chl l e).length t (Nat.le_refl _) ht ?_
  rw [List.take_length]; exact hy
 have h1 : wrap64 (((t ++ [e]).length : Int) - 1) = (t.length : Int):=by rw [hlen,Qak (by omega) (by omega)]; omega
 have hT : (t ++ [e]).take ((t.length : Int)).toNat = t:=by rw [Int.toNat_natCast]; simp
 refine Ev.step (f:=fun k => if Qan e = true then r4_Order.j1 k l x t e.f0 e.f1 e.f2 else r4_Order.j1 k l (x ++ [e]) t e.f0 e.f1 e.f2) (fun k => ?_) ?_
 ·simp only [r4_Order.l0]
  rw [h1,if_pos (by omega),if_pos (by omega),if_pos (by omega),if_pos (by omega),hT,Option.bind_some,hr,Qca,Option.bind_some,if_pos (show x.length < 5864062014805 by omega)]
 ·cases hb : Qan e
  ·rw [hb] at k
   simp only [Bool.false_eq_true,if_false] at k ⊢
   exact hj _ k
  ·rw [hb] at k
   simp only [if_true] at k ⊢
   exact hj _ k
theorem walk_len {ch : SElem -> List SElem} {xs L : List SElem} (h : WalkL ch xs L) : xs.length <= L.length:=by
 induction h with
 | nil => exact Nat.le_refl _
 | cons h1 h2 ih1 ih2 => simp only [List.length_cons,List.length_append]; omega
theorem Order_walk {l : List SOp} (hl : SmL l) (h : RowOk l) {r : List SElem} {xs L : List SElem} (hw : WalkL (chl l) xs L) : ∀ (x t : List SElem),(∀ e ∈ L,e ∈ ordL l) -> x.length + L.length <= 1000000 -> t.length + L.length <= 1000000 ->
  Ev (fun k => r4_Order.l0 k l (x ++ L) t) r -> Ev (fun k => r4_Order.l0 k l x (t ++ xs.reverse)) r:=by
 induction hw with
 | nil => intro x t _ _ _ k; simpa using k
 | cons h1 h2 ih1 ih2 =>
  rename_i e xs L1 L2
  intro x t hm hx ht k
  simp only [List.length_cons,List.length_append] at hx ht
  have w1:=walk_len h1
  have w2:=walk_len h2
  have he : e ∈ ordL l:=hm e List.mem_cons_self
  have hb : Qan e = false:=by
   cases hb : Qan e
   ·rfl
   ·have:=(isBegin_iff e).1 hb
    have hp:=ordL_pos h he
    rw [this] at hp; simp [bgE] at hp
  rw [List.reverse_cons,<- List.append_assoc]
  refine Order_one hl h (.inr he) x (t ++ xs.reverse) (by simp; omega) (by omega) ?_
  rw [hb]
  simp only [Bool.false_eq_true,if_false]
  refine ih1 (x ++ [e]) (t ++ xs.reverse) (fun y hy => hm y (by simp [hy])) (by simp; omega) (by simp; omega) ?_
  refine ih2 (x ++ [e] ++ L1) t (fun y hy => hm y (by simp [hy])) (by simp; omega) (by omega) ?_
  have : x ++ [e] ++ L1 ++ L2 = x ++ e :: (L1 ++ L2):=by simp
  rw [this]; exact k
theorem Order_ev {l : List SOp} (hl : SmL l) (h : RowOk l) : Ev (fun k => r4_Order.f k l) (ordL l):=by
 have hlen : (ordL l).length <= 200:=by rw [(ordL_nodup h).2]; exact h.sums.2
 have hw:=ordL_walk h
 have w:=walk_len hw
 refine Order_one (e:=bgE) hl h (.inl rfl) [] [] (by simp; omega) (by simp) ?_
 have hb : Qan bgE = true:=rfl
 rw [if_pos hb]
 refine Order_walk hl h hw [] [] (fun e he => he) (by simp; omega) (by simp; omega) ?_
 rw [List.nil_append]
 refine Ev.step (f:=fun _ => some (ordL l)) (fun k => ?_) (Ev.now _)
 simp only [r4_Order.l0]
 rw [if_neg (by simp)]
end
section
theorem CopyElems_loop (l : List SElem) (hl : l.length <= 1000000000000) : ∀ d i,i + d = l.length -> Ev (fun k => r0_CopyElems.l0 k l (l.take i) (i : Int)) l
 | 0,i,h => by
  rw [List.take_of_length_le (by omega)]
  refine Ev.step (f:=fun _ => some l) (fun k => ?_) (Ev.now _)
  simp only [r0_CopyElems.l0]
  rw [if_neg (by omega)]
 | d + 1,i,h => by
  have hlt : i < l.length:=by omega
  have ih:=CopyElems_loop l hl d (i + 1) (by omega)
  rw [List.take_succ_eq_append_getElem hlt] at ih
  refine Ev.step (fun k => ?_) ih
  simp only [r0_CopyElems.l0]
  rw [if_pos (by omega),if_pos (by omega),Qaq _ _ hlt,if_pos (by rw [List.length_take]; omega),Qdc hlt (by omega)]
theorem CopyElems_ev (l : List SElem) (hl : l.length <= 1000000000000) : Ev (fun k => r0_CopyElems.f k l) l:=CopyElems_loop l hl l.length 0 (Nat.zero_add _)
theorem CopyOp_ev (o : SOp) (hl : o.f5.length <= 1000000000000) : Ev (fun k => r0_CopyOp.f k o.f0 o.f1 o.f2 o.f3.f0 o.f3.f1 o.f3.f2 o.f4 o.f5 o.f6 o.f7 o.f8) (o.f0,o.f1,o.f2,o.f3.f0,o.f3.f1,o.f3.f2,o.f4,o.f5,o.f6,o.f7,o.f8) :=
 Ev.bind (f:=fun _ t => some (o.f0,o.f1,o.f2,o.f3.f0,o.f3.f1,o.f3.f2,o.f4,t,o.f6,o.f7,o.f8)) (CopyElems_ev o.f5 hl) (Ev.now _)
theorem CopyOps_loop (l : List SOp) (hl : l.length <= 1000000) (hs : ∀ o ∈ l,o.f5.length <= 1000000000000) : ∀ d i,i + d = l.length -> Ev (fun k => r0_CopyOps.l0 k l (l.take i) (i : Int)) l
 | 0,i,h => by
  rw [List.take_of_length_le (by omega)]
  refine Ev.step (f:=fun _ => some l) (fun k => ?_) (Ev.now _)
  simp only [r0_CopyOps.l0]
  rw [if_neg (by omega)]
 | d + 1,i,h => by
  have hlt : i < l.length:=by omega
  have ih:=CopyOps_loop l hl hs d (i + 1) (by omega)
  rw [List.take_succ_eq_append_getElem hlt] at ih
  have hlen : (l.take i).length < 1256584717458:=by rw [List.length_take]; omega
  refine Ev.step (fun k => by simp only [r0_CopyOps.l0]; rw [if_pos (by omega),if_pos (by omega),Qam _ _ hlt,Qdc hlt (by omega)]) (Ev.bind (CopyOp_ev l[i] (hs _ (List.getElem_mem hlt))) ?_)
  simp only [if_pos hlen]
  exact ih
theorem CopyOps_ev (l : List SOp) (hl : l.length <= 1000000) (hs : ∀ o ∈ l,o.f5.length <= 1000000000000) : Ev (fun k => r0_CopyOps.f k l) l:=CopyOps_loop l hl hs l.length 0 (Nat.zero_add _)
end
section
theorem Behind_ev (l : List SOp) (hl : l.length <= 1000000) (hs : ∀ o ∈ l,o.f5.length <= 1000000000000) (o : SOp) (ho : o.f5.length <= 1000000000000) : Ev (fun k => r4_Behind.f k l o.f0 o.f1 o.f2 o.f3.f0 o.f3.f1 o.f3.f2 o.f4 o.f5 o.f6 o.f7 o.f8) (l ++ [o]):=by
 have hlen : l.length < 1256584717458:=by omega
 refine Ev.bind (CopyOps_ev l hl hs) (Ev.bind (CopyOp_ev o ho) ?_)
 simp only [if_pos hlen]
 exact Ev.now _
theorem cnt_loop (l : List SOp) (hl : l.length <= 1000000) (s q : Int) : ∀ d i,i + d = l.length -> ∀ n : Int,0 <= n -> n <= (i : Int) -> Ev (fun k => r4_Count.l0 k l s q n (i : Int)) ((l.drop i).foldl (cntStep s q) n)
  | 0,i,h,n,h0,h1 => by
    rw [List.drop_eq_nil_of_le (by omega)]
    refine Ev.step (f:=fun _ => some n) (fun k => ?_) (Ev.now _)
    simp only [r4_Count.l0]
    rw [if_neg (by omega)]
  | d + 1,i,h,n,h0,h1 => by
    have hlt : i < l.length:=by omega
    have ih0:=cnt_loop l hl s q d (i + 1) (by omega) n h0 (by omega)
    have ih1:=cnt_loop l hl s q d (i + 1) (by omega) (n + 1) (by omega) (by omega)
    have hw : wrap64 (n + 1) = n + 1:=Qak (by omega) (by omega)
    rw [List.drop_eq_getElem_cons hlt,List.foldl_cons]
    unfold cntStep
    unfold cntStep at ih0 ih1
    by_cases h2 : l[i].f2 = 2 <;> by_cases h6 : l[i].f6 = s <;> by_cases h7 : l[i].f7 = q <;> by_cases h8 : l[i].f8 = n <;>
      first
      | (rw [if_pos ⟨h2,h6,h7,h8⟩]
         refine Ev.step (fun k => ?_) ih1
         simp only [r4_Count.l0]
         rw [if_pos (by omega),if_pos (by omega),Qam _ _ hlt,Qdc hlt (by omega),if_pos h2,if_pos h6,if_pos h7,if_pos h8,hw])
      | (rw [if_neg (by simp [h2,h6,h7,h8])]
         refine Ev.step (fun k => ?_) ih0
         simp only [r4_Count.l0]
         rw [if_pos (by omega),if_pos (by omega),Qam _ _ hlt,Qdc hlt (by omega)]
         simp only [h2,h6,h7,h8,if_true,if_false])
theorem CountR_ev (l : List SOp) (hl : l.length <= 1000000) (s q : Int) : Ev (fun k => r4_Count.f k l s q) (cntR l s q):=cnt_loop l hl s q l.length 0 (Nat.zero_add _) 0 (Int.le_refl _) (Int.le_refl _)
theorem cntR_pos (s q : Int) : ∀ (l : List SOp) (n : Int),0 <= n -> 0 <= l.foldl (cntStep s q) n
 | [],n,h => h
 | o :: l,n,h => by
  rw [List.foldl_cons]
  refine cntR_pos s q l _ ?_
  unfold cntStep; split <;> omega
theorem EffectiveR_ev (l : List SOp) (hl : l.length <= 1000000) (s q : Int) : Ev (fun k => r4_Effective.f k l s q) (cntR l s q % 2 == 0):=by
 refine Ev.bind (f:=fun _ t => some ((Int.tmod t 2) == 0)) (CountR_ev l hl s q) ?_
 have hc : 0 <= cntR l s q:=cntR_pos s q l 0 (Int.le_refl _)
 rw [Int.tmod_eq_emod_of_nonneg hc]
 exact Ev.now _
theorem rd_works (l : List SOp) {i : Nat} (hi : i < l.length) : rdOf false (l.map (Qbr l)) (i : Int) = Qbr l l[i]:=by
 unfold rdOf
 rw [Int.toNat_natCast,List.getD_eq_getElem?_getD,List.getElem?_map,List.getElem?_eq_getElem hi]; rfl
def stays (l : List SOp) (e : SElem) (o : SOp) : Bool:=!Qbr l o || !decide (e ∈ o.f5)
theorem Vis_l2 {l : List SOp} (h : RowOk l) (acc all : List SElem) {i : Nat} (hi : i < all.length) (ha : all.length <= 1000000) (hacc : acc.length <= 1000000) {r : List SElem} : ∀ d j (b : Bool),j + d = l.length ->
  Ev (fun k => r4_Visible.l1 k l (l.map (Qbr l)) (if (b && (l.drop j).all (stays l all[i])) = true then acc ++ [all[i]] else acc) all ((i + 1 : Nat) : Int)) r ->
  Ev (fun k => r4_Visible.l2 k l (l.map (Qbr l)) acc all (i : Int) b (j : Int)) r
 | 0,j,b,hj,hn => by
  rw [List.drop_eq_nil_of_le (by omega),List.all_nil,Bool.and_true] at hn
  refine Ev.step (fun k => ?_) hn
  simp only [r4_Visible.l2]
  rw [if_neg (by omega)]
  cases b
  ·rw [if_neg (by decide),if_neg (by decide),Qdc hi (by omega)]
  ·rw [if_pos rfl,if_pos (by omega),if_pos (by omega),if_pos (by omega),Qaq _ _ hi,if_pos rfl,Qdc hi (by omega)]
 | d + 1,j,b,hj,hn => by
  have hlt : j < l.length:=by omega
  have h40:=h.sums.1
  rw [List.drop_eq_getElem_cons hlt,List.all_cons] at hn
  cases b
  ·simp only [Bool.false_and] at hn
   refine Ev.step (fun k => ?_) hn
   simp only [r4_Visible.l2]
   rw [if_pos (by omega),if_neg (by decide),if_neg (by decide),Qdc hi (by omega)]
  ·simp only [Bool.true_and] at hn
   have hlen : ((l.map (Qbr l)).length : Int) = l.length:=by rw [List.length_map]
   cases hw : Qbr l l[j]
   ·have ih:=Vis_l2 h acc all hi ha hacc (r:=r) d (j + 1) true (by omega) (by
     have : stays l all[i] l[j] = true:=by unfold stays; rw [hw]; rfl
     rw [this,Bool.true_and] at hn
     rw [Bool.true_and]; exact hn)
    refine Ev.step (fun k => ?_) ih
    simp only [r4_Visible.l2]
    rw [if_pos (by omega),if_pos True.intro,if_pos (by omega),if_pos (by omega),rd_works l hlt,hw,if_neg (by decide),Qdc hlt (by omega)]
   ·have hg:=opOk_gone200 (h.oks _ (List.getElem_mem hlt))
    have hA:=At_ev l[j].f5 (by omega) all[i]
    have hs : stays l all[i] l[j] = decide (idxE l[j].f5 all[i] < 0):=by
     unfold stays
     rw [hw,Bool.not_true,Bool.false_or]
     by_cases hm : all[i] ∈ l[j].f5
     ·have:=(idxE_nonneg l[j].f5 all[i]).2 hm
      rw [Zd hm,Ze (by omega)]; rfl
     ·have : ¬ 0 <= idxE l[j].f5 all[i]:=fun hh => hm ((idxE_nonneg _ _).1 hh)
      rw [Ze hm,Zd (by omega)]; rfl
    rw [hs] at hn
    have ih:=Vis_l2 h acc all hi ha hacc (r:=r) d (j + 1) (decide (idxE l[j].f5 all[i] < 0)) (by omega) hn
    refine Ev.step (fun k => ?_) (Ev.bind (f:=fun k t => r4_Visible.l2 k l (l.map (Qbr l)) acc all (i : Int) (decide (t < 0)) ((j + 1 : Nat) : Int)) hA ih)
    simp only [r4_Visible.l2]
    rw [if_pos (by omega),if_pos True.intro,if_pos (by omega),if_pos (by omega),rd_works l hlt,hw,if_pos rfl,if_pos (by omega),if_pos (by omega),Qaq _ _ hi,Qam _ _ hlt,Qdc hlt (by omega)]
theorem Vis_l1 {l : List SOp} (hl : SmL l) (h : RowOk l) (all : List SElem) (ha : all.length <= 200) (hm : ∀ e ∈ all,e ∈ ordL l) : ∀ d i (acc : List SElem),i + d = all.length -> acc.length <= i ->
  Ev (fun k => r4_Visible.l1 k l (l.map (Qbr l)) acc all (i : Int)) (acc ++ (all.drop i).filter fun e => Qbr l (Qad l (Qbb l e.f0 e.f1)) && l.all (stays l e))
 | 0,i,acc,hi,_ => by
  rw [List.drop_eq_nil_of_le (by omega),List.filter_nil,List.append_nil]
  refine Ev.step (f:=fun _ => some acc) (fun k => ?_) (Ev.now _)
  simp only [r4_Visible.l1]
  rw [if_neg (by omega)]
 | d + 1,i,acc,hi,hacc => by
  have hlt : i < all.length:=by omega
  have h40:=h.sums.1
  obtain ⟨q,hq,ef,_,_⟩:=elem_op h (hm _ (List.getElem_mem hlt))
  rw [List.drop_eq_getElem_cons hlt,List.filter_cons,ef,Qam _ _ hq]
  have ih:=fun a (h' : a.length <= i + 1) => Vis_l1 hl h all ha hm d (i + 1) a (by omega) h'
  have h2:=Vis_l2 h acc all hlt (by omega) (by omega) (r:=acc ++ (if (Qbr l l[q] && l.all (stays l all[i])) = true then all[i] :: (all.drop (i + 1)).filter (fun e => Qbr l (Qad l (Qbb l e.f0 e.f1)) && l.all (stays l e)) else (all.drop (i + 1)).filter (fun e => Qbr l (Qad l (Qbb l e.f0 e.f1)) && l.all (stays l e)))) l.length 0 (Qbr l l[q]) (Nat.zero_add _) (by
   rw [List.drop_zero]
   by_cases hc : (Qbr l l[q] && l.all (stays l all[i])) = true
   ·rw [if_pos hc,if_pos hc]
    have:=ih (acc ++ [all[i]]) (by simp; omega)
    rw [List.append_assoc] at this
    exact this
   ·rw [if_neg hc,if_neg hc]
    exact ih acc (by omega))
  have hlen : ((l.map (Qbr l)).length : Int) = l.length:=by rw [List.length_map]
  refine Ev.step (fun k => ?_) (Ev.bind (f:=fun k t => if 0 <= t then (if t < ((l.map (Qbr l)).length : Int) then r4_Visible.l2 k l (l.map (Qbr l)) acc all (i : Int) (rdOf false (l.map (Qbr l)) t) 0 else none) else none) (Find_ev l hl.len all[i].f0 all[i].f1) ?_)
  ·simp only [r4_Visible.l1]
   rw [if_pos (by omega),if_pos (by omega),Qaq _ _ hlt]
  ·rw [ef,rd_works l hq]
   refine Ev.congr (fun k => ?_) h2
   rw [if_pos (by omega),if_pos (by omega)]
   rfl
theorem Vis_l0 {l : List SOp} (hl : SmL l) (h : RowOk l) : ∀ d i,i + d = l.length -> Ev (fun k => r4_Visible.l0 k l ((l.take i).map (Qbr l) ++ List.replicate (l.length - i) false) (i : Int)) (visR l)
 | 0,i,hi => by
  rw [List.take_of_length_le (by omega),show l.length - i = 0 by omega]
  simp only [List.replicate_zero,List.append_nil]
  have hlen : (ordL l).length <= 200:=by rw [(ordL_nodup h).2]; exact h.sums.2
  refine Ev.step (fun k => ?_) (Ev.bind (f:=fun k t => r4_Visible.l1 k l (l.map (Qbr l)) ([] : List SElem) t 0) (Order_ev hl h) (Vis_l1 hl h (ordL l) hlen (fun e he => he) _ 0 [] (Nat.zero_add _) (Nat.le_refl _)))
  simp only [r4_Visible.l0]
  rw [if_neg (by omega)]
 | d + 1,i,hi => by
  have hlt : i < l.length:=by omega
  have h40:=h.sums.1
  have ih:=Vis_l0 hl h d (i + 1) (by omega)
  have hset : ∀ b,b = Qbr l l[i] -> ((l.take i).map (Qbr l) ++ List.replicate (l.length - i) false).set i b = (l.take (i + 1)).map (Qbr l) ++ List.replicate (l.length - (i + 1)) false:=by
   intro b hb
   have hl : ((l.take i).map (Qbr l)).length = i:=by rw [List.length_map,List.length_take]; omega
   rw [List.set_append,if_neg (by omega),hl,Nat.sub_self,show l.length - i = (l.length - (i + 1)) + 1 by omega,List.replicate_succ,List.set_cons_zero,List.take_succ_eq_append_getElem hlt,List.map_append,hb]
   simp
  have hlen : (((l.take i).map (Qbr l) ++ List.replicate (l.length - i) false).length : Int) = l.length:=by
   rw [List.length_append,List.length_map,List.length_take,List.length_replicate]; omega
  by_cases h1 : l[i].f2 = 1
  ·have hE:=EffectiveR_ev l (by omega) l[i].f0 l[i].f1
   have hw : (cntR l l[i].f0 l[i].f1 % 2 == 0) = Qbr l l[i]:=by unfold Qbr; rw [h1]; rfl
   rw [hw] at hE
   refine Ev.step (fun k => ?_) (Ev.bind (f:=fun k t => if (i : Int) < (((l.take i).map (Qbr l) ++ List.replicate (l.length - i) false).length : Int) then r4_Visible.l0 k l (((l.take i).map (Qbr l) ++ List.replicate (l.length - i) false).set i t) ((i + 1 : Nat) : Int) else none) hE (Ev.congr (fun k => ?_) ih))
   ·simp only [r4_Visible.l0]
    rw [if_pos (by omega),if_pos (by omega),Qam _ _ hlt,if_pos h1,Qdc hlt (by omega),Int.toNat_natCast]
   ·rw [if_pos (by rw [hlen]; omega),hset _ rfl]
  ·refine Ev.step (fun k => ?_) ih
   simp only [r4_Visible.l0]
   rw [if_pos (by omega),if_pos (by omega),Qam _ _ hlt,if_neg h1,if_pos (by rw [hlen]; omega),Qdc hlt (by omega),Int.toNat_natCast,hset _ (by unfold Qbr; simp [h1])]
theorem Visible_ev {l : List SOp} (hl : SmL l) (h : RowOk l) : Ev (fun k => r4_Visible.f k l) (Qbz l):=by
 have h40:=h.sums.1
 rw [seen_vis h]
 have:=Vis_l0 hl h l.length 0 (Nat.zero_add _)
 refine Ev.congr (fun k => ?_) this
 unfold r4_Visible.f
 rw [if_pos (by omega),if_pos (by omega),Int.toNat_natCast]
 simp
end
section
theorem doc_Plain_f {L : List SOp} (hs : smalls L = true) (h : RowOk L) : doc_Plain.f L = some (plainR L):=by unfold doc_Plain.f; exact if_pos ⟨hs,(Qci L).2 h⟩
theorem doc_Text_ok {L : List SOp} (hs : smalls L = true) (h : RowOk L) : doc_Text.f L = some (plainR L,0):=by
 unfold doc_Text.f
 rw [Qco hs,(Qci L).2 h,Option.bind_some,if_pos rfl,doc_Plain_f hs h]; rfl
theorem doc_Text_no {L : List SOp} (hs : smalls L = true) (hm : mayB L = false) : doc_Text.f L = some ((⟨#[]⟩ : ByteArray),1):=by
 unfold doc_Text.f
 rw [Qco hs,hm]; rfl
theorem runesBytes_from (ns : List Int) : ∀ s : ByteArray,ns.foldl (fun r n => r ++ Utf8.encode n) s = s ++ runesBytes ns:=by
 induction ns with
 | nil => intro s; show s = s ++ ByteArray.empty; exact ByteArray.append_empty.symm
 | cons n ns ih =>
  intro s
  unfold runesBytes
  rw [List.foldl_cons,List.foldl_cons,ih,ih,ByteArray.empty_append,ByteArray.append_assoc]
theorem runesBytes_app (a b : List Int) : runesBytes (a ++ b) = runesBytes a ++ runesBytes b:=by
 rw [<- runesBytes_from b (runesBytes a)]; unfold runesBytes; rw [List.foldl_append]
theorem runesBytes_one (r : Int) : runesBytes [r] = Utf8.encode r:=by
 unfold runesBytes; rw [List.foldl_cons,List.foldl_nil,ByteArray.empty_append]
end
section
theorem RuneR_ev {l : List SOp} (hl : SmL l) (h : RowOk l) {e : SElem} (he : e ∈ ordL l) : Ev (fun k => r4_Rune.f k l e.f0 e.f1 e.f2) (atR l e):=by
 obtain ⟨p,hp,e0,e1,h2,h3⟩:=(Qdh h e).1 he
 obtain ⟨i,hi,ef,ei⟩:=Qcg h hp
 rw [e0,e1] at ef
 have hok:=h.oks p hp
 have hR:=Runes_ev p.f4 (hl.ops p hp).1
 have ht : textOk p.f4 = true:=by
  cases ht : textOk p.f4
  ·exfalso
   have hs:=opOk_text hok
   unfold runesN at hs
   rw [ht] at hs
   simp at hs
   omega
  ·rfl
 rw [ht,if_pos rfl] at hR
 have hlen : ((Qbh p.f4).length : Int) = (Qai p : Int):=rfl
 obtain ⟨j,hj⟩ : ∃ j : Nat,e.f2 = (j : Int):=⟨e.f2.toNat,by omega⟩
 refine Ev.bind (f:=fun k t => if 0 <= t then (if t < (l.length : Int) then ((r1_Runes.f k ((Qad l t).f4)).bind fun bt => (if 0 <= e.f2 then (if e.f2 < (bt.1.length : Int) then (some (rd bt.1 e.f2)) else (none)) else (none))) else (none)) else (none)) (Find_ev l hl.len e.f0 e.f1) ?_
 rw [ef,Qam _ _ hi,ei]
 refine Ev.congr (f:=fun k => (r1_Runes.f k p.f4).bind fun bt => (if 0 <= e.f2 then (if e.f2 < (bt.1.length : Int) then (some (rd bt.1 e.f2)) else (none)) else (none))) (fun k => by rw [if_pos (by omega),if_pos (by omega)]) (Ev.bind (f:=fun _ bt => (if 0 <= e.f2 then (if e.f2 < (bt.1.length : Int) then (some (rd bt.1 e.f2)) else (none)) else (none))) hR ?_)
 refine Ev.congr (fun k => ?_) (Ev.now _)
 rw [if_pos h2,if_pos (by rw [hlen]; exact h3)]
 unfold atR rd
 rw [ef,Qam _ _ hi,ei]
theorem Make_loop (l : List Int) (hl : l.length <= 1000000) : ∀ d i,i + d = l.length -> Ev (fun k => r1_Make.l0 k l (runesBytes (l.take i)) (i : Int)) (runesBytes l)
 | 0,i,h => by
  rw [List.take_of_length_le (by omega)]
  refine Ev.step (f:=fun _ => some (runesBytes l)) (fun k => ?_) (Ev.now _)
  simp only [r1_Make.l0]
  rw [if_neg (by omega)]
 | d + 1,i,h => by
  have hlt : i < l.length:=by omega
  have ih:=Make_loop l hl d (i + 1) (by omega)
  rw [List.take_succ_eq_append_getElem hlt,runesBytes_app,runesBytes_one] at ih
  have hr : rd l (i : Int) = l[i]:=by unfold rd; rw [Int.toNat_natCast]; simp [List.getD_eq_getElem?_getD,hlt]
  have hsz : (runesBytes (l.take i)).size + (Utf8.encode l[i]).size <= 9223372036854775807:=by
   have h1:=runesBytes_size_le (l.take i)
   have h2:=encode_size_le l[i]
   rw [List.length_take] at h1
   omega
  refine Ev.step (fun k => ?_) ih
  simp only [r1_Make.l0]
  rw [if_pos (by omega),if_pos (by omega),hr,if_pos hsz,Qdc hlt (by omega)]
theorem Make_ev (l : List Int) (hl : l.length <= 1000000) : Ev (fun k => r1_Make.f k l) (runesBytes l):=Make_loop l hl l.length 0 (Nat.zero_add _)
theorem TextR_loop {l : List SOp} (hl : SmL l) (h : RowOk l) : ∀ d i,i + d = (Qbz l).length -> Ev (fun k => r4_Text.l0 k l (Qbz l) (((Qbz l).take i).map (atR l)) (i : Int)) (plainR l)
 | 0,i,hi => by
  rw [List.take_of_length_le (by omega)]
  have hM:=Make_ev ((Qbz l).map (atR l)) (by rw [List.length_map]; have:=seen_len h; omega)
  refine Ev.step (fun k => ?_) (Ev.bind (f:=fun _ t => some t) hM (Ev.now _))
  simp only [r4_Text.l0]
  rw [if_neg (by omega)]
 | d + 1,i,hi => by
  have hlt : i < (Qbz l).length:=by omega
  have h200:=seen_len h
  have ih:=TextR_loop hl h d (i + 1) (by omega)
  rw [List.take_succ_eq_append_getElem hlt,List.map_append] at ih
  have hR:=RuneR_ev hl h (seen_mem.1 (List.getElem_mem hlt)).1
  have hlen : (((Qbz l).take i).map (atR l)).length < 35184372088832:=by rw [List.length_map,List.length_take]; omega
  refine Ev.step (fun k => ?_) (Ev.bind (f:=fun k t => if (((Qbz l).take i).map (atR l)).length < 35184372088832 then r4_Text.l0 k l (Qbz l) ((((Qbz l).take i).map (atR l)) ++ [t]) ((i + 1 : Nat) : Int) else none) hR (Ev.congr (fun k => if_pos hlen) ih))
  simp only [r4_Text.l0]
  rw [if_pos (by omega),if_pos (by omega),Qaq _ _ hlt,Qdc hlt (by omega)]
theorem TextR_ev {l : List SOp} (hl : SmL l) (h : RowOk l) : Ev (fun k => r4_Text.f k l) (plainR l) :=
 Ev.bind (f:=fun k t => r4_Text.l0 k l t ([] : List Int) 0) (Visible_ev hl h) (TextR_loop hl h _ 0 (Nat.zero_add _))
end
section
theorem doc_Edit_at {L : List SOp} (hs : smalls L = true) (h : RowOk L) {i : Nat} (hi : i < L.length) {a b : Int} (hf : Qbb L a b = (i : Int)) : doc_Edit.f L a b = some (if L[i].f2 = 1 then ((i : Int),0) else (0,3)):=by
 have h40:=h.sums.1
 unfold doc_Edit.f
 rw [Qco hs,(Qci L).2 h,Option.bind_some,if_pos rfl,tree_Find_f (by omega),Option.bind_some,hf,if_neg (by omega),if_pos (by omega),if_pos (by omega),Qam _ _ hi]
 split <;> rfl
theorem Count_ev {L : List SOp} (hs : smalls L = true) (h : RowOk L) {i : Nat} (hi : i < L.length) {a b : Int} (hf : Qbb L a b = (i : Int)) : Ev (fun k => doc_Count.f k L a b) (if L[i].f2 = 1 then (cntR L L[i].f0 L[i].f1,0) else (0,3)):=by
 by_cases h1 : L[i].f2 = 1
 ·rw [if_pos h1]
  refine Ev.congr (f:=fun k => (doc_Counts.f k L).bind fun t => if 0 <= (i : Int) then (if (i : Int) < (t.length : Int) then some (rd t (i : Int),(0 : Int)) else none) else none) (fun k => ?_) (Ev.bind (f:=fun _ t => if 0 <= (i : Int) then (if (i : Int) < (t.length : Int) then some (rd t (i : Int),(0 : Int)) else none) else none) (Counts_ev h) ?_)
  ·unfold doc_Count.f
   rw [doc_Edit_at hs h hi hf,if_pos h1]; rfl
  ·refine Ev.congr (fun k => ?_) (Ev.now _)
   rw [if_pos (by omega),if_pos (by rw [counts_length]; omega)]
   unfold rd
   rw [Int.toNat_natCast,counts_at h hi]
 ·rw [if_neg h1]
  refine Ev.congr (fun k => ?_) (Ev.now _)
  unfold doc_Count.f
  rw [doc_Edit_at hs h hi hf,if_neg h1]; rfl
end
section
theorem doc_Visible_ok {L : List SOp} (hs : smalls L = true) (h : RowOk L) : doc_Visible.f L = some (Qbz L,0):=by
 unfold doc_Visible.f
 rw [Qco hs,(Qci L).2 h,Option.bind_some,if_pos rfl,doc_Seen_f hs h]; rfl
theorem doc_Visible_no {L : List SOp} (hs : smalls L = true) (hm : mayB L = false) : doc_Visible.f L = some ([],1):=by
 unfold doc_Visible.f
 rw [Qco hs,hm]; rfl
end
section
theorem tree_Written_f {l : List SOp} (hs : smalls l = true) (a b c : Int) : tree_Written.f l a b c = some (Qbx l ⟨a,b,c⟩):=by
 have hlen : l.length <= 9223372036854775807:=by
  unfold smalls at hs; simp only [Bool.and_eq_true,decide_eq_true_eq] at hs; exact hs.1
 unfold tree_Written.f tree_Find.f Qbx
 rw [if_pos hlen,Option.bind_some]
 simp only
 rcases Qav l a b with ⟨i,hi,_,_,_,e⟩ | ⟨_,e⟩
 ·rw [e,if_pos (by omega)]
  by_cases hc : c >= 0
  ·rw [if_pos hc,if_pos (by omega),if_pos (by omega),op_Size_f _ (smalls_at hs hi),Option.bind_some]
   have h1 : decide ((0 : Int) <= (i : Int)) = true:=Zd (by omega)
   have h2 : decide ((0 : Int) <= c) = true:=Zd hc
   rw [h1,h2]; simp
  ·rw [if_neg hc]
   have h2 : decide ((0 : Int) <= c) = false:=Ze (by omega)
   rw [h2]; simp
 ·rw [e,if_neg (by omega)]; simp
end
section
theorem wakes6_f : w6_wakes.f = some true:=by decide +kernel
theorem num6_f (a : Int) : w6_num.f a = some a:=rfl
theorem doc_Edit_any {L : List SOp} (hs : smalls L = true) (h : RowOk L) (a b : Int) : doc_Edit.f L a b = some (if editN L a b = true then (Qbb L a b,0) else (0,3)):=by
 have h40:=h.sums.1
 rcases Qav L a b with ⟨i,hi,_,_,_,ef⟩ | ⟨_,ef⟩
 ·rw [doc_Edit_at hs h hi ef]
  have he : editN L a b = (L[i].f2 == 1):=by unfold editN; rw [ef,Qam _ _ hi,Zd (by omega),Bool.true_and]
  rw [he,ef]
  by_cases h1 : L[i].f2 = 1
  ·rw [if_pos h1,if_pos (by rw [h1]; rfl)]
  ·rw [if_neg h1,if_neg (by simp [h1])]
 ·have he : editN L a b = false:=by unfold editN; rw [ef]; rfl
  unfold doc_Edit.f
  rw [Qco hs,(Qci L).2 h,Option.bind_some,if_pos rfl,tree_Find_f (by omega),Option.bind_some,ef,if_pos (by decide),he]
  rfl
theorem Count_any {L : List SOp} (hs : smalls L = true) (h : RowOk L) (a b : Int) : Ev (fun k => doc_Count.f k L a b) (if editN L a b = true then (cntR L a b,0) else (0,3)):=by
 rcases Qav L a b with ⟨i,hi,e0,e1,_,ef⟩ | ⟨_,ef⟩
 ·have he : editN L a b = (L[i].f2 == 1):=by unfold editN; rw [ef,Qam _ _ hi,Zd (by omega),Bool.true_and]
  have hC:=Count_ev hs h hi ef
  rw [e0,e1] at hC
  rw [he]
  by_cases h1 : L[i].f2 = 1
  ·rw [if_pos h1] at hC; rw [if_pos (by rw [h1]; rfl)]; exact hC
  ·rw [if_neg h1] at hC; rw [if_neg (by simp [h1])]; exact hC
 ·have he : editN L a b = false:=by unfold editN; rw [ef]; rfl
  refine Ev.congr (fun k => ?_) (Ev.now _)
  unfold doc_Count.f
  rw [doc_Edit_any hs h,he]
  rfl
theorem cnt_pos (L : List SOp) (a b : Int) : 0 <= cntR L a b:=cntR_pos a b L 0 (Int.le_refl _)
theorem Effective_any {L : List SOp} (hs : smalls L = true) (h : RowOk L) (a b : Int) : Ev (fun k => doc_Effective.f k L a b) (if editN L a b = true then (cntR L a b % 2 == 0,0) else (false,3)):=by
 refine Ev.bind (f:=fun _ (bt : Int × Int) => if bt.2 = 0 then some ((Int.tmod bt.1 2) == 0,bt.2) else some (false,bt.2)) (Count_any hs h a b) ?_
 cases editN L a b
 ·exact Ev.now _
 ·simp only [if_true]
  rw [Int.tmod_eq_emod_of_nonneg (cnt_pos L a b)]
  exact Ev.now _
theorem Rune_any {L : List SOp} (hs : smalls L = true) (h : RowOk L) (e : SElem) : doc_Rune.f L e.f0 e.f1 e.f2 = some (if Qbx L e = true then (atR L e,0) else (0,3)):=by
 unfold doc_Rune.f
 rw [Qco hs,(Qci L).2 h,Option.bind_some,if_pos rfl,tree_Written_f hs,Option.bind_some]
 cases hw : Qbx L e
 ·rfl
 ·rw [if_pos rfl,if_pos rfl,At_ok h ((mem_written h e).1 hw)]; rfl
theorem Edit_no {L : List SOp} (hs : smalls L = true) (hm : mayB L = false) (a b : Int) : doc_Edit.f L a b = some (0,1):=by
 unfold doc_Edit.f; rw [Qco hs,hm]; rfl
theorem Count_no {L : List SOp} (hs : smalls L = true) (hm : mayB L = false) (a b : Int) : Ev (fun k => doc_Count.f k L a b) (0,1):=by
 refine Ev.congr (fun k => ?_) (Ev.now _)
 unfold doc_Count.f; rw [Edit_no hs hm]; rfl
theorem Effective_no {L : List SOp} (hs : smalls L = true) (hm : mayB L = false) (a b : Int) : Ev (fun k => doc_Effective.f k L a b) (false,1) :=
 Ev.bind (f:=fun _ (bt : Int × Int) => if bt.2 = 0 then some ((Int.tmod bt.1 2) == 0,bt.2) else some (false,bt.2)) (Count_no hs hm a b) (Ev.now _)
theorem Rune_no {L : List SOp} (hs : smalls L = true) (hm : mayB L = false) (e : SElem) : doc_Rune.f L e.f0 e.f1 e.f2 = some (0,1):=by
 unfold doc_Rune.f; rw [Qco hs,hm]; rfl
theorem IdleR_ev (L : List SOp) (hl : L.length <= 1000000) (o : SOp) : Ev (fun k => r4_Idle.f k L o.f0 o.f1 o.f2 o.f3.f0 o.f3.f1 o.f3.f2 o.f4 o.f5 o.f6 o.f7 o.f8) (idleR L o):=by
 unfold idleR
 by_cases h2 : o.f2 = 2
 ·refine Ev.congr (f:=fun k => (r4_Count.f k L o.f6 o.f7).bind fun t => some (o.f8 != t)) (fun k => by unfold r4_Idle.f; rw [if_pos h2]) (Ev.bind (f:=fun _ t => some (o.f8 != t)) (CountR_ev L hl _ _) ?_)
  rw [h2]
  exact Ev.now _
 ·have : (o.f2 == 2) = false:=by simp [h2]
  rw [this]
  exact Ev.congr (fun k => by unfold r4_Idle.f; rw [if_neg h2]) (Ev.now false)
theorem Wipe_loop : ∀ d i (x : List SElem),i + d = x.length -> x.length <= 1000000 -> ∃ r,Ev (fun k => w0_Elems.l0 k x (i : Int)) r
 | 0,i,x,h,_ => ⟨x,Ev.step (f:=fun _ => some x) (fun k => by simp only [w0_Elems.l0]; rw [if_neg (by omega)]) (Ev.now _)⟩
 | d + 1,i,x,h,hl => by
  obtain ⟨r,hr⟩:=Wipe_loop d (i + 1) (x.set i ⟨-9,0,0⟩) (by rw [List.length_set]; omega) (by rw [List.length_set]; exact hl)
  refine ⟨r,Ev.step (fun k => ?_) hr⟩
  simp only [w0_Elems.l0]
  rw [if_pos (by omega),if_pos (by omega),Qdc (show i < x.length by omega) (by omega),Int.toNat_natCast]
theorem Wipe_some (x : List SElem) (hl : x.length <= 1000000) : ∃ r,Ev (fun k => w0_Elems.f k x) r:=Wipe_loop x.length 0 x (Nat.zero_add _) hl
section
variable {l0 : List (List SOp)} {l1 : List SElem} {l2 : List SOp} {l3 : List Int}
theorem DA_j13 (x3 : Int) (L : List SOp) (m : Bool) (v : List SElem) {q : Nat} (hq : q < 1000) (b : Bool) (c : Int) (hnext : Ev (fun k => w6_DocTells.l2 k x3 L m v ((q + 1 : Nat) : Int) l0 l1 l2 l3) true) :
  Ev (fun k => w6_DocTells.j13 k x3 L m v (q : Int) b c c b l0 l1 l2 l3) true:=by
 refine Ev.step (fun k => ?_) hnext
 simp only [w6_DocTells.j13,num6_f,Option.bind_some,if_true]
 rw [bne_self_eq_false,if_neg (by decide),Qak (by omega) (by omega)]
 rfl
theorem DA_j11 (x3 : Int) {L : List SOp} (ht : Tiny L) (hn : L.length <= 900) (v : List SElem) {q : Nat} (hq : q < 1000) (o : SOp) (hto : tiny o) (hnext : Ev (fun k => w6_DocTells.l2 k x3 L (mayB L) v ((q + 1 : Nat) : Int) l0 l1 l2 l3) true) :
  Ev (fun k => w6_DocTells.j11 k x3 L (mayB L) v (q : Int) l0 l1 l2 l3 o.f0 o.f1 o.f2 o.f3.f0 o.f3.f1 o.f3.f2 o.f4 o.f5 o.f6 o.f7 o.f8) true:=by
 have ht1:=ht.snoc hto
 have hl1 : (L ++ [o]).length <= 1000:=by rw [List.length_append,List.length_singleton]; omega
 have hs1:=ht1.smalls hl1
 have hI : doc_Idle.f L o.f0 o.f1 o.f2 o.f3.f0 o.f3.f1 o.f3.f2 o.f4 o.f5 o.f6 o.f7 o.f8 = some (if mayB (L ++ [o]) = true then (idleR L o,0) else (false,1)):=by
  show idleF L o = _
  unfold idleF
  rw [if_pos ⟨hs1,by omega⟩]
 have hB:=Behind_ev L (by omega) (fun o ho => by have:=(ht o ho).2; omega) o (by have:=hto.2; omega)
 have hR:=Row_ev (L ++ [o]) (ht1.smL hl1)
 cases hm : mayB L
 ·rw [hm] at hnext
  have h1 : mayB (L ++ [o]) = false:=by
   cases h1 : mayB (L ++ [o])
   ·rfl
   ·obtain ⟨hr,_⟩:=((Qci _).1 h1).snoc_inv
    rw [(Qci _).2 hr] at hm; cases hm
  rw [h1] at hI
  refine Ev.step (f:=fun k => w6_DocTells.j12 k x3 L false v (q : Int) false 1 1 false false l0 l1 l2 l3 o.f0 o.f1 o.f2 o.f3.f0 o.f3.f1 o.f3.f2 o.f4 o.f5 o.f6 o.f7 o.f8) (fun k => ?_) (Ev.step (fun k => ?_) (DA_j13 x3 L false v hq false 1 hnext))
  ·simp only [w6_DocTells.j11]
   rw [hI]; rfl
  ·simp only [w6_DocTells.j12]
   rw [if_neg (by decide)]
 ·rw [hm] at hnext
  cases h1 : mayB (L ++ [o])
  ·rw [h1] at hI hR
   refine Ev.step (fun k => by simp only [w6_DocTells.j11]; rw [hI,Option.bind_some,if_pos True.intro]) (Ev.bind hB (Ev.bind hR ?_))
   refine Ev.step (fun k => ?_) (DA_j13 x3 L true v hq false 1 hnext)
   simp only [w6_DocTells.j12,Bool.false_eq_true,if_false]
  ·rw [h1] at hI hR
   refine Ev.step (fun k => by simp only [w6_DocTells.j11]; rw [hI,Option.bind_some,if_pos True.intro]) (Ev.bind hB (Ev.bind hR ?_))
   refine Ev.step (fun k => by simp only [w6_DocTells.j12]; rw [if_pos True.intro]) (Ev.bind (IdleR_ev L (by omega) o) ?_)
   simp only [if_true]
   exact DA_j13 x3 L true v hq (idleR L o) 0 hnext
theorem DA_j9e {i : Nat} (hi : i < l0.length) {L : List SOp} (hL : l0[i] = L) (ht : Tiny L) (hn : L.length <= 900) (m : Bool) (v : List SElem) (hv : v.length <= 1000000) (q : Nat)
  (hnext : Ev (fun k => w6_DocTells.l0 k (wrap64 ((i : Int) + 1)) l0 l1 l2 l3) true) : Ev (fun k => w6_DocTells.j9 k (i : Int) L m v (q : Int) false l0 l1 l2 l3) true:=by
 obtain ⟨r,hr⟩:=Wipe_some v hv
 refine Ev.step (fun k => by simp only [w6_DocTells.j9]; rw [if_neg (by decide)]) (Ev.bind hr ?_)
 refine Ev.congr (f:=fun k => (r0_EqOps.f k L L).bind fun t647 => if t647 = true then w6_DocTells.l0 k (wrap64 ((i : Int) + 1)) l0 l1 l2 l3 else some false) (fun k => ?_) (Ev.bind (f:=fun k t647 => if t647 = true then w6_DocTells.l0 k (wrap64 ((i : Int) + 1)) l0 l1 l2 l3 else some false) (EqOps_ev L (by omega) (fun o ho => by have:=(ht o ho).2; omega)) ?_)
 ·rw [if_pos (by omega),if_pos (by omega),rd_LOp_nat _ _ hi,hL]
 ·simp only [if_true]
  exact hnext
theorem DA_j10f (x3 : Int) {L : List SOp} (ht : Tiny L) (hn : L.length <= 900) (v : List SElem) {q : Nat} (hq : q < 1000) (o : SOp) (hto : tiny o) (hnext : Ev (fun k => w6_DocTells.l2 k x3 L (mayB L) v ((q + 1 : Nat) : Int) l0 l1 l2 l3) true) :
  Ev (fun k => w6_DocTells.j10 k x3 L (mayB L) v (q : Int) false l0 l1 l2 l3 o.f0 o.f1 o.f2 o.f3.f0 o.f3.f1 o.f3.f2 o.f4 o.f5 o.f6 o.f7 o.f8) true:=by
 refine Ev.step (fun k => ?_) (DA_j11 x3 ht hn v hq o hto hnext)
 simp only [w6_DocTells.j10]; rw [if_neg (by decide)]
theorem DA_j10t (x3 : Int) {L : List SOp} (ht : Tiny L) (hn : L.length <= 900) (v : List SElem) {q : Nat} (hq : q < 1000) (o : SOp) (hto : tiny o) (hnext : Ev (fun k => w6_DocTells.l2 k x3 L (mayB L) v ((q + 1 : Nat) : Int) l0 l1 l2 l3) true) :
  Ev (fun k => w6_DocTells.j10 k x3 L (mayB L) v (q : Int) true l0 l1 l2 l3 o.f0 o.f1 o.f2 o.f3.f0 o.f3.f1 o.f3.f2 o.f4 o.f5 o.f6 o.f7 o.f8) true:=by
 have hM:=Many_ev L (by omega) o.f0
 obtain ⟨o',ho⟩ : ∃ o' : SOp,o' = ⟨o.f0,wrap64 ((Qcl L o.f0 : Int) + 1),o.f2,o.f3,o.f4,o.f5,o.f6,o.f7,o.f8⟩:=⟨_,rfl⟩
 have e0 : o'.f0 = o.f0:=by rw [ho]
 have e1 : o'.f1 = wrap64 ((Qcl L o.f0 : Int) + 1):=by rw [ho]
 have e2 : o'.f2 = o.f2:=by rw [ho]
 have e3 : o'.f3 = o.f3:=by rw [ho]
 have e4 : o'.f4 = o.f4:=by rw [ho]
 have e5 : o'.f5 = o.f5:=by rw [ho]
 have e6 : o'.f6 = o.f6:=by rw [ho]
 have e7 : o'.f7 = o.f7:=by rw [ho]
 have e8 : o'.f8 = o.f8:=by rw [ho]
 have hto' : tiny o':=by unfold tiny at hto ⊢; rw [e4,e5]; exact hto
 have h11:=DA_j11 (l0:=l0) (l1:=l1) (l2:=l2) (l3:=l3) x3 ht hn v hq o' hto' hnext
 rw [e0,e1,e2,e3,e4,e5,e6,e7,e8] at h11
 clear e0 e1 e2 e3 e4 e5 e6 e7 e8 ho
 refine Ev.step (fun k => by simp only [w6_DocTells.j10]; rw [if_pos True.intro]) (Ev.bind hM ?_)
 exact h11
theorem DA_in (x3 : Int) {L : List SOp} (ht : Tiny L) (hn : L.length <= 900) (htO : Tiny l2) (v : List SElem) {q : Nat} (h4 : (q : Int) < 4) (hlt : q < l2.length) (hnext : Ev (fun k => w6_DocTells.l2 k x3 L (mayB L) v ((q + 1 : Nat) : Int) l0 l1 l2 l3) true) :
  Ev (fun k => w6_DocTells.j9 k x3 L (mayB L) v (q : Int) true l0 l1 l2 l3) true:=by
 have hto:=htO _ (List.getElem_mem hlt)
 have hC:=CopyOp_ev l2[q] (by have:=hto.2; omega)
 have hf:=DA_j10f (l0:=l0) (l1:=l1) (l2:=l2) (l3:=l3) x3 ht hn v (q:=q) (by omega) l2[q] hto hnext
 have htr:=DA_j10t (l0:=l0) (l1:=l1) (l2:=l2) (l3:=l3) x3 ht hn v (q:=q) (by omega) l2[q] hto hnext
 have q0 : (0 : Int) <= (q : Int):=by omega
 have q1 : (q : Int) < (l2.length : Int):=by omega
 have hrd:=Qam _ _ hlt
 generalize l2[q] = o at hC hf htr hrd
 refine Ev.step (fun k => by simp only [w6_DocTells.j9]; rw [if_pos True.intro,if_pos q0,if_pos q1,hrd]) (Ev.bind hC ?_)
 clear hnext
 cases hm : mayB L
 ·rw [hm] at hf
  simp only [Bool.false_eq_true,if_false]
  exact hf
 ·rw [hm] at hf htr
  simp only [if_true]
  cases (Int.tmod (q : Int) 2 == 0)
  ·exact hf
  ·exact htr
theorem DA_l2 {i : Nat} (hi : i < l0.length) {L : List SOp} (hL : l0[i] = L) (ht : Tiny L) (hn : L.length <= 900) (htO : Tiny l2) (v : List SElem) (hv : v.length <= 1000000)
  (hnext : Ev (fun k => w6_DocTells.l0 k (wrap64 ((i : Int) + 1)) l0 l1 l2 l3) true) : ∀ d q,q + d = l2.length -> Ev (fun k => w6_DocTells.l2 k (i : Int) L (mayB L) v (q : Int) l0 l1 l2 l3) true:=by
 have hend:=fun q : Nat => DA_j9e hi hL ht hn (mayB L) v hv q hnext
 intro d
 induction d with
 | zero =>
  intro q hq
  refine Ev.step (fun k => ?_) (hend q)
  simp only [w6_DocTells.l2]; rw [if_neg (by omega)]
 | succ d ihd =>
  intro q hq
  have ih:=ihd (q + 1) (by omega)
  have q1 : (q : Int) < (l2.length : Int):=by omega
  by_cases h4 : (q : Int) < 4
  ·have h9:=DA_in (l0:=l0) (l1:=l1) (l2:=l2) (l3:=l3) (i : Int) ht hn htO v h4 (by omega) ih
   refine Ev.step (fun k => ?_) h9
   simp only [w6_DocTells.l2]; rw [if_pos q1,Zd h4]
  ·refine Ev.step (fun k => ?_) (hend q)
   simp only [w6_DocTells.l2]; rw [if_pos q1,Ze h4]
theorem DA_j6 (x3 : Int) (L : List SOp) (m : Bool) (v : List SElem) (x10 : Int) (es : List SElem) {q : Nat} (hq : q < 1100) (n c : Int) (f : Bool) (r d : Int) (hnext : Ev (fun k => w6_DocTells.l1 k x3 L m v x10 es ((q + 1 : Nat) : Int) l0 l1 l2 l3) true) :
  Ev (fun k => w6_DocTells.j6 k x3 L m v x10 es (q : Int) n c f c r d c d n f r l0 l1 l2 l3) true:=by
 refine Ev.step (f:=fun k => w6_DocTells.j7 k x3 L m v x10 es (q : Int) false l0 l1 l2 l3) (fun k => ?_) (Ev.step (fun k => ?_) hnext)
 ·simp only [w6_DocTells.j6,num6_f,Option.bind_some,if_true]
  rw [bne_self_eq_false,if_neg (by decide),bne_self_eq_false]
 ·simp only [w6_DocTells.j7]
  rw [if_neg (by decide),Qak (by omega) (by omega)]
  rfl
theorem DA_l1 {i : Nat} (hi : i < l0.length) {L : List SOp} (hL : l0[i] = L) (ht : Tiny L) (hn : L.length <= 900) (htO : Tiny l2) (v : List SElem) (hv : v.length <= 1000000) (x10 : Int) (h10 : x10 = if mayB L = true then 0 else 1) (es : List SElem) (hes : es.length <= 1100)
  (hnext : Ev (fun k => w6_DocTells.l0 k (wrap64 ((i : Int) + 1)) l0 l1 l2 l3) true) : ∀ d q,q + d = es.length -> Ev (fun k => w6_DocTells.l1 k (i : Int) L (mayB L) v x10 es (q : Int) l0 l1 l2 l3) true
 | 0,q,hq => by
  refine Ev.step (fun k => ?_) (DA_l2 hi hL ht hn htO v hv hnext _ 0 (Nat.zero_add _))
  simp only [w6_DocTells.l1]
  rw [if_neg (by omega)]
  rfl
 | d + 1,q,hq => by
  have ih:=DA_l1 hi hL ht hn htO v hv x10 h10 es hes hnext d (q + 1) (by omega)
  have hsm:=ht.smL (by omega)
  have hs:=ht.smalls (by omega)
  have q0 : (0 : Int) <= (q : Int):=by omega
  have q1 : (q : Int) < (es.length : Int):=by omega
  generalize he : Qaa es (q : Int) = e
  cases hm : mayB L
  ·rw [hm] at ih h10
   obtain rfl : x10 = 1:=h10
   refine Ev.step (fun k => by simp only [w6_DocTells.l1]; rw [if_pos q1,if_pos q0,he]) (Ev.bind (Count_no hs hm e.f0 e.f1) (Ev.bind (Effective_no hs hm e.f0 e.f1) ?_))
   simp only [Rune_no hs hm,Option.bind_some,Bool.false_eq_true,if_false]
   exact DA_j6 (i : Int) L false v 1 es (by omega) 0 1 false 0 1 ih
  ·rw [hm] at ih h10
   obtain rfl : x10 = 0:=h10
   have h:=(Qci _).1 hm
   have hE:=Edit_ev L (by omega) e.f0 e.f1
   have hW:=Written_ev hsm h e
   have h5 : ∀ (n c : Int) (f : Bool) ,Ev (fun k => w6_DocTells.j5 k (i : Int) L true v 0 es (q : Int) n c f c (if Qbx L e = true then (atR L e,(0 : Int)) else (0,3)).1 (if Qbx L e = true then (atR L e,(0 : Int)) else (0,3)).2 c 3 n f 0 l0 l1 l2 l3) true:=by
    intro n c f
    refine Ev.step (fun k => by simp only [w6_DocTells.j5]; rw [if_pos q0,if_pos q1,he]) (Ev.bind hW ?_)
    cases hw : Qbx L e
    ·simp only [Bool.false_eq_true,if_false]
     exact DA_j6 (i : Int) L true v 0 es (by omega) n c f 0 3 ih
    ·simp only [if_true]
     refine Ev.bind (RuneR_ev hsm h ((mem_written h e).1 hw)) ?_
     exact DA_j6 (i : Int) L true v 0 es (by omega) n c f (atR L e) 0 ih
   refine Ev.step (fun k => by simp only [w6_DocTells.l1]; rw [if_pos q1,if_pos q0,he]) (Ev.bind (Count_any hs h e.f0 e.f1) (Ev.bind (Effective_any hs h e.f0 e.f1) ?_))
   simp only [Rune_any hs h,Option.bind_some,if_true]
   refine Ev.bind hE ?_
   cases hed : editN L e.f0 e.f1
   ·simp only [Bool.false_eq_true,if_false]
    exact h5 0 3 false
   ·simp only [if_true]
    refine Ev.bind (CountR_ev L (by omega) e.f0 e.f1) (Ev.bind (EffectiveR_ev L (by omega) e.f0 e.f1) ?_)
    exact h5 (cntR L e.f0 e.f1) 0 (cntR L e.f0 e.f1 % 2 == 0)
theorem DA_j2 (hn1 : l1.length <= 900) {i : Nat} (hi : i < l0.length) {L : List SOp} (hL : l0[i] = L) (ht : Tiny L) (hn : L.length <= 900) (htO : Tiny l2) (v : List SElem) (hv : v.length <= 1000000) (c : Int) (hc : c = if mayB L = true then 0 else 1) (s : ByteArray)
  (hnext : Ev (fun k => w6_DocTells.l0 k (wrap64 ((i : Int) + 1)) l0 l1 l2 l3) true) : Ev (fun k => w6_DocTells.j2 k (i : Int) L (mayB L) v c s c c s v l0 l1 l2 l3) true:=by
 have hE:=EqElems_ev v v (by omega)
 rw [Zd rfl] at hE
 obtain ⟨es,h1,h2⟩:=ElemsT_some l0 l1 l2 l3 hn1 L (by omega)
 refine Ev.step (fun k => by simp only [w6_DocTells.j2,num6_f,Option.bind_some,if_true]; rfl) (Ev.bind hE ?_)
 simp only [if_true]
 refine Ev.step (fun k => by simp only [w6_DocTells.j3]; rw [bne_self_eq_false,if_neg (by decide)]) (Ev.bind h1 ?_)
 exact DA_l1 hi hL ht hn htO v hv c hc es h2 hnext _ 0 (Nat.zero_add _)
theorem DA_end (x : Int) : Ev (fun k => w6_DocTells.j1 k x false l0 l1 l2 l3) true :=
 Ev.step (f:=fun _ => some true) (fun k => by simp only [w6_DocTells.j1]; rw [if_neg (by decide),wakes6_f]; rfl) (Ev.now _)
theorem DA_l0 (hg : GoodAsk l0 l1 l2 l3) (hsm : ∀ x ∈ l0,x.length <= 900 /\ Tiny x) (hn1 : l1.length <= 900) (htO : Tiny l2) : ∀ d i,i + d = l0.length -> Ev (fun k => w6_DocTells.l0 k (i : Int) l0 l1 l2 l3) true
 | 0,i,h => by
  refine Ev.step (fun k => ?_) (DA_end (l0:=l0) (l1:=l1) (l2:=l2) (l3:=l3) (i : Int))
  simp only [w6_DocTells.l0]; rw [if_neg (by omega)]
 | d + 1,i,h => by
  have ih:=DA_l0 hg hsm hn1 htO d (i + 1) (by omega)
  have hn0:=hg.n0
  have hlt : i < l0.length:=by omega
  have hw : wrap64 ((i : Int) + 1) = ((i + 1 : Nat) : Int):=Qdc hlt (by omega)
  by_cases h4 : (i : Int) < 4
  ·obtain ⟨hn,ht⟩:=hsm _ (List.getElem_mem hlt)
   have hsL:=ht.smL (by omega)
   have hs:=ht.smalls (by omega)
   have hR:=Row_ev l0[i] hsL
   refine Ev.step (f:=fun k => w6_DocTells.j1 k (i : Int) true l0 l1 l2 l3) (fun k => ?_) ?_
   ·simp only [w6_DocTells.l0]; rw [if_pos (by omega),Zd h4]
   ·refine Ev.step (fun k => by simp only [w6_DocTells.j1]; rw [if_pos True.intro,if_pos (by omega),if_pos (by omega),rd_LOp_nat _ _ hlt]) (Ev.bind (CopyOps_ev l0[i] (by omega) (fun o ho => by have:=(ht o ho).2; omega)) (Ev.bind hR ?_))
    have hj:=fun (v : List SElem) hv (c : Int) hc s => DA_j2 (l0:=l0) (l1:=l1) (l2:=l2) (l3:=l3) hn1 hlt rfl ht hn htO v hv c hc s (by rw [hw]; exact ih)
    cases hm : mayB l0[i]
    ·rw [hm] at hj
     simp only [doc_Visible_no hs hm,doc_Text_no hs hm,Option.bind_some,Bool.false_eq_true,if_false]
     exact hj [] (Nat.zero_le _) 1 rfl (⟨#[]⟩ : ByteArray)
    ·have hr:=(Qci _).1 hm
     rw [hm] at hj
     have h200:=seen_len hr
     simp only [doc_Visible_ok hs hr,doc_Text_ok hs hr,Option.bind_some,if_true]
     refine Ev.bind (Visible_ev hsL hr) (Ev.bind (TextR_ev hsL hr) ?_)
     exact hj (Qbz l0[i]) (by omega) 0 rfl (plainR l0[i])
  ·refine Ev.step (fun k => ?_) (DA_end (l0:=l0) (l1:=l1) (l2:=l2) (l3:=l3) (i : Int))
   simp only [w6_DocTells.l0]; rw [if_pos (by omega),Ze h4]
end
theorem PureDocTells (l0 : List (List SOp)) (l1 : List SElem) (l2 : List SOp) (l3 : List Int) (hg : GoodAsk l0 l1 l2 l3) : ∃ k,w6_DocTells.f k l0 l1 l2 l3 = some true:=by
 obtain ⟨b,hb,hsm⟩:=Heavy_small2 hg
 refine Ev.rounds (Ev.bind (f:=fun k t => if t = true then some true else w6_DocTells.l0 k 0 l0 l1 l2 l3) hb ?_)
 cases b
 ·obtain ⟨k1,k2,_,k4⟩:=hsm rfl
  exact Ev.congr (fun k => if_neg (by decide)) (DA_l0 hg k1 k2 k4 _ 0 (Nat.zero_add _))
 ·exact Ev.congr (fun k => if_pos rfl) (Ev.now true)
end
end Go.Proofs.YtonoaflfobajcaaGreatDoor.L
end
