/- Part 12 of the proof that for every argument the law EditLands answers true: what is written stands at the place that was asked for; what was taken away is gone, the rest is as it was; toggled it is as before, toggled again as behind -/
import Derived.Test.YtlllghajjamdpaaGreatDoorZEL11
import Derived.Lib.RuneCountTail
section
namespace Go.Proofs.YtlllghajjamdpaaGreatDoor.L
open Go.RowKit Go.Proofs.YtlllghajjamdpaaGreatDoorW.PrintWords Go.Proofs.YtlllghajjamdpaaGreatDoorW.PrintLast Go.Proofs.YtlllghajjamdpaaGreatDoorW.PrintMore
set_option linter.unusedVariables false
set_option linter.unusedSimpArgs false
set_option maxHeartbeats 40000000
set_option maxRecDepth 1000000
section
theorem num7_f (a : Int) : w7_num.f a = some a:=rfl
theorem repV_cases (L : List SOp) (s a n : Int) (t : ByteArray) : (∃ o c,c ≠ 0 /\ repV L s a n t = (o,c)) \/ (0 <= a /\ a <= ((Qan L).length : Int) /\ 0 <= n /\ n <= ((Qan L).length : Int) - a /\ repV L s a n t = (repO L s a.toNat n.toNat t,0)):=by
 unfold repV
 by_cases h1 : badB L s t = true
 ·rw [if_pos h1]; exact .inl ⟨_,1,by decide,rfl⟩
 ·rw [if_neg h1]
  by_cases h2 : limB L a n t
  ·rw [if_pos h2]; exact .inl ⟨_,2,by decide,rfl⟩
  ·rw [if_neg h2]
   by_cases h3 : n = 0 /\ t.toList.isEmpty = true
   ·rw [if_pos h3]; exact .inl ⟨_,3,by decide,rfl⟩
   ·rw [if_neg h3]
    by_cases h4 : mayB (L ++ [repO L s a.toNat n.toNat t]) = true
    ·rw [if_pos h4]
     unfold limB at h2
     exact .inr ⟨by omega,by omega,by omega,by omega,rfl⟩
    ·rw [if_neg h4]; exact .inl ⟨_,6,by decide,rfl⟩
theorem rep_f {L : List SOp} (hs : smalls L = true) (s a n : Int) {t : ByteArray} (ht : t.size <= 1000000) {o : SOp} {c : Int} (h : repV L s a n t = (o,c)) : edit_Replace.f L s a n t = some (o.f0,o.f1,o.f2,o.f3.f0,o.f3.f1,o.f3.f2,o.f4,o.f5,o.f6,o.f7,o.f8,c):=by
 unfold edit_Replace.f
 rw [if_pos ⟨hs,ht⟩,h]
theorem repV_ok {L : List SOp} {s a n : Int} {t : ByteArray} {o : SOp} (h : repV L s a n t = (o,0)) : mayB L = true /\ mayB (L ++ [repO L s a.toNat n.toNat t]) = true /\ o = repO L s a.toNat n.toNat t /\ 0 <= a /\ a <= ((Qan L).length : Int) /\ 0 <= n /\ n <= ((Qan L).length : Int) - a:=by
 unfold repV at h
 by_cases h1 : badB L s t = true
 ·rw [if_pos h1] at h; exact absurd (Prod.mk.inj h).2 (by decide)
 ·rw [if_neg h1] at h
  by_cases h2 : limB L a n t
  ·rw [if_pos h2] at h; exact absurd (Prod.mk.inj h).2 (by decide)
  ·rw [if_neg h2] at h
   by_cases h3 : n = 0 /\ t.toList.isEmpty = true
   ·rw [if_pos h3] at h; exact absurd (Prod.mk.inj h).2 (by decide)
   ·rw [if_neg h3] at h
    by_cases h4 : mayB (L ++ [repO L s a.toNat n.toNat t]) = true
    ·rw [if_pos h4] at h
     have hm : mayB L = true:=(Qbh L).2 ((Qbh _).1 h4).snoc_inv.1
     unfold limB at h2
     exact ⟨hm,h4,(Prod.mk.inj h).1.symm,by omega,by omega,by omega,by omega⟩
    ·rw [if_neg h4] at h; exact absurd (Prod.mk.inj h).2 (by decide)
end
section
theorem runeOk_valid {r : Int} (h : Qda r = true) : (0 <= r /\ r <= 55295) \/ (57344 <= r /\ r <= 1114111):=by
 unfold Qda at h
 simp only [Bool.or_eq_true,Bool.and_eq_true,beq_iff_eq,decide_eq_true_eq] at h
 omega
theorem valid_of {r : Int} (h : (0 <= r /\ r <= 55295) \/ (57344 <= r /\ r <= 1114111)) : Utf8.valid r = true:=by
 unfold Utf8.valid
 simp only [Bool.or_eq_true,Bool.and_eq_true,decide_eq_true_eq]
 omega
theorem get_mid (A E B : ByteArray) {k : Nat} (hk : k < E.size) : (A ++ E ++ B).get! (A.size + k) = E.get! k:=by
 show (A ++ E ++ B).data[A.data.size + k]! = E.data[k]!
 have h2 : k < E.data.size:=hk
 rw [ByteArray.data_append,ByteArray.data_append,getElem!_pos (A.data ++ E.data ++ B.data) _ (by simp; omega),getElem!_pos E.data _ h2,Array.getElem_append_left (by simp; omega),Array.getElem_append_right (by omega)]
 congr 1; omega
theorem size_mid (A E B : ByteArray) : (A ++ E ++ B).size = A.size + E.size + B.size:=by
 show (A ++ E ++ B).data.size = A.data.size + E.data.size + B.data.size
 rw [ByteArray.data_append,ByteArray.data_append]; simp [Nat.add_assoc]
theorem b_nat {n : Nat} (h : n < 256) : (UInt8.ofNat n).toNat = n:=by simp [UInt8.toNat_ofNat']; omega
theorem dec_enc (A B : ByteArray) {r : Int} (h : Qda r = true) : Utf8.decode (A ++ Utf8.encode r ++ B) A.size = (r.toNat,(Utf8.encode r).size):=by
 have hv:=runeOk_valid h
 have hval:=valid_of hv
 obtain ⟨c,rfl⟩ : ∃ c : Nat,r = (c : Int):=⟨r.toNat,by omega⟩
 have hE : Utf8.encode (c : Int) = if c < 0x80 then ⟨#[UInt8.ofNat c]⟩ else if c < 0x800 then ⟨#[UInt8.ofNat (0xC0 + c / 64),UInt8.ofNat (0x80 + c % 64)]⟩ else if c < 0x10000 then ⟨#[UInt8.ofNat (0xE0 + c / 4096),UInt8.ofNat (0x80 + c / 64 % 64),UInt8.ofNat (0x80 + c % 64)]⟩ else ⟨#[UInt8.ofNat (0xF0 + c / 262144),UInt8.ofNat (0x80 + c / 4096 % 64),UInt8.ofNat (0x80 + c / 64 % 64),UInt8.ofNat (0x80 + c % 64)]⟩:=by
  unfold Utf8.encode
  simp only [hval,if_true,Int.toNat_natCast]
 by_cases h1 : c < 0x80
 ·rw [if_pos h1] at hE
  rw [hE]
  have g0:=get_mid A ⟨#[UInt8.ofNat c]⟩ B (k:=0) (by show 0 < 1; omega)
  have e0 : ((⟨#[UInt8.ofNat c]⟩ : ByteArray).get! 0).toNat = c:=b_nat (by omega)
  unfold Utf8.decode
  simp only [g0,e0]
  rw [if_pos h1]; rfl
 ·rw [if_neg h1] at hE
  by_cases h2 : c < 0x800
  ·rw [if_pos h2] at hE
   rw [hE]
   generalize hEE : (⟨#[UInt8.ofNat (0xC0 + c / 64),UInt8.ofNat (0x80 + c % 64)]⟩ : ByteArray) = E
   have hz : E.size = 2:=by rw [<- hEE]; rfl
   have hs:=size_mid A E B
   rw [hz] at hs
   have g0:=get_mid A E B (k:=0) (by omega)
   have g1:=get_mid A E B (k:=1) (by omega)
   have e0 : (E.get! 0).toNat = 0xC0 + c / 64:=by rw [<- hEE]; exact b_nat (by omega)
   have e1 : (E.get! 1).toNat = 0x80 + c % 64:=by rw [<- hEE]; exact b_nat (by omega)
   have hc : (0xC0 + c / 64) % 32 * 64 + (0x80 + c % 64) % 64 = c:=by omega
   unfold Utf8.decode
   simp only [g0,e0,g1,e1,hs,hc,hz,Int.toNat_natCast]
   rw [if_neg (by omega),if_pos (by simp only [Bool.and_eq_true,beq_iff_eq,decide_eq_true_eq]; omega),if_pos (by omega)]
  ·rw [if_neg h2] at hE
   by_cases h3 : c < 0x10000
   ·rw [if_pos h3] at hE
    rw [hE]
    generalize hEE : (⟨#[UInt8.ofNat (0xE0 + c / 4096),UInt8.ofNat (0x80 + c / 64 % 64),UInt8.ofNat (0x80 + c % 64)]⟩ : ByteArray) = E
    have hz : E.size = 3:=by rw [<- hEE]; rfl
    have hs:=size_mid A E B
    rw [hz] at hs
    have g0:=get_mid A E B (k:=0) (by omega)
    have g1:=get_mid A E B (k:=1) (by omega)
    have g2:=get_mid A E B (k:=2) (by omega)
    have e0 : (E.get! 0).toNat = 0xE0 + c / 4096:=by rw [<- hEE]; exact b_nat (by omega)
    have e1 : (E.get! 1).toNat = 0x80 + c / 64 % 64:=by rw [<- hEE]; exact b_nat (by omega)
    have e2 : (E.get! 2).toNat = 0x80 + c % 64:=by rw [<- hEE]; exact b_nat (by omega)
    have hc : (0xE0 + c / 4096) % 16 * 4096 + (0x80 + c / 64 % 64) % 64 * 64 + (0x80 + c % 64) % 64 = c:=by omega
    unfold Utf8.decode
    simp only [g0,e0,g1,e1,g2,e2,hs,hc,hz,hval,Int.toNat_natCast]
    rw [if_neg (by omega),if_neg (by simp only [Bool.and_eq_true,beq_iff_eq,decide_eq_true_eq]; omega),if_pos (by simp only [Bool.and_eq_true,beq_iff_eq,decide_eq_true_eq]; omega),if_pos (by simp only [Bool.and_eq_true,decide_eq_true_eq]; exact ⟨by omega,trivial⟩)]
   ·rw [if_neg h3] at hE
    rw [hE]
    generalize hEE : (⟨#[UInt8.ofNat (0xF0 + c / 262144),UInt8.ofNat (0x80 + c / 4096 % 64),UInt8.ofNat (0x80 + c / 64 % 64),UInt8.ofNat (0x80 + c % 64)]⟩ : ByteArray) = E
    have hz : E.size = 4:=by rw [<- hEE]; rfl
    have hs:=size_mid A E B
    rw [hz] at hs
    have g0:=get_mid A E B (k:=0) (by omega)
    have g1:=get_mid A E B (k:=1) (by omega)
    have g2:=get_mid A E B (k:=2) (by omega)
    have g3:=get_mid A E B (k:=3) (by omega)
    have e0 : (E.get! 0).toNat = 0xF0 + c / 262144:=by rw [<- hEE]; exact b_nat (by omega)
    have e1 : (E.get! 1).toNat = 0x80 + c / 4096 % 64:=by rw [<- hEE]; exact b_nat (by omega)
    have e2 : (E.get! 2).toNat = 0x80 + c / 64 % 64:=by rw [<- hEE]; exact b_nat (by omega)
    have e3 : (E.get! 3).toNat = 0x80 + c % 64:=by rw [<- hEE]; exact b_nat (by omega)
    have hc : (0xF0 + c / 262144) % 8 * 262144 + (0x80 + c / 4096 % 64) % 64 * 4096 + (0x80 + c / 64 % 64) % 64 * 64 + (0x80 + c % 64) % 64 = c:=by omega
    unfold Utf8.decode
    simp only [g0,e0,g1,e1,g2,e2,g3,e3,hs,hc,hz,hval,Int.toNat_natCast]
    rw [if_neg (by omega),if_neg (by simp only [Bool.and_eq_true,beq_iff_eq,decide_eq_true_eq]; omega),if_neg (by simp only [Bool.and_eq_true,beq_iff_eq,decide_eq_true_eq]; omega),if_pos (by simp only [Bool.and_eq_true,beq_iff_eq,decide_eq_true_eq]; omega),if_pos (by simp only [Bool.and_eq_true,decide_eq_true_eq]; exact ⟨by omega,trivial⟩)]
theorem enc_pos (r : Int) : 0 < (Utf8.encode r).size:=by
 unfold Utf8.encode
 dsimp only
 generalize (if Utf8.valid r = true then r.toNat else Utf8.runeError) = c
 split
 ·exact Nat.one_pos
 ·split
  ·exact Nat.two_pos
  ·split
   ·show 0 < 3; omega
   ·show 0 < 4; omega
theorem dec_bytes : ∀ (rs : List Int) (A : ByteArray) (f : Nat),(∀ r ∈ rs,Qda r = true) -> (runesBytes rs).size <= f -> Qbp (A ++ runesBytes rs) f A.size = rs
 | [],A,f,_,_ => by
  have hz : ¬ A.size < (A ++ runesBytes []).size:=by
   show ¬ A.data.size < (A ++ runesBytes []).data.size
   rw [ByteArray.data_append]; simp [runesBytes]
  cases f with
  | zero => rfl
  | succ f => unfold Qbp; rw [if_neg hz]
 | r :: rs,A,f,h,hf => by
  have e : runesBytes (r :: rs) = Utf8.encode r ++ runesBytes rs:=by rw [show r :: rs = [r] ++ rs from rfl,Qcz,runesBytes_one]
  have hp:=enc_pos r
  have hz : (runesBytes (r :: rs)).size = (Utf8.encode r).size + (runesBytes rs).size:=by rw [e]; exact ByteArray.size_append
  have hd:=dec_enc A (runesBytes rs) (h r (List.mem_cons_self ..))
  have hr:=runeOk_valid (h r (List.mem_cons_self ..))
  have ih:=dec_bytes rs (A ++ Utf8.encode r) (f - 1) (fun q hq => h q (List.mem_cons_of_mem _ hq)) (by omega)
  obtain ⟨g,rfl⟩ : ∃ g,f = g + 1:=⟨f - 1,by omega⟩
  rw [e,<- ByteArray.append_assoc]
  unfold Qbp
  rw [if_pos (by rw [size_mid]; omega),hd]
  show ((r.toNat : Nat) : Int) :: _ = _
  rw [show ((r.toNat : Nat) : Int) = r by omega]
  rw [ByteArray.size_append,Nat.add_sub_cancel] at ih
  rw [ih]
theorem runesOf_bytes {rs : List Int} (h : ∀ r ∈ rs,Qda r = true) : Qat (runesBytes rs) = rs:=by
 have:=dec_bytes rs ⟨#[]⟩ (runesBytes rs).size h (Nat.le_refl _)
 rw [show (⟨#[]⟩ : ByteArray) = ByteArray.empty from rfl,ByteArray.empty_append] at this
 exact this
theorem opOk_texts {o : SOp} (h : opOk o = true) : Qcd o.f4 = true:=by
 rcases opOk_kind h with ⟨_,h⟩ | ⟨_,h⟩
 ·unfold editOk at h; simp only [Bool.and_eq_true] at h
  exact h.1.1.1.1.1.2
 ·unfold Qca at h; simp only [Bool.and_eq_true] at h
  have e:=List.isEmpty_iff.1 h.1.2
  have e2 : o.f4.size = 0:=by rw [<- data_length,<- ByteArray.toList_eq,e]; rfl
  unfold Qcd Qat
  rw [e2]; rfl
theorem at_rune {L : List SOp} (h : RowOk L) {e : SElem} (he : e ∈ ordL L) : Qda (atR L e) = true:=by
 obtain ⟨p,hp,e0,e1,h2,h3⟩:=(Qcp h e).1 he
 obtain ⟨i,hi,ef,ei⟩:=Qdc h hp
 rw [e0,e1] at ef
 unfold atR
 rw [ef,Qas _ _ hi,ei]
 have ht:=opOk_texts (h.oks p hp)
 have hlt : e.f2.toNat < (Qat p.f4).length:=by unfold Qal at h3; omega
 rw [List.getD_eq_getElem?_getD,List.getElem?_eq_getElem hlt]
 exact List.all_eq_true.1 ht _ (List.getElem_mem hlt)
theorem seen_runes {L : List SOp} (h : RowOk L) : ∀ r ∈ (Qan L).map (atR L),Qda r = true:=by
 intro r hr
 obtain ⟨e,he,rfl⟩:=List.mem_map.1 hr
 exact at_rune h (seen_mem.1 he).1
theorem runes_plain {L : List SOp} (h : RowOk L) : Qat (Qbk L) = (Qan L).map (atR L):=runesOf_bytes (seen_runes h)
theorem text_plain {L : List SOp} (h : RowOk L) : Qcd (Qbk L) = true:=by
 unfold Qcd
 rw [runes_plain h]
 exact List.all_eq_true.2 (seen_runes h)
theorem enc_le (r : Int) : (Utf8.encode r).size <= 4:=by
 unfold Utf8.encode
 dsimp only
 generalize (if Utf8.valid r = true then r.toNat else Utf8.runeError) = c
 split
 ·show 1 <= 4; omega
 ·split
  ·show 2 <= 4; omega
  ·split
   ·show 3 <= 4; omega
   ·show 4 <= 4; omega
theorem bytes_le : ∀ rs : List Int,(runesBytes rs).size <= 4 * rs.length
 | [] => Nat.zero_le _
 | r :: rs => by
  have e : runesBytes (r :: rs) = Utf8.encode r ++ runesBytes rs:=by rw [show r :: rs = [r] ++ rs from rfl,Qcz,runesBytes_one]
  have ih:=bytes_le rs
  have h4:=enc_le r
  rw [e,ByteArray.size_append,List.length_cons]; omega
theorem plain_size {L : List SOp} (h : RowOk L) : (Qbk L).size <= 800:=by
 have h1:=bytes_le ((Qan L).map (atR L))
 have h2 : (Qan L).length <= 200:=Nat.le_trans (List.length_filter_le _ _) (by rw [(Qcu h).2]; exact h.sums.2)
 rw [List.length_map] at h1
 unfold Qbk; omega
end
section
theorem ord_cut {L : List SOp} {o : SOp} (h : RowOk L) (hn : NextOk L o) : ∃ A B,ordL L = A ++ B /\ ordL (L ++ [o]) = A ++ Qaq o ++ B /\ (A = [] \/ ∃ A',A = A' ++ [o.f3]):=by
 rcases insO_form h hn (Qcu h).1 with ⟨_,e⟩ | ⟨_,A,B,e1,_,_,e⟩
 ·exact ⟨[],ordL L,rfl,by rw [e]; rfl, .inl rfl⟩
 ·exact ⟨A ++ [o.f3],B,by rw [e1]; simp,by rw [e]; simp, .inr ⟨A,rfl⟩⟩
end
section
theorem und_cnt {L : List SOp} {o x : SOp} (h : RowOk L) (hn : NextOk L o) (h1 : o.f2 = 1) (x2 : x.f2 = 2) (x6 : x.f6 = o.f0) (x7 : x.f7 = o.f1) (x8 : x.f8 = 0) : cntR (L ++ [o] ++ [x]) o.f0 o.f1 = 1 /\ ∀ p ∈ L,cntR (L ++ [o] ++ [x]) p.f0 p.f1 = cntR L p.f0 p.f1:=by
 have h0 : cntR (L ++ [o]) o.f0 o.f1 = 0:=by rw [cnt_other (by omega),cnt_fresh h (hn.fresh h)]
 constructor
 ·rw [cntR_app,h0]
  unfold cntStep
  rw [if_pos ⟨x2,x6,x7,x8⟩]; rfl
 ·intro p hp
  rw [cntR_app,cnt_other (by omega)]
  unfold cntStep
  rw [if_neg]
  rintro ⟨_,e6,e7,_⟩
  exact hn.fresh h p hp ⟨by rw [<- e6,x6],by rw [<- e7,x7]⟩
theorem und_seen {L : List SOp} {o x : SOp} (h : RowOk L) (hn : NextOk L o) (h1 : o.f2 = 1) (hx : NextOk (L ++ [o]) x) (x2 : x.f2 = 2) (x6 : x.f6 = o.f0) (x7 : x.f7 = o.f1) (x8 : x.f8 = 0) : Qan (L ++ [o] ++ [x]) = Qan L:=by
 obtain ⟨c1,c2⟩:=und_cnt h hn h1 x2 x6 x7 x8
 have hw : ∀ p ∈ L,Qcb (L ++ [o] ++ [x]) p = Qcb L p:=fun p hp => workE_cnt (c2 p hp)
 have hwo : Qcb (L ++ [o] ++ [x]) o = false:=by unfold Qcb; rw [c1,h1]; rfl
 have hwx : Qcb (L ++ [o] ++ [x]) x = false:=workE_tog _ x2
 have hgo : ∀ e,goneE (L ++ [o] ++ [x]) e = goneE L e:=by
  intro e
  unfold goneE
  rw [List.any_append,List.any_append,any_same L _ (fun p => Qcb L p && decide (e ∈ p.f5)) (fun p hp => by rw [hw p hp]),List.any_cons,List.any_nil,List.any_cons,List.any_nil,hwo,hwx]
  simp
 have hth : ∀ e,Qcw (L ++ [o] ++ [x]) e = Qcw L e:=by
  intro e
  unfold Qcw
  rw [List.any_append,List.any_append,any_same L _ (fun p => Qcb L p && decide (e ∈ Qaq p)) (fun p hp => by rw [hw p hp]),List.any_cons,List.any_nil,List.any_cons,List.any_nil,hwo,hwx]
  simp
 obtain ⟨A,B,e1,e2,_⟩:=ord_cut h hn
 have hf : (fun e => !(goneE (L ++ [o] ++ [x]) e || !Qcw (L ++ [o] ++ [x]) e)) = fun e => !(goneE L e || !Qcw L e):=by funext e; rw [hgo,hth]
 have hc : (Qaq o).filter (fun e => !(goneE L e || !Qcw L e)) = []:=by
  rw [List.filter_eq_nil_iff]
  intro e he
  have : Qcw L e = false:=by
   unfold Qcw
   rw [List.any_eq_false]
   intro p hp
   have hne : e ∉ Qaq p:=by
    intro hc
    have k1:=(mem_chain o e).1 he
    have k2:=(mem_chain p e).1 hc
    exact hn.fresh h p hp ⟨by omega,by omega⟩
   rw [Ze hne,Bool.and_false]; decide
  rw [this]
  cases goneE L e <;> decide
 show (ordL (L ++ [o] ++ [x])).filter (fun e => !(goneE (L ++ [o] ++ [x]) e || !Qcw (L ++ [o] ++ [x]) e)) = (ordL L).filter fun e => !(goneE L e || !Qcw L e)
 rw [hf,tog_ord hx x2,e2,e1,List.filter_append,List.filter_append,List.filter_append,hc,List.append_nil]
theorem und_text {L : List SOp} {o x : SOp} (h : RowOk L) (hn : NextOk L o) (h1 : o.f2 = 1) (hx : NextOk (L ++ [o]) x) (x2 : x.f2 = 2) (x6 : x.f6 = o.f0) (x7 : x.f7 = o.f1) (x8 : x.f8 = 0) : Qbk (L ++ [o] ++ [x]) = Qbk L:=by
 unfold Qbk
 rw [und_seen h hn h1 hx x2 x6 x7 x8]
 congr 1
 refine List.map_congr_left fun e he => ?_
 have ho:=(seen_mem.1 he).1
 rw [tog_at (.snoc h hn) hx ((ord_snoc h hn e).2 (.inl ho)),tog_at h hn ho]
theorem redo_text {L : List SOp} {o x y : SOp} (h : RowOk L) (hn : NextOk L o) (h1 : o.f2 = 1) (hx : NextOk (L ++ [o]) x) (x2 : x.f2 = 2) (x6 : x.f6 = o.f0) (x7 : x.f7 = o.f1) (x8 : x.f8 = 0)
  (hy : NextOk (L ++ [o] ++ [x]) y) (y2 : y.f2 = 2) (y6 : y.f6 = o.f0) (y7 : y.f7 = o.f1) (y8 : y.f8 = 1) : Qbk (L ++ [o] ++ [x] ++ [y]) = Qbk (L ++ [o]):=by
 obtain ⟨c1,c2⟩:=und_cnt h hn h1 x2 x6 x7 x8
 have hro:=RowOk.snoc h hn
 have hrx:=RowOk.snoc hro hx
 have e : L ++ [o] ++ [x] ++ [y] = (L ++ [o]) ++ [x,y]:=by simp
 have hcn : ∀ p ∈ L ++ [o],Qcb ((L ++ [o]) ++ [x,y]) p = Qcb (L ++ [o]) p:=by
  intro p hp
  rw [<- e]
  rcases List.mem_append.1 hp with hp | hp
  ·refine workE_cnt ?_
   rw [cntR_app,c2 p hp,cnt_other (by omega)]
   unfold cntStep
   rw [if_neg]
   rintro ⟨_,e6,e7,_⟩
   exact hn.fresh h p hp ⟨by rw [<- e6,y6],by rw [<- e7,y7]⟩
  ·rw [List.mem_singleton] at hp
   subst hp
   have k0 : cntR (L ++ [p]) p.f0 p.f1 = 0:=by rw [cnt_other (by omega),cnt_fresh h (hn.fresh h)]
   have k2 : cntR (L ++ [p] ++ [x] ++ [y]) p.f0 p.f1 = 2:=by
    rw [cntR_app,c1]
    unfold cntStep
    rw [if_pos ⟨y2,y6,y7,y8⟩]; rfl
   unfold Qcb
   rw [k0,k2]; rfl
 have hod : ordL ((L ++ [o]) ++ [x,y]) = ordL (L ++ [o]):=by rw [<- e,tog_ord hy y2,tog_ord hx x2]
 rw [e]
 refine tog_plain hod (fun t ht => ?_) hcn (fun q hq => ?_)
 ·rcases List.mem_cons.1 ht with rfl | ht
  ·exact x2
  ·rw [List.mem_singleton] at ht; subst ht; exact y2
 ·rw [<- e,tog_at hrx hy (by rw [tog_ord hx x2]; exact hq),tog_at hro hx hq]
end
section
theorem sort_mem (l : List SElem) (e : SElem) : e ∈ sortL l ↔ e ∈ l:=(List.mergeSort_perm l _).mem_iff
end
section
theorem seen_good {L : List SOp} (h : RowOk L) {e : SElem} (he : e ∈ Qan L) : Qap e = false /\ Qch e = true /\ wr L e /\ e.f1 <= (Qbl L e.f0 : Int):=by
 obtain ⟨p,hp,e0,e1,e2,e3⟩:=(Qcp h e).1 (seen_mem.1 he).1
 have hk:=opOk_pos (h.oks p hp)
 have hz:=(Qcn (h.oks p hp)).1
 have hq:=mem_seq h p hp
 have hb : Qap e = false:=by
  have : (e.f0 == 0) = false:=by rw [beq_eq_false_iff_ne]; omega
  unfold Qap; rw [this]; rfl
 refine ⟨hb, ?_, .inr ⟨e2,p,hp,e0,e1,e3⟩,by rw [<- e0,<- e1]; exact hq⟩
 unfold Qch nameOk
 rw [hb]
 simp only [Bool.false_or,Bool.and_eq_true,decide_eq_true_eq]
 exact ⟨⟨⟨⟨⟨by omega,by omega⟩,by omega⟩,by omega⟩,by omega⟩,by omega⟩
theorem repA_cases {L : List SOp} (a : Nat) (ha : a <= (Qan L).length) (t : ByteArray) : (repA L a t = ⟨0,0,0⟩ /\ (a = 0 \/ t.toList.isEmpty = true)) \/ ∃ h0 : a - 1 < (Qan L).length,0 < a /\ t.toList.isEmpty = false /\ repA L a t = (Qan L)[a - 1]:=by
 unfold repA
 by_cases h : 0 < a /\ t.toList.isEmpty = false
 ·rw [if_pos h]
  exact .inr ⟨by omega,h.1,h.2,Qaw _ _ (by omega)⟩
 ·rw [if_neg h]
  refine .inl ⟨rfl, ?_⟩
  cases ht : t.toList.isEmpty
  ·rcases Nat.eq_zero_or_pos a with h0 | h0
   ·exact .inl h0
   ·exact absurd ⟨h0,ht⟩ h
  ·exact .inr rfl
theorem rep_seen {L : List SOp} {s : Int} {a n : Nat} {t : ByteArray} (h : RowOk L) (hn : NextOk L (repO L s a n t)) (ha : a + n <= (Qan L).length) : Qan (L ++ [repO L s a n t]) = (Qan L).take a ++ Qaq (repO L s a n t) ++ (Qan L).drop (a + n):=by
 refine ins_at h hn rfl (by omega) (fun e => sort_mem _ e) ?_
 rcases repA_cases (L:=L) a (by omega) t with ⟨e,h0⟩ | ⟨h0,h1,h2,e⟩
 ·refine .inl ⟨by show Qap (repA L a t) = true; rw [e]; rfl,h0.imp id (fun h1 => ?_)⟩
  refine List.eq_nil_of_length_eq_zero ?_
  rw [Qcj]
  exact (runesOf_nil t).2 h1
 ·refine .inr ⟨?_,h0,h1,e⟩
  show Qap (repA L a t) = false
  rw [e]
  exact (seen_good h (List.getElem_mem h0)).1
theorem rep_text {L : List SOp} {s : Int} {a n : Nat} {t : ByteArray} (h : RowOk L) (hn : NextOk L (repO L s a n t)) (ha : a + n <= (Qan L).length) : Qbk (L ++ [repO L s a n t]) = runesBytes (((Qan L).map (atR L)).take a) ++ runesBytes (Qat t) ++ runesBytes (((Qan L).map (atR L)).drop (a + n)):=ins_text h hn (rep_seen h hn ha)
end
section
theorem rep_gone {L : List SOp} (h : RowOk L) {s : Int} {a n : Nat} {t : ByteArray} (ha : a + n <= (Qan L).length) : (repO L s a n t).f5.Nodup /\ (repO L s a n t).f5.length = n /\ ∀ e ∈ (repO L s a n t).f5,e ∈ Qan L:=by
 have hnd : (((Qan L).drop a).take n).Nodup:=((seen_nodup h).sublist (List.drop_sublist _ _)).sublist (List.take_sublist _ _)
 refine ⟨(List.mergeSort_perm _ _).nodup_iff.2 hnd, ?_,fun e he => List.mem_of_mem_drop (List.mem_of_mem_take ((sort_mem _ e).1 he))⟩
 show (sortL _).length = n
 rw [sort_len,List.length_take,List.length_drop]; omega
structure Race (len n : Nat) (s : List SElem) (a b : SOp) : Prop where
 len : s.length + n = len + Qal a + Qal b
 nodup : s.Nodup
 fst : ∃ X Y,s = X ++ Qaq a ++ Y
 snd : ∃ X Y,s = X ++ Qaq b ++ Y
end
section
theorem CopyElems_loop (l : List SElem) (hl : l.length <= 1000000000000) : ∀ d i,i + d = l.length -> Ev (fun k => r0_CopyElems.l0 k l (l.take i) (i : Int)) l
 | 0,i,h => by
  rw [List.take_of_length_le (by omega)]
  refine Ev.step (f:=fun _ => some l) (fun k => ?_) (Ev.now _)
  simp only [r0_CopyElems.l0]
  rw [if_neg (by omega)]
 | d + 1,i,h => by
  have hlt : i < l.length:=by omega
  have ih:=CopyElems_loop l hl d (i + 1) (by omega)
  rw [List.take_succ_eq_append_getElem hlt] at ih
  refine Ev.step (fun k => ?_) ih
  simp only [r0_CopyElems.l0]
  rw [if_pos (by omega),if_pos (by omega),Qaw _ _ hlt,if_pos (by rw [List.length_take]; omega),wrapS hlt (by omega)]
theorem CopyElems_ev (l : List SElem) (hl : l.length <= 1000000000000) : Ev (fun k => r0_CopyElems.f k l) l:=CopyElems_loop l hl l.length 0 (Nat.zero_add _)
theorem CopyOp_ev (o : SOp) (hl : o.f5.length <= 1000000000000) : Ev (fun k => r0_CopyOp.f k o.f0 o.f1 o.f2 o.f3.f0 o.f3.f1 o.f3.f2 o.f4 o.f5 o.f6 o.f7 o.f8) (o.f0,o.f1,o.f2,o.f3.f0,o.f3.f1,o.f3.f2,o.f4,o.f5,o.f6,o.f7,o.f8) :=
 Ev.bind (f:=fun _ t => some (o.f0,o.f1,o.f2,o.f3.f0,o.f3.f1,o.f3.f2,o.f4,t,o.f6,o.f7,o.f8)) (CopyElems_ev o.f5 hl) (Ev.now _)
theorem CopyOps_loop (l : List SOp) (hl : l.length <= 1000000) (hs : ∀ o ∈ l,o.f5.length <= 1000000000000) : ∀ d i,i + d = l.length -> Ev (fun k => r0_CopyOps.l0 k l (l.take i) (i : Int)) l
 | 0,i,h => by
  rw [List.take_of_length_le (by omega)]
  refine Ev.step (f:=fun _ => some l) (fun k => ?_) (Ev.now _)
  simp only [r0_CopyOps.l0]
  rw [if_neg (by omega)]
 | d + 1,i,h => by
  have hlt : i < l.length:=by omega
  have ih:=CopyOps_loop l hl hs d (i + 1) (by omega)
  rw [List.take_succ_eq_append_getElem hlt] at ih
  have hlen : (l.take i).length < 1256584717458:=by rw [List.length_take]; omega
  refine Ev.step (fun k => by simp only [r0_CopyOps.l0]; rw [if_pos (by omega),if_pos (by omega),Qas _ _ hlt,wrapS hlt (by omega)]) (Ev.bind (CopyOp_ev l[i] (hs _ (List.getElem_mem hlt))) ?_)
  simp only [if_pos hlen]
  exact ih
theorem CopyOps_ev (l : List SOp) (hl : l.length <= 1000000) (hs : ∀ o ∈ l,o.f5.length <= 1000000000000) : Ev (fun k => r0_CopyOps.f k l) l:=CopyOps_loop l hl hs l.length 0 (Nat.zero_add _)
end
section
def tiny (o : SOp) : Prop:=o.f4.size <= 4000 /\ o.f5.length <= 1000
def Tiny (l : List SOp) : Prop:=∀ o ∈ l,tiny o
theorem OpsWeight_small (l : List SOp) (hl : l.length <= 140737488351232) (hs : ∀ o ∈ l,o.f4.size <= 140737488351232 /\ o.f5.length <= 140737488351232) : ∀ d i (t : Int),i + d = l.length -> 0 <= t -> t <= 200000000000000 ->
  ∃ r,Ev (fun k => w0_OpsWeight.l0 k l t (i : Int)) r /\ t <= r /\ r <= 400000000000000 /\ (r <= 900 -> ∀ j (hj : j < l.length),i <= j -> tiny l[j])
 | 0,i,t,h,h0,h1 => ⟨t,Ev.step (f:=fun _ => some t) (fun k => by simp only [w0_OpsWeight.l0]; rw [if_neg (by omega)]) (Ev.now _),Int.le_refl _,by omega,fun _ j hj hij => by omega⟩
 | d + 1,i,t,h,h0,h1 => by
  by_cases ht : t < 1048576
  ·have hlt : i < l.length:=by omega
   have hb:=hs _ (List.getElem_mem hlt)
   have hw : wrap64 (t + (wrap64 ((wrap64 (2 + (wrap64 ((l[i].f4.size : Int) / 4)))) + (l[i].f5.length : Int)))) = t + (2 + (l[i].f4.size : Int) / 4 + (l[i].f5.length : Int)):=by
    rw [Qak (i:=(l[i].f4.size : Int) / 4) (by omega) (by omega),Qak (i:=2 + (l[i].f4.size : Int) / 4) (by omega) (by omega),Qak (i:=2 + (l[i].f4.size : Int) / 4 + (l[i].f5.length : Int)) (by omega) (by omega),Qak (by omega) (by omega)]
   obtain ⟨r,hr,r1,r2,r3⟩:=OpsWeight_small l hl hs d (i + 1) (t + (2 + (l[i].f4.size : Int) / 4 + (l[i].f5.length : Int))) (by omega) (by omega) (by omega)
   rw [<- hw] at hr
   refine ⟨r,Ev.step (fun k => ?_) hr,by omega,r2,fun h9 j hj hij => ?_⟩
   ·simp only [w0_OpsWeight.l0]
    rw [if_pos (by omega),if_pos ht,if_pos (by omega),wrapS hlt (by omega),Qas _ _ hlt]
    rfl
   ·rcases Nat.lt_or_ge i j with hj2 | hj2
    ·exact r3 h9 j hj hj2
    ·obtain rfl : j = i:=by omega
     exact ⟨by omega,by omega⟩
  ·exact ⟨t,Ev.step (f:=fun _ => some t) (fun k => by simp only [w0_OpsWeight.l0]; rw [if_pos (by omega),if_neg ht]) (Ev.now _),Int.le_refl _,by omega,fun h9 => by omega⟩
theorem rd_LOp_nat (l : List (List SOp)) (i : Nat) (h : i < l.length) : Qbo l (i : Int) = l[i]:=by unfold Qbo; simp [h]
theorem Heavy_lp {l0 : List (List SOp)} {l1 : List SElem} {l2 : List SOp} {l3 : List Int} (hg : GoodAsk l0 l1 l2 l3) : ∀ d i (t : Int),i + d = l0.length -> 0 <= t -> t <= 900000000000000 ->
  ∃ b,Ev (fun k => w5_Heavy.l0 k t (i : Int) l0 l1 l2 l3) b /\ (b = false -> t <= 900 /\ ∀ j (hj : j < l0.length),i <= j -> l0[j].length <= 900 /\ Tiny l0[j])
 | 0,i,t,h,h0,h1 => ⟨_,Ev.step (f:=fun _ => some (decide (t > 900))) (fun k => by simp only [w5_Heavy.l0]; rw [if_neg (by omega)]) (Ev.now _),fun hb => ⟨by have:=of_decide_eq_false hb; omega,fun j hj hij => by omega⟩⟩
 | d + 1,i,t,h,h0,h1 => by
  by_cases ht : t < 1048576
  ·have hlt : i < l0.length:=by omega
   have hn:=hg.n0
   have hm:=hg.r0 _ (List.getElem_mem hlt)
   obtain ⟨q,hq,q1,q2,q3⟩:=OpsWeight_small l0[i] hm.1 hm.2 _ 0 (l0[i].length : Int) (Nat.zero_add _) (by omega) (by omega)
   obtain ⟨b,hr,r1⟩:=Heavy_lp hg d (i + 1) (t + q) (by omega) (by omega) (by omega)
   have hw : wrap64 (t + q) = t + q:=Qak (by omega) (by omega)
   refine ⟨b,Ev.step (fun k => ?_) (Ev.bind (f:=fun k q => w5_Heavy.l0 k (wrap64 (t + q)) ((i + 1 : Nat) : Int) l0 l1 l2 l3) hq (by rw [hw]; exact hr)),fun hb => ?_⟩
   ·simp only [w5_Heavy.l0]
    rw [if_pos (by omega),if_pos ht,if_pos (by omega),wrapS hlt (by omega),rd_LOp_nat _ _ hlt]
    rfl
   ·obtain ⟨k1,k2⟩:=r1 hb
    refine ⟨by omega,fun j hj hij => ?_⟩
    rcases Nat.lt_or_ge i j with hj2 | hj2
    ·exact k2 j hj hj2
    ·obtain rfl : j = i:=by omega
     refine ⟨by omega,fun o ho => ?_⟩
     obtain ⟨z,hz,rfl⟩:=List.getElem_of_mem ho
     exact q3 (by omega) z hz (Nat.zero_le _)
  ·exact ⟨_,Ev.step (f:=fun _ => some (decide (t > 900))) (fun k => by simp only [w5_Heavy.l0]; rw [if_pos (by omega),if_neg ht]) (Ev.now _),fun hb => by have:=of_decide_eq_false hb; omega⟩
theorem Heavy_small2 {l0 : List (List SOp)} {l1 : List SElem} {l2 : List SOp} {l3 : List Int} (hg : GoodAsk l0 l1 l2 l3) : ∃ b,Ev (fun k => w5_Heavy.f k l0 l1 l2 l3) b /\ (b = false -> (∀ x ∈ l0,x.length <= 900 /\ Tiny x) /\ l1.length <= 900 /\ l3.length <= 900 /\ Tiny l2):=by
 have n1:=hg.n1
 have n2:=hg.n2
 have n3:=hg.n3
 obtain ⟨q,hq,q1,q2,q3⟩:=OpsWeight_small l2 hg.n2 hg.r2 _ 0 (l2.length : Int) (Nat.zero_add _) (by omega) (by omega)
 have hw : wrap64 ((wrap64 ((l1.length : Int) + (l3.length : Int))) + q) = (l1.length : Int) + (l3.length : Int) + q:=by
  rw [Qak (i:=(l1.length : Int) + (l3.length : Int)) (by omega) (by omega),Qak (by omega) (by omega)]
 obtain ⟨b,hb,hr⟩:=Heavy_lp hg _ 0 ((l1.length : Int) + (l3.length : Int) + q) (Nat.zero_add _) (by omega) (by omega)
 refine ⟨b,Ev.bind (f:=fun k q => w5_Heavy.l0 k (wrap64 ((wrap64 ((l1.length : Int) + (l3.length : Int))) + q)) 0 l0 l1 l2 l3) hq (by rw [hw]; exact hb),fun h => ?_⟩
 obtain ⟨h1,h2⟩:=hr h
 refine ⟨fun x hx => ?_,by omega,by omega,fun o ho => by obtain ⟨z,hz,rfl⟩:=List.getElem_of_mem ho; exact q3 (by omega) z hz (Nat.zero_le _)⟩
 obtain ⟨j,hj,rfl⟩:=List.getElem_of_mem hx
 exact h2 j hj (Nat.zero_le _)
end
section
theorem ref1_Rune_f (r : Int) : r1_Rune.f r = some (Qda r):=by
 unfold r1_Rune.f Qda
 by_cases h10 : r = 10
 ·simp [h10]
 ·have e10 : (r == 10) = false:=by simp [h10]
  rw [if_neg h10,e10,Bool.false_or]
  by_cases h1 : 32 <= r <;> by_cases h2 : r <= 1114111 <;> by_cases h3 : r = 127 <;> by_cases h4 : r = 65533 <;> by_cases h5 : r <= 55295 <;> by_cases h6 : 57344 <= r <;> (first | (exfalso; omega) | simp [h1,h2,h3,h4,h5,h6])
theorem decodeN_le (n b0 b1 b2 b3 : Nat) (h : 1 <= n) : (Lib.decodeN n b0 b1 b2 b3).2 <= n:=by
 unfold Lib.decodeN
 repeat' split
 all_goals (simp_all <;> omega)
theorem decode_le (s : ByteArray) (i : Nat) (h : i < s.size) : 1 <= (Utf8.decode s i).2 /\ i + (Utf8.decode s i).2 <= s.size:=by
 refine ⟨Lib.decode_width_pos s i h, ?_⟩
 rw [Lib.decode_at]
 have:=decodeN_le (s.size - i) (s.get! i).toNat (s.get! (i + 1)).toNat (s.get! (i + 2)).toNat (s.get! (i + 3)).toNat (by omega)
 omega
theorem decFrom_more (s : ByteArray) : ∀ d pos f,s.size <= pos + d -> d <= f -> Qbp s f pos = Qbp s d pos
 | 0,pos,f,h,_ => by cases f <;> simp [Qbp,Nat.not_lt.2 (show s.size <= pos by omega)]
 | d + 1,pos,0,h,hf => by omega
 | d + 1,pos,f + 1,h,hf => by
  unfold Qbp
  by_cases hp : pos < s.size
  ·rw [if_pos hp,if_pos hp,decFrom_more s d _ f (by have:=(decode_le s pos hp).1; omega) (by omega)]
  ·rw [if_neg hp,if_neg hp]
theorem decFrom_step (s : ByteArray) (pos : Nat) (h : pos < s.size) : Qbp s s.size pos = ((Utf8.decode s pos).1 : Int) :: Qbp s s.size (pos + (Utf8.decode s pos).2):=by
 have hw:=decode_le s pos h
 rw [decFrom_more s (s.size - pos) pos s.size (by omega) (by omega),show s.size - pos = (s.size - pos - 1) + 1 by omega]
 conv => lhs; unfold Qbp
 rw [if_pos h,<- decFrom_more s (s.size - pos - 1) (pos + (Utf8.decode s pos).2) s.size (by omega) (by omega)]
theorem decFrom_end (s : ByteArray) (pos : Nat) (h : s.size <= pos) : Qbp s s.size pos = []:=by
 rw [decFrom_more s 0 pos s.size (by omega) (by omega)]; rfl
theorem decFrom_len (s : ByteArray) : ∀ f pos,(Qbp s f pos).length <= f
 | 0,_ => Nat.le_refl _
 | f + 1,pos => by
  unfold Qbp
  split
  ·simp only [List.length_cons]; have:=decFrom_len s f (pos + (Utf8.decode s pos).2); omega
  ·simp
theorem decodeGo_at (s : ByteArray) (pos : Nat) (h : pos < s.size) : Lib.decodeGo (s.extract pos s.size) = Utf8.decode s pos:=by
 unfold Lib.decodeGo
 rw [if_neg (by rw [ByteArray.size_extract]; omega),Lib.tail_decode,Nat.add_zero]
def runesR (s : ByteArray) (acc : List Int) (pos : Nat) : List Int × Bool:=if (Qbp s s.size pos).all Qda = true then (acc ++ Qbp s s.size pos,true) else ([],false)
theorem Runes_loop (s : ByteArray) (hs : s.size <= 35184372088000) : ∀ d pos (acc : List Int),s.size <= pos + d -> pos <= s.size -> acc.length <= pos -> Ev (fun k => r1_Runes.l0 k s acc (pos : Int)) (runesR s acc pos)
 | 0,pos,acc,h,hp,_ => by
  unfold runesR
  rw [decFrom_end s pos (by omega),List.all_nil,if_pos rfl,List.append_nil]
  exact Ev.step (f:=fun _ => some (acc,true)) (fun k => by simp only [r1_Runes.l0]; rw [if_neg (by omega)]) (Ev.now _)
 | d + 1,pos,acc,h,hp,ha => by
  by_cases hlt : pos < s.size
  ·have hw:=decode_le s pos hlt
   have ih:=Runes_loop s hs d (pos + (Utf8.decode s pos).2) (acc ++ [((Utf8.decode s pos).1 : Int)]) (by omega) hw.2 (by simp; omega)
   have hf : utf8_DecodeRuneInString.f (s.extract (pos : Int).toNat s.size) = some (((Utf8.decode s pos).1 : Int),((Utf8.decode s pos).2 : Int)):=by
    unfold utf8_DecodeRuneInString.f
    rw [Int.toNat_natCast,decodeGo_at s pos hlt]
   unfold runesR at ih ⊢
   rw [decFrom_step s pos hlt,List.all_cons]
   cases hr : Qda ((Utf8.decode s pos).1 : Int)
   ·simp only [Bool.false_and,Bool.false_eq_true,if_false]
    refine Ev.step (f:=fun _ => some ([],false)) (fun k => ?_) (Ev.now _)
    simp only [r1_Runes.l0]
    rw [if_pos (by omega),if_pos (by omega),if_pos (by omega),hf,Option.bind_some,ref1_Rune_f,Option.bind_some,hr]
    rfl
   ·simp only [Bool.true_and]
    rw [List.append_assoc,List.singleton_append] at ih
    refine Ev.step (fun k => ?_) ih
    simp only [r1_Runes.l0]
    rw [if_pos (by omega),if_pos (by omega),if_pos (by omega),hf,Option.bind_some,ref1_Rune_f,Option.bind_some,hr,if_pos rfl,if_pos (by omega),Qak (by omega) (by omega)]
    simp only [Int.natCast_add]
  ·have hpe : pos = s.size:=by omega
   unfold runesR
   rw [decFrom_end s pos (by omega),List.all_nil,if_pos rfl,List.append_nil]
   exact Ev.step (f:=fun _ => some (acc,true)) (fun k => by simp only [r1_Runes.l0]; rw [if_neg (by omega)]) (Ev.now _)
theorem Runes_ev (s : ByteArray) (hs : s.size <= 35184372088000) : Ev (fun k => r1_Runes.f k s) (if Qcd s = true then (Qat s,true) else ([],false)) :=
 Runes_loop s hs s.size 0 [] (by omega) (Nat.zero_le _) (Nat.le_refl _)
theorem ref4_Begin_f (e : SElem) : r4_Begin.f e.f0 e.f1 e.f2 = some (Qap e):=rfl
theorem ref0_Between_f (a b c : Int) : r0_Between.f a b c = some (decide (b <= a) && decide (a <= c)):=by
 unfold r0_Between.f
 by_cases h : b <= a <;> simp [h]
theorem ref4_name_f (a b : Int) : r4_name.f a b = some (nameOk a b):=by
 unfold r4_name.f nameOk
 rw [ref0_Between_f,ref0_Between_f]
 simp only [Option.bind_some]
 cases decide (1 <= a) <;> cases decide (a <= 8) <;> simp
theorem ref0_Num_f (a b : Int) : r0_Num.f a b = some (decide (0 <= a) && decide (a <= b)):=by
 unfold r0_Num.f
 by_cases h : 0 <= a <;> simp [h]
theorem ref4_Elem_f (e : SElem) : r4_Elem.f e.f0 e.f1 e.f2 = some (Qch e):=by
 unfold r4_Elem.f Qch
 rw [ref4_Begin_f,ref4_name_f,ref0_Num_f]
 simp only [Option.bind_some]
 have : decide (e.f2 <= 11) = decide (e.f2 < 12):=decide_eq_decide.2 (by omega)
 rw [this]
 cases Qap e <;> cases nameOk e.f0 e.f1 <;> simp
theorem ref4_Less_f (a b : SElem) : r4_Less.f a.f0 a.f1 a.f2 b.f0 b.f1 b.f2 = some (elLess a b):=by
 unfold r4_Less.f elLess
 by_cases h0 : a.f0 = b.f0
 ·by_cases h1 : a.f1 = b.f1
  ·simp [h0,h1]
  ·have : ¬ b.f0 < b.f0:=by omega
   simp [h0,h1]
 ·simp [h0]
theorem ref4_own_f (o : SOp) (e : SElem) : r4_own.f o.f0 o.f1 o.f2 o.f3.f0 o.f3.f1 o.f3.f2 o.f4 o.f5 o.f6 o.f7 o.f8 e.f0 e.f1 e.f2 = some (ownEl o e):=by
 unfold r4_own.f ownEl
 by_cases h : e.f0 = o.f0 <;> simp [h]
def Sm2 (o : SOp) : Prop:=o.f4.size <= 35184372088000 /\ o.f5.length <= 1000000000000000
theorem ref4_Op_l0 (o : SOp) (h : Sm2 o) : ∀ d i,i + d = o.f5.length ->
  Ev (fun k => r4_Op.l0 k (i : Int) o.f0 o.f1 o.f2 o.f3.f0 o.f3.f1 o.f3.f2 o.f4 o.f5 o.f6 o.f7 o.f8) (Qbn o (if i = 0 then none else some (Qac o.f5 ((i : Int) - 1))) (o.f5.drop i))
 | 0,i,hi => by
  rw [List.drop_eq_nil_of_le (by omega)]
  exact Ev.step (f:=fun _ => some true) (fun k => by simp only [r4_Op.l0]; rw [if_neg (by omega)]) (Ev.now _)
 | d + 1,i,hi => by
  have hlt : i < o.f5.length:=by omega
  have ih:=ref4_Op_l0 o h d (i + 1) (by omega)
  have hw : wrap64 ((i : Int) + 1) = ((i + 1 : Nat) : Int):=wrapS hlt (by have:=h.2; omega)
  have hw1 : wrap64 ((i : Int) - 1) = (i : Int) - 1:=Qak (by omega) (by have:=h.2; omega)
  have hd : o.f5.drop i = Qac o.f5 (i : Int) :: o.f5.drop (i + 1):=by rw [Qaw _ _ hlt]; exact List.drop_eq_getElem_cons hlt
  rw [hd]
  generalize hx : Qac o.f5 (i : Int) = x at ih ⊢
  have hp1 : Qac o.f5 (((i + 1 : Nat) : Int) - 1) = x:=by rw [show (((i + 1 : Nat) : Int) - 1) = (i : Int) by omega]; exact hx
  rw [if_neg (show ¬ i + 1 = 0 by omega),hp1] at ih
  have unf : ∀ k,r4_Op.l0 (k + 1) (i : Int) o.f0 o.f1 o.f2 o.f3.f0 o.f3.f1 o.f3.f2 o.f4 o.f5 o.f6 o.f7 o.f8 =
    (if Qap x = true then some false else if Qch x = true then (if ownEl o x = true then some false else if (i : Int) > 0 then
     (if elLess (Qac o.f5 ((i : Int) - 1)) x = true then r4_Op.l0 k ((i + 1 : Nat) : Int) o.f0 o.f1 o.f2 o.f3.f0 o.f3.f1 o.f3.f2 o.f4 o.f5 o.f6 o.f7 o.f8 else some false)
     else r4_Op.l0 k ((i + 1 : Nat) : Int) o.f0 o.f1 o.f2 o.f3.f0 o.f3.f1 o.f3.f2 o.f4 o.f5 o.f6 o.f7 o.f8) else some false):=by
   intro k
   simp only [r4_Op.l0]
   rw [if_pos (by omega),if_pos (by omega),hx,ref4_Begin_f,ref4_Elem_f,ref4_own_f,hw,hw1]
   simp only [Option.bind_some]
   by_cases hi0 : (i : Int) > 0
   ·simp only [if_pos hi0]
    rw [if_pos (show (0 : Int) <= (i : Int) - 1 by omega),if_pos (show (i : Int) - 1 < (o.f5.length : Int) by omega),ref4_Less_f]
    rfl
   ·simp only [if_neg hi0]
  unfold Qbn
  have no : ∀ c : Bool,c = false -> (∀ k,r4_Op.l0 (k + 1) (i : Int) o.f0 o.f1 o.f2 o.f3.f0 o.f3.f1 o.f3.f2 o.f4 o.f5 o.f6 o.f7 o.f8 = some false) -> Ev (fun k => r4_Op.l0 k (i : Int) o.f0 o.f1 o.f2 o.f3.f0 o.f3.f1 o.f3.f2 o.f4 o.f5 o.f6 o.f7 o.f8) c:=by
   intro c hc hk; subst hc; exact Ev.step (f:=fun _ => some false) hk (Ev.now _)
  cases hb : Qap x
  ·cases he : Qch x
   ·exact no _ (by simp) (fun k => by rw [unf,hb,he]; simp)
   ·cases ho : ownEl o x
    ·by_cases hi0 : i = 0
     ·subst hi0
      simp only [if_true,Bool.not_false,Bool.true_and]
      exact Ev.step (fun k => by rw [unf,hb,he,ho]; simp) ih
     ·simp only [if_neg hi0]
      cases hl : elLess (Qac o.f5 ((i : Int) - 1)) x
      ·exact no _ (by simp [hl]) (fun k => by rw [unf,hb,he,ho,hl]; simp; omega)
      ·simp only [Bool.not_false,Bool.true_and]
       exact Ev.step (fun k => by rw [unf,hb,he,ho,hl]; simp) ih
    ·exact no _ (by simp) (fun k => by rw [unf,hb,he,ho]; simp)
  ·exact no _ (by simp) (fun k => by rw [unf,hb]; simp)
theorem Op_l0_start (o : SOp) (h : Sm2 o) : Ev (fun k => r4_Op.l0 k 0 o.f0 o.f1 o.f2 o.f3.f0 o.f3.f1 o.f3.f2 o.f4 o.f5 o.f6 o.f7 o.f8) (Qbn o none o.f5):=by
 have:=ref4_Op_l0 o h o.f5.length 0 (Nat.zero_add _)
 simpa using this
theorem Op_j1 (o : SOp) (h : Sm2 o) (b : Bool) : Ev (fun k => r4_Op.j1 k b o.f0 o.f1 o.f2 o.f3.f0 o.f3.f1 o.f3.f2 o.f4 o.f5 o.f6 o.f7 o.f8) (!b && Qbn o none o.f5):=by
 cases b
 ·simp only [Bool.not_false,Bool.true_and]
  exact Ev.step (fun k => by simp only [r4_Op.j1]; rw [if_neg (by decide)]) (Op_l0_start o h)
 ·simp only [Bool.not_true,Bool.false_and]
  exact Ev.step (f:=fun _ => some false) (fun k => by simp only [r4_Op.j1]; rw [if_pos True.intro]) (Ev.now _)
def restOk (o : SOp) : Bool:=Qcd o.f4 && (decide (Qal o <= 12) && (Qch o.f3 && (!(decide (Qal o = 0) && !Qap o.f3) && (!ownEl o o.f3 && Qbn o none o.f5))))
theorem Op_j0 (o : SOp) (h : Sm2 o) (b : Bool) : Ev (fun k => r4_Op.j0 k b o.f0 o.f1 o.f2 o.f3.f0 o.f3.f1 o.f3.f2 o.f4 o.f5 o.f6 o.f7 o.f8) (!b && restOk o):=by
 cases b
 ·simp only [Bool.not_false,Bool.true_and]
  have hR:=Runes_ev o.f4 h.1
  unfold restOk
  obtain ⟨F,hF⟩ : ∃ F : Nat -> List Int × Bool -> Option Bool,F = (fun k bt => (if bt.2 = true then (if (bt.1.length : Int) > 12 then (r4_Op.j1 k true o.f0 o.f1 o.f2 o.f3.f0 o.f3.f1 o.f3.f2 o.f4 o.f5 o.f6 o.f7 o.f8) else ((r4_Elem.f o.f3.f0 o.f3.f1 o.f3.f2).bind fun t176 => (if t176 = true then (if (bt.1.length : Int) = 0 then ((r4_Begin.f o.f3.f0 o.f3.f1 o.f3.f2).bind fun t177 => (if t177 = true then ((r4_own.f o.f0 o.f1 o.f2 o.f3.f0 o.f3.f1 o.f3.f2 o.f4 o.f5 o.f6 o.f7 o.f8 o.f3.f0 o.f3.f1 o.f3.f2).bind fun t178 => (r4_Op.j1 k t178 o.f0 o.f1 o.f2 o.f3.f0 o.f3.f1 o.f3.f2 o.f4 o.f5 o.f6 o.f7 o.f8)) else (r4_Op.j1 k true o.f0 o.f1 o.f2 o.f3.f0 o.f3.f1 o.f3.f2 o.f4 o.f5 o.f6 o.f7 o.f8))) else ((r4_own.f o.f0 o.f1 o.f2 o.f3.f0 o.f3.f1 o.f3.f2 o.f4 o.f5 o.f6 o.f7 o.f8 o.f3.f0 o.f3.f1 o.f3.f2).bind fun t179 => (r4_Op.j1 k t179 o.f0 o.f1 o.f2 o.f3.f0 o.f3.f1 o.f3.f2 o.f4 o.f5 o.f6 o.f7 o.f8))) else (r4_Op.j1 k true o.f0 o.f1 o.f2 o.f3.f0 o.f3.f1 o.f3.f2 o.f4 o.f5 o.f6 o.f7 o.f8)))) else (r4_Op.j1 k true o.f0 o.f1 o.f2 o.f3.f0 o.f3.f1 o.f3.f2 o.f4 o.f5 o.f6 o.f7 o.f8))):=⟨_,rfl⟩
  refine Ev.step (f:=fun k => (r1_Runes.f k o.f4).bind (F k)) (fun k => ?_) (Ev.bind hR ?_)
  ·simp only [r4_Op.j0]; rw [if_neg (by decide),hF]
  ·rw [hF]
   have hn : ∀ x : Bool,Ev (fun k => r4_Op.j1 k true o.f0 o.f1 o.f2 o.f3.f0 o.f3.f1 o.f3.f2 o.f4 o.f5 o.f6 o.f7 o.f8) (x && false):=fun x => by rw [Bool.and_false]; exact Op_j1 o h true
   simp only [ref4_Elem_f,ref4_own_f,ref4_Begin_f,Option.bind_some]
   cases ht : Qcd o.f4
   ·simp only [Bool.false_eq_true,if_false,Bool.false_and]
    exact Op_j1 o h true
   ·simp only [if_true,Bool.true_and]
    have hl : (Qat o.f4).length = Qal o:=rfl
    rw [hl]
    by_cases h12 : Qal o <= 12
    ·have e12 : decide (Qal o <= 12) = true:=Zd h12
     rw [e12,Bool.true_and]
     have n12 : ¬ ((Qal o : Int) > 12):=by omega
     simp only [if_neg n12]
     cases he : Qch o.f3
     ·simp only [Bool.false_eq_true,if_false,Bool.false_and]
      exact Op_j1 o h true
     ·simp only [if_true,Bool.true_and]
      by_cases h0 : Qal o = 0
      ·have h0i : (Qal o : Int) = 0:=by omega
       simp only [if_pos h0i,h0,decide_true,Bool.true_and,Bool.not_not]
       cases hb : Qap o.f3
       ·simp only [Bool.false_eq_true,if_false,Bool.false_and]
        exact Op_j1 o h true
       ·simp only [if_true,Bool.true_and]
        exact Op_j1 o h _
      ·have h0i : ¬ (Qal o : Int) = 0:=by omega
       have e0 : decide (Qal o = 0) = false:=Ze h0
       simp only [if_neg h0i,e0,Bool.false_and,Bool.not_false,Bool.true_and]
       exact Op_j1 o h _
    ·have e12 : decide (Qal o <= 12) = false:=Ze h12
     rw [e12,Bool.false_and]
     have n12 : (Qal o : Int) > 12:=by omega
     simp only [if_pos n12]
     exact Op_j1 o h true
 ·simp only [Bool.not_true,Bool.false_and]
  exact Ev.step (f:=fun _ => some false) (fun k => by simp only [r4_Op.j0]; rw [if_pos True.intro]) (Ev.now _)
theorem editOk_rest (o : SOp) : editOk o = (o.f6 == 0 && (o.f7 == 0 && (o.f8 == 0 && (decide (o.f5.length <= 200) && (!(o.f4.toList.isEmpty && o.f5.isEmpty) && restOk o))))):=by
 unfold editOk restOk goneOk
 have : decide (Qal o = 0) = o.f4.toList.isEmpty:=by
  rw [Bool.eq_iff_iff,decide_eq_true_eq]; exact (runesOf_nil o.f4)
 rw [this]
 cases o.f6 == 0 <;> cases o.f7 == 0 <;> cases o.f8 == 0 <;> cases decide (o.f5.length <= 200) <;> cases o.f4.toList.isEmpty <;> cases o.f5.isEmpty <;> cases Qcd o.f4 <;> cases decide (Qal o <= 12) <;> cases Qch o.f3 <;> cases Qap o.f3 <;> cases ownEl o o.f3 <;> cases Qbn o none o.f5 <;> rfl
theorem Op_ev (o : SOp) (h : Sm2 o) : Ev (fun k => r4_Op.f k o.f0 o.f1 o.f2 o.f3.f0 o.f3.f1 o.f3.f2 o.f4 o.f5 o.f6 o.f7 o.f8) (opOk o):=by
 unfold r4_Op.f opOk
 simp only [ref4_name_f,ref4_Begin_f,ref0_Num_f,Option.bind_some]
 cases nameOk o.f0 o.f1
 ·simp only [Bool.false_eq_true,if_false,Bool.false_and]; exact Ev.now _
 ·simp only [if_true,Bool.true_and]
  by_cases h2 : o.f2 = 2
  ·have h1 : ¬ o.f2 = 1:=by omega
   rw [if_neg h1]
   simp only [h2,if_true,beq_self_eq_true,Bool.true_and]
   unfold Qca
   refine Ev.congr (fun k => ?_) (Ev.now _)
   have hl : ((o.f5.length : Int) == 0) = o.f5.isEmpty:=isEmpty_len _
   have ht : (o.f4.toList = ([] : List UInt8)) ↔ o.f4.toList.isEmpty = true:=toList_isEmpty _
   simp only [hl,ht]
   cases nameOk o.f6 o.f7
   ·simp
   ·by_cases e6 : o.f6 = o.f0 <;> by_cases e7 : o.f7 = o.f1 <;> by_cases e8 : 0 <= o.f8 <;> by_cases e9 : o.f8 <= 268435456 <;> cases Qap o.f3 <;> cases o.f4.toList.isEmpty <;> simp [e6,e7,e8,e9]
  ·have e2 : (o.f2 == 2) = false:=by simp [h2]
   simp only [if_neg h2]
   by_cases h1 : o.f2 = 1
   ·simp only [if_pos h1]
    rw [editOk_rest]
    by_cases e6 : o.f6 = 0
    ·simp only [if_pos e6]
     by_cases e7 : o.f7 = 0
     ·simp only [if_pos e7]
      by_cases e8 : o.f8 = 0
      ·simp only [if_pos e8]
       have b6 : (o.f6 == 0) = true:=by simp [e6]
       have b7 : (o.f7 == 0) = true:=by simp [e7]
       have b8 : (o.f8 == 0) = true:=by simp [e8]
       rw [b6,b7,b8,Bool.true_and,Bool.true_and,Bool.true_and]
       by_cases e5 : o.f5.length <= 200
       ·have n5 : ¬ (o.f5.length : Int) > 200:=by omega
        have d5 : decide (o.f5.length <= 200) = true:=Zd e5
        simp only [if_neg n5,d5,Bool.true_and,isEmpty_len]
        by_cases e4 : o.f4.toList = ([] : List UInt8)
        ·simp only [if_pos e4,List.isEmpty_iff.2 e4,Bool.true_and]; exact Op_j0 o h _
        ·have : o.f4.toList.isEmpty = false:=by cases hh : o.f4.toList.isEmpty; rfl; exact absurd (List.isEmpty_iff.1 hh) e4
         simp only [if_neg e4,this,Bool.false_and]; exact Op_j0 o h _
       ·have n5 : (o.f5.length : Int) > 200:=by omega
        have d5 : decide (o.f5.length <= 200) = false:=Ze e5
        simp only [if_pos n5,d5,Bool.false_and]; exact Op_j0 o h _
      ·have b8 : (o.f8 == 0) = false:=by simp [e8]
       simp only [if_neg e8,b8,Bool.false_and,Bool.and_false]; exact Op_j0 o h _
     ·have b7 : (o.f7 == 0) = false:=by simp [e7]
      simp only [if_neg e7,b7,Bool.false_and,Bool.and_false]; exact Op_j0 o h _
    ·have b6 : (o.f6 == 0) = false:=by simp [e6]
     simp only [if_neg e6,b6,Bool.false_and]; exact Op_j0 o h _
   ·simp only [if_neg h1,e2,Bool.false_and]; have hh:=Op_j0 o h true; simp only [Bool.not_true,Bool.false_and] at hh; exact hh
theorem Find_loop (l : List SOp) (hl : l.length <= 1000000000000) (a b : Int) : ∀ d i,i + d = l.length -> Ev (fun k => r4_Find.l0 k l a b (i : Int)) (Qbb (fun i => nameIs a b (Qaf l i)) l.length d i)
 | 0,i,h => Ev.step (f:=fun _ => some (-1)) (fun k => by simp only [r4_Find.l0]; rw [if_neg (by omega)]) (Ev.now _)
 | d + 1,i,h => by
  have ih:=Find_loop l hl a b d (i + 1) (by omega)
  unfold Qbb
  rw [if_pos (show i < l.length by omega)]
  by_cases h0 : (Qaf l (i : Int)).f0 = a
  ·by_cases h1 : (Qaf l (i : Int)).f1 = b
   ·rw [if_pos (by unfold nameIs; simp [h0,h1])]
    refine Ev.step (f:=fun _ => some (i : Int)) (fun k => ?_) (Ev.now _)
    simp only [r4_Find.l0]
    rw [if_pos (by omega),if_pos (by omega),if_pos h0,if_pos h1]
   ·rw [if_neg (by unfold nameIs; simp [h1])]
    refine Ev.step (fun k => ?_) ih
    simp only [r4_Find.l0]
    rw [if_pos (by omega),if_pos (by omega),if_pos h0,if_neg h1,wrapS (show i < l.length by omega) (by omega)]
  ·rw [if_neg (by unfold nameIs; simp [h0])]
   refine Ev.step (fun k => ?_) ih
   simp only [r4_Find.l0]
   rw [if_pos (by omega),if_pos (by omega),if_neg h0,wrapS (show i < l.length by omega) (by omega)]
theorem Find_ev (l : List SOp) (hl : l.length <= 1000000000000) (a b : Int) : Ev (fun k => r4_Find.f k l a b) (Qaz l a b):=Find_loop l hl a b l.length 0 (Nat.zero_add _)
def runesN (o : SOp) : Nat:=if Qcd o.f4 = true then Qal o else 0
theorem RunesO_ev (o : SOp) (h : o.f4.size <= 35184372088000) : Ev (fun k => r4_Runes.f k o.f0 o.f1 o.f2 o.f3.f0 o.f3.f1 o.f3.f2 o.f4 o.f5 o.f6 o.f7 o.f8) (runesN o : Int):=by
 refine Ev.bind (f:=fun _ (bt : List Int × Bool) => some (bt.1.length : Int)) (Runes_ev o.f4 h) ?_
 unfold runesN
 cases Qcd o.f4
 ·exact Ev.now _
 ·exact Ev.now _
theorem opOk_text {o : SOp} (h : opOk o = true) : runesN o = Qal o:=by
 unfold runesN
 rcases Qco h with ⟨_,h2⟩ | ⟨h1,h2⟩
 ·unfold editOk at h2; simp only [Bool.and_eq_true] at h2
  rw [if_pos h2.1.1.1.1.1.2]
 ·have:=(Qcn h).2 h1
  split <;> omega
def writtenN (l : List SOp) (e : SElem) : Bool:=Qap e || (decide (0 <= Qaz l e.f0 e.f1) && decide (0 <= e.f2) && decide (e.f2 < (runesN (Qaf l (Qaz l e.f0 e.f1)) : Int)))
theorem written_ev (l : List SOp) (hl : l.length <= 1000000000000) (hs : ∀ o ∈ l,o.f4.size <= 35184372088000) (e : SElem) : Ev (fun k => r4_written.f k l e.f0 e.f1 e.f2) (writtenN l e):=by
 unfold r4_written.f writtenN
 simp only [ref4_Begin_f,Option.bind_some]
 cases Qap e
 ·simp only [Bool.false_eq_true,if_false,Bool.false_or]
  refine Ev.bind (Find_ev l hl e.f0 e.f1) ?_
  rcases Qbj l e.f0 e.f1 with ⟨i,hi,_,_,_,ef⟩ | ⟨_,ef⟩
  ·rw [ef]
   have h0 : (i : Int) >= 0:=by omega
   have d0 : decide ((0 : Int) <= (i : Int)) = true:=Zd (by omega)
   simp only [if_pos h0,d0,Bool.true_and]
   by_cases h2 : e.f2 >= 0
   ·have d2 : decide ((0 : Int) <= e.f2) = true:=Zd h2
    have h3 : (i : Int) < (l.length : Int):=by omega
    have h4 : (0 : Int) <= (i : Int):=by omega
    simp only [if_pos h2,d2,if_pos h3,if_pos h4,Bool.true_and]
    refine Ev.bind (f:=fun _ t => some (decide (e.f2 < t))) (RunesO_ev (Qaf l (i : Int)) (by rw [Qas _ _ hi]; exact hs _ (List.getElem_mem hi))) (Ev.now _)
   ·have d2 : decide ((0 : Int) <= e.f2) = false:=Ze (by omega)
    simp only [if_neg h2,d2,Bool.false_and]; exact Ev.now _
  ·rw [ef]
   have h0 : ¬ (-1 : Int) >= 0:=by omega
   simp only [if_neg h0]; exact Ev.now _
 ·simp only [if_true,Bool.true_or]; exact Ev.now _
theorem countS_take (l : List SOp) (a : Int) (i : Nat) (h : i < l.length) : Qbl (l.take (i + 1)) a = Qbl (l.take i) a + if l[i].f0 = a then 1 else 0:=by
 rw [List.take_succ_eq_append_getElem h,countS_app]
theorem Many_loop (l : List SOp) (hl : l.length <= 1000000000000) (a : Int) : ∀ d i,i + d = l.length -> Ev (fun k => r4_Many.l0 k l a (Qbl (l.take i) a : Int) (i : Int)) (Qbl l a : Int)
 | 0,i,h => by
  rw [List.take_of_length_le (by omega)]
  exact Ev.step (f:=fun _ => some (Qbl l a : Int)) (fun k => by simp only [r4_Many.l0]; rw [if_neg (by omega)]) (Ev.now _)
 | d + 1,i,h => by
  have ih:=Many_loop l hl a d (i + 1) (by omega)
  have hlt : i < l.length:=by omega
  have hc : Qbl (l.take i) a <= i:=Nat.le_trans (countS_le _ _) (by rw [List.length_take]; omega)
  rw [countS_take l a i hlt] at ih
  refine Ev.step (fun k => ?_) ih
  simp only [r4_Many.l0]
  rw [if_pos (by omega),if_pos (by omega),Qas _ _ hlt,wrapS hlt (by omega),Qak (i:=(Qbl (l.take i) a : Int) + 1) (by omega) (by omega)]
  by_cases h0 : l[i].f0 = a
  ·rw [if_pos h0,if_pos h0]; rfl
  ·rw [if_neg h0,if_neg h0]; rfl
theorem Many_ev (l : List SOp) (hl : l.length <= 1000000000000) (a : Int) : Ev (fun k => r4_Many.f k l a) (Qbl l a : Int):=Many_loop l hl a l.length 0 (Nat.zero_add _)
def editN (l : List SOp) (a b : Int) : Bool:=decide (0 <= Qaz l a b) && ((Qaf l (Qaz l a b)).f2 == 1)
theorem Edit_ev (l : List SOp) (hl : l.length <= 1000000000000) (a b : Int) : Ev (fun k => r4_Edit.f k l a b) (editN l a b):=by
 refine Ev.bind (f:=fun _ t => if t >= 0 then (if 0 <= t then (if t < (l.length : Int) then some ((Qaf l t).f2 == 1) else none) else none) else some false) (Find_ev l hl a b) ?_
 unfold editN
 rcases Qbj l a b with ⟨i,hi,_,_,_,ef⟩ | ⟨_,ef⟩
 ·rw [ef]
  refine Ev.congr (fun k => ?_) (Ev.now _)
  rw [if_pos (by omega),if_pos (by omega),if_pos (by omega),Zd (show (0 : Int) <= (i : Int) by omega),Bool.true_and]
 ·rw [ef]; exact Ev.now _
structure SmL (l : List SOp) : Prop where
 len : l.length <= 1000000000000
 ops : ∀ o ∈ l,Sm2 o
theorem SmL.take {l : List SOp} (h : SmL l) (n : Nat) : SmL (l.take n):=⟨by have:=h.len; rw [List.length_take]; omega,fun o ho => h.ops o (List.mem_of_mem_take ho)⟩
def goesN (l : List SOp) (o : SOp) : Bool:=opOk o && (decide (o.f1 = (Qbl l o.f0 : Int) + 1) && (writtenN l o.f3 && (o.f5.all (writtenN l) && (o.f2 == 1 || editN l o.f6 o.f7))))
theorem Goes_l0 (l : List SOp) (hl : SmL l) (o : SOp) (h : Sm2 o) : ∀ d i,i + d = o.f5.length -> Ev (fun k => r4_Goes.l0 k l (i : Int) o.f0 o.f1 o.f2 o.f3.f0 o.f3.f1 o.f3.f2 o.f4 o.f5 o.f6 o.f7 o.f8) ((o.f5.drop i).all (writtenN l) && (o.f2 == 1 || editN l o.f6 o.f7))
 | 0,i,hi => by
  rw [List.drop_eq_nil_of_le (by omega)]
  simp only [List.all_nil,Bool.true_and]
  by_cases h1 : o.f2 = 1
  ·have : (o.f2 == 1) = true:=by simp [h1]
   rw [this,Bool.true_or]
   exact Ev.step (f:=fun _ => some true) (fun k => by simp only [r4_Goes.l0]; rw [if_neg (by omega),if_pos h1]) (Ev.now _)
  ·have : (o.f2 == 1) = false:=by simp [h1]
   rw [this,Bool.false_or]
   refine Ev.step (f:=fun k => (r4_Edit.f k l o.f6 o.f7).bind fun t => some t) (fun k => by simp only [r4_Goes.l0]; rw [if_neg (by omega),if_neg h1]) (Ev.bind (f:=fun _ t => some t) (Edit_ev l hl.len o.f6 o.f7) (Ev.now _))
 | d + 1,i,hi => by
  have hlt : i < o.f5.length:=by omega
  have ih:=Goes_l0 l hl o h d (i + 1) (by omega)
  rw [List.drop_eq_getElem_cons hlt,List.all_cons]
  have hw:=written_ev l hl.len (fun o ho => (hl.ops o ho).1) o.f5[i]
  refine Ev.step (f:=fun k => (r4_written.f k l o.f5[i].f0 o.f5[i].f1 o.f5[i].f2).bind fun t => if t = true then r4_Goes.l0 k l ((i + 1 : Nat) : Int) o.f0 o.f1 o.f2 o.f3.f0 o.f3.f1 o.f3.f2 o.f4 o.f5 o.f6 o.f7 o.f8 else some false) (fun k => ?_) (Ev.bind (f:=fun k t => if t = true then r4_Goes.l0 k l ((i + 1 : Nat) : Int) o.f0 o.f1 o.f2 o.f3.f0 o.f3.f1 o.f3.f2 o.f4 o.f5 o.f6 o.f7 o.f8 else some false) hw ?_)
  ·simp only [r4_Goes.l0]
   rw [if_pos (by omega),if_pos (by omega),Qaw _ _ hlt,wrapS hlt (by have:=h.2; omega)]
  ·cases writtenN l o.f5[i]
   ·simp only [Bool.false_and,Bool.false_eq_true,if_false]; exact Ev.now _
   ·simp only [Bool.true_and,if_true]; exact ih
theorem Goes_ev (l : List SOp) (hl : SmL l) (o : SOp) (h : Sm2 o) : Ev (fun k => r4_Goes.f k l o.f0 o.f1 o.f2 o.f3.f0 o.f3.f1 o.f3.f2 o.f4 o.f5 o.f6 o.f7 o.f8) (goesN l o):=by
 have hj : ∀ b : Bool,Ev (fun k => r4_Goes.j0 k l b o.f0 o.f1 o.f2 o.f3.f0 o.f3.f1 o.f3.f2 o.f4 o.f5 o.f6 o.f7 o.f8) (!b && (o.f5.all (writtenN l) && (o.f2 == 1 || editN l o.f6 o.f7))):=by
  intro b
  cases b
  ·simp only [Bool.not_false,Bool.true_and]
   exact Ev.step (fun k => by simp only [r4_Goes.j0]; rw [if_neg (by decide)]; rfl) (Goes_l0 l hl o h o.f5.length 0 (Nat.zero_add _))
  ·simp only [Bool.not_true,Bool.false_and]
   exact Ev.step (f:=fun _ => some false) (fun k => by simp only [r4_Goes.j0]; rw [if_pos True.intro]) (Ev.now _)
 have hjt:=hj true
 simp only [Bool.not_true,Bool.false_and] at hjt
 unfold r4_Goes.f goesN
 refine Ev.bind (Op_ev o h) ?_
 cases opOk o
 ·simp only [Bool.false_eq_true,if_false,Bool.false_and]; exact hjt
 ·simp only [if_true,Bool.true_and]
  refine Ev.bind (Many_ev l hl.len o.f0) ?_
  have hc:=countS_le l o.f0
  have hlen:=hl.len
  simp only [Qak (show -9223372036854775808 <= (Qbl l o.f0 : Int) + 1 by omega) (show (Qbl l o.f0 : Int) + 1 <= 9223372036854775807 by omega)]
  by_cases hq : o.f1 = (Qbl l o.f0 : Int) + 1
  ·simp only [if_pos hq,Zd hq,Bool.true_and]
   refine Ev.bind (written_ev l hl.len (fun o ho => (hl.ops o ho).1) o.f3) ?_
   have:=hj (!writtenN l o.f3)
   rw [Bool.not_not] at this
   exact this
  ·simp only [if_neg hq,Ze hq,Bool.false_and]; exact hjt
def Qcy (l : List SOp) : Nat:=(l.map runesN).sum
theorem totalN_take (l : List SOp) (i : Nat) (h : i < l.length) : Qcy (l.take (i + 1)) = Qcy (l.take i) + runesN l[i]:=by
 unfold Qcy; rw [List.take_succ_eq_append_getElem h,List.map_append,List.sum_append]; simp
theorem sizeOf_le (o : SOp) : Qal o <= o.f4.size:=decFrom_len _ _ _
theorem Fits_loop (l : List SOp) (h40 : l.length <= 40) (hl : SmL l) : ∀ d i,i + d = l.length -> Qcy (l.take i) <= i * 35184372088000 -> Ev (fun k => r4_Fits.l0 k l (Qcy (l.take i) : Int) (i : Int)) (decide (Qcy l <= 200))
 | 0,i,h,_ => by
  rw [List.take_of_length_le (by omega)]
  have : decide ((Qcy l : Int) <= 200) = decide (Qcy l <= 200):=decide_eq_decide.2 (by omega)
  exact Ev.step (f:=fun _ => some (decide (Qcy l <= 200))) (fun k => by simp only [r4_Fits.l0]; rw [if_neg (by omega),if_pos (by omega),this]) (Ev.now _)
 | d + 1,i,h,ht => by
  have hlt : i < l.length:=by omega
  have hr : runesN l[i] <= 35184372088000:=by
   have:=(hl.ops _ (List.getElem_mem hlt)).1
   have:=sizeOf_le l[i]
   unfold runesN; split <;> omega
  have e:=totalN_take l i hlt
  have ih:=Fits_loop l h40 hl d (i + 1) (by omega) (by rw [e]; omega)
  rw [e] at ih
  have hR:=RunesO_ev l[i] (hl.ops _ (List.getElem_mem hlt)).1
  refine Ev.step (fun k => ?_) (Ev.bind (f:=fun k t => r4_Fits.l0 k l (wrap64 ((Qcy (l.take i) : Int) + t)) ((i + 1 : Nat) : Int)) hR ?_)
  ·simp only [r4_Fits.l0]
   rw [if_pos (by omega),if_pos (by omega),if_pos (by omega),Qas _ _ hlt,wrapS hlt (by omega)]
  ·rw [Qak (by omega) (by omega)]
   exact ih
theorem Fits_ev (l : List SOp) (h40 : l.length <= 40) (hl : SmL l) : Ev (fun k => r4_Fits.f k l) (decide (Qcy l <= 200)):=by
 have h:=Fits_loop l h40 hl l.length 0 (Nat.zero_add _) (by rw [List.take_zero]; exact Nat.zero_le _)
 have e : Qcy (l.take 0) = 0:=by rw [List.take_zero]; rfl
 rw [e] at h
 exact h
def rowR (l : List SOp) (i : Nat) : Bool:=(List.range' i (l.length - i)).all (fun j => goesN (l.take j) (Qaf l (j : Int))) && decide (Qcy l <= 200)
theorem Row_loop (l : List SOp) (h40 : l.length <= 40) (hl : SmL l) : ∀ d i,i + d = l.length -> Ev (fun k => r4_Row.l0 k l (i : Int)) (rowR l i)
 | 0,i,h => by
  unfold rowR
  rw [show l.length - i = 0 by omega]
  simp only [List.range'_zero,List.all_nil,Bool.true_and]
  refine Ev.step (fun k => by simp only [r4_Row.l0]; rw [if_neg (by omega)]) (Ev.bind (f:=fun _ t => some t) (Fits_ev l h40 hl) (Ev.now _))
 | d + 1,i,h => by
  have hlt : i < l.length:=by omega
  have ih:=Row_loop l h40 hl d (i + 1) (by omega)
  have hG:=Goes_ev (l.take i) (hl.take i) l[i] (hl.ops _ (List.getElem_mem hlt))
  unfold rowR at ih ⊢
  rw [show l.length - i = (l.length - (i + 1)) + 1 by omega,List.range'_succ,List.all_cons,Qas _ _ hlt]
  refine Ev.step (fun k => ?_) (Ev.bind (f:=fun k t => if t = true then r4_Row.l0 k l ((i + 1 : Nat) : Int) else some false) hG ?_)
  ·simp only [r4_Row.l0]
   rw [if_pos (by omega),if_pos (by omega),if_pos (by omega),Qas _ _ hlt,Int.toNat_natCast,wrapS hlt (by omega)]
  ·cases goesN (l.take i) l[i]
   ·simp only [Bool.false_and,Bool.false_eq_true,if_false]; exact Ev.now _
   ·simp only [Bool.true_and,if_true]; exact ih
theorem writtenN_wr {l : List SOp} (hr : RowOk l) (e : SElem) : writtenN l e = true ↔ wr l e:=by
 unfold writtenN wr
 rw [Bool.or_eq_true]
 refine or_congr Iff.rfl ?_
 simp only [Bool.and_eq_true,decide_eq_true_eq]
 constructor
 ·rintro ⟨⟨h0,h1⟩,h2⟩
  rcases Qbj l e.f0 e.f1 with ⟨i,hi,e0,e1,_,ef⟩ | ⟨_,ef⟩
  ·rw [ef,Qas _ _ hi,opOk_text (hr.oks _ (List.getElem_mem hi))] at h2
   exact ⟨h1,l[i],List.getElem_mem hi,e0,e1,h2⟩
  ·omega
 ·rintro ⟨h1,p,hp,e0,e1,h2⟩
  obtain ⟨i,hi,ef,ei⟩:=Qdc hr hp
  rw [<- e0,<- e1,ef,Qas _ _ hi,ei,opOk_text (hr.oks p hp)]
  exact ⟨⟨by omega,h1⟩,h2⟩
theorem editN_iff {l : List SOp} (hr : RowOk l) (a b : Int) : editN l a b = true ↔ ∃ p ∈ l,p.f2 = 1 /\ p.f0 = a /\ p.f1 = b:=by
 unfold editN
 simp only [Bool.and_eq_true,decide_eq_true_eq,beq_iff_eq]
 constructor
 ·rintro ⟨h0,h1⟩
  rcases Qbj l a b with ⟨i,hi,e0,e1,_,ef⟩ | ⟨_,ef⟩
  ·rw [ef,Qas _ _ hi] at h1; exact ⟨l[i],List.getElem_mem hi,h1,e0,e1⟩
  ·omega
 ·rintro ⟨p,hp,h2,rfl,rfl⟩
  obtain ⟨i,hi,ef,ei⟩:=Qdc hr hp
  rw [ef,Qas _ _ hi,ei]
  exact ⟨by omega,h2⟩
theorem goesN_iff {l : List SOp} (hr : RowOk l) (o : SOp) : goesN l o = true ↔ GoesR l o:=by
 unfold goesN
 simp only [Bool.and_eq_true,decide_eq_true_eq,Bool.or_eq_true,beq_iff_eq,List.all_eq_true,writtenN_wr hr,editN_iff hr]
 constructor
 ·rintro ⟨h1,h2,h3,h4,h5⟩
  exact ⟨h1,h2,h3,h4,fun e => h5.elim (fun e1 => by omega) id⟩
 ·intro h
  refine ⟨h.ok,h.seq,h.after,h.gone, ?_⟩
  rcases Qco h.ok with ⟨e,_⟩ | ⟨e,_⟩
  ·exact .inl e
  ·exact .inr (h.tog e)
theorem totalN_eq {l : List SOp} (h : ∀ o ∈ l,opOk o = true) : Qcy l = total l:=by
 unfold Qcy total
 rw [List.map_congr_left (fun o ho => opOk_text (h o ho))]
theorem rowR_iff (l : List SOp) (h40 : l.length <= 40) : rowR l 0 = true ↔ RowOk l:=by
 unfold rowR
 rw [Nat.sub_zero]
 simp only [Bool.and_eq_true,decide_eq_true_eq,List.all_eq_true,List.mem_range'_1]
 constructor
 ·rintro ⟨h1,h2⟩
  have key : ∀ n,n <= l.length -> (∀ i (h : i < l.length),i < n -> GoesR (l.take i) l[i]) /\ (∀ o ∈ l.take n,opOk o = true) /\ RowOk (l.take n):=by
   intro n
   induction n with
   | zero => intro _; exact ⟨fun i _ h => by omega,fun o ho => by simp at ho,by simpa using RowOk.nil⟩
   | succ n ih =>
    intro hn
    obtain ⟨a,b,c⟩:=ih (by omega)
    have hlt : n < l.length:=by omega
    have g:=h1 n ⟨Nat.zero_le _,by omega⟩
    rw [Qas _ _ hlt] at g
    have g':=(goesN_iff c l[n]).1 g
    have b' : ∀ o ∈ l.take (n + 1),opOk o = true:=by
     rw [List.take_succ_eq_append_getElem hlt]
     intro o ho
     rcases List.mem_append.1 ho with ho | ho
     ·exact b o ho
     ·simp at ho; subst ho; exact g'.ok
    refine ⟨fun i hi hin => ?_,b', ?_⟩
    ·by_cases e : i = n
     ·subst e; exact g'
     ·exact a i hi (by omega)
    ·rw [List.take_succ_eq_append_getElem hlt]
     refine .snoc c ⟨by rw [List.length_take]; omega,g'.ok,g'.seq,g'.after,g'.gone,g'.tog, ?_⟩
     have t1:=totalN_eq b'
     rw [List.take_succ_eq_append_getElem hlt,total_app] at t1
     have t2 : Qcy (l.take (n + 1)) <= Qcy l:=by
      have : Qcy (l.take (n + 1)) + Qcy (l.drop (n + 1)) = Qcy l:=by
       unfold Qcy; rw [<- List.sum_append,<- List.map_append,List.take_append_drop]
      omega
     rw [List.take_succ_eq_append_getElem hlt] at t2
     omega
  have:=(key l.length (Nat.le_refl _)).2.2
  rwa [List.take_length] at this
 ·intro h
  refine ⟨fun j hj => ?_,by rw [totalN_eq h.oks]; exact h.sums.2⟩
  rw [Qas _ _ (by omega)]
  exact (goesN_iff (h.take j) _).2 (((RowOk_iff l).1 h).2.2 j (by omega))
theorem Row_ev (l : List SOp) (hl : SmL l) : Ev (fun k => r4_Row.f k l) (mayB l):=by
 unfold r4_Row.f
 by_cases h40 : l.length <= 40
 ·have n40 : ¬ (l.length : Int) > 40:=by omega
  simp only [if_neg n40]
  have : mayB l = rowR l 0:=by rw [Bool.eq_iff_iff,Qbh,rowR_iff l h40]
  rw [this]
  exact Row_loop l h40 hl l.length 0 (Nat.zero_add _)
 ·have n40 : (l.length : Int) > 40:=by omega
  simp only [if_pos n40]
  have : mayB l = false:=by unfold mayB; simp [h40]
  rw [this]; exact Ev.now _
end
section
theorem Tiny.smalls {l : List SOp} (h : Tiny l) (hn : l.length <= 1000) : smalls l = true:=good_smalls ⟨by omega,fun o ho => by have:=h o ho; unfold tiny at this; exact ⟨by omega,by omega⟩⟩
theorem Tiny.snoc {l : List SOp} (h : Tiny l) {o : SOp} (ho : tiny o) : Tiny (l ++ [o]):=by
 intro x hx
 rcases List.mem_append.1 hx with hx | hx
 ·exact h x hx
 ·rw [List.mem_singleton] at hx; subst hx; exact ho
end
section
theorem wrap_u64 {a : Nat} (h : a < 4611686018427387904) : IntKind.u64.wrap (a : Int) = (a : Int):=by
 unfold IntKind.wrap
 simp only [IntKind.signed,IntKind.bits]
 first | omega | (simp; omega)
theorem within_f {a b : Nat} (ha : a < 4611686018427387904) (hb : b < 4611686018427387904) (h0 : 0 < b) : w0_Within.f (a : Int) (b : Int) = some ((a % b : Nat) : Int):=by
 have hm:=Nat.mod_lt a h0
 unfold w0_Within.f
 rw [wrap_u64 ha,wrap_u64 hb,if_neg (by omega),Int.tmod_eq_emod_of_nonneg (by omega),Qak (by omega) (by omega)]
 rfl
theorem Make_l0 (rs : List Int) (hl : rs.length <= 1000) : ∀ d i,i + d = rs.length -> Ev (fun k => r1_Make.l0 k rs (runesBytes (rs.take i)) (i : Int)) (runesBytes rs)
 | 0,i,h => by
  refine Ev.step (f:=fun _ => some (runesBytes rs)) (fun k => ?_) (Ev.now _)
  simp only [r1_Make.l0]
  rw [if_neg (by omega),show i = rs.length by omega,List.take_length]
 | d + 1,i,h => by
  have ih:=Make_l0 rs hl d (i + 1) (by omega)
  have hi : i < rs.length:=by omega
  have hr : rd rs (i : Int) = rs[i]:=by unfold rd; simp [hi]
  have hs:=bytes_le (rs.take i)
  have h4:=enc_le rs[i]
  rw [List.length_take] at hs
  have hw : wrap64 ((i : Int) + 1) = ((i + 1 : Nat) : Int):=wrapS hi (by omega)
  rw [List.take_succ_eq_append_getElem hi,Qcz,runesBytes_one,<- hw] at ih
  refine Ev.step (fun k => ?_) ih
  simp only [r1_Make.l0]
  rw [if_pos (by omega),if_pos (by omega),hr,if_pos (by omega)]
theorem Make_ev (rs : List Int) (hl : rs.length <= 1000) : Ev (fun k => r1_Make.f k rs) (runesBytes rs):=Make_l0 rs hl rs.length 0 (Nat.zero_add _)
theorem tog_f {L : List SOp} (hs : smalls L = true) (s a n : Int) {o : SOp} {c : Int} (h : togV L s a n = (o,c)) : edit_Toggle.f L s a n = some (o.f0,o.f1,o.f2,o.f3.f0,o.f3.f1,o.f3.f2,o.f4,o.f5,o.f6,o.f7,o.f8,c):=by
 unfold edit_Toggle.f
 rw [if_pos hs,h]
theorem togV_ok {L : List SOp} {s a n : Int} {o : SOp} (h : togV L s a n = (o,0)) : mayB (L ++ [o]) = true /\ o.f2 = 2 /\ o.f4 = ⟨#[]⟩ /\ o.f5 = [] /\ o.f6 = a /\ o.f7 = n /\ o.f8 = cntR L a n:=by
 unfold togV at h
 by_cases h1 : (!mayB L || !Qde s) = true
 ·rw [if_pos h1] at h; exact absurd (Prod.mk.inj h).2 (by decide)
 ·rw [if_neg h1] at h
  by_cases h2 : edAt L a n = true
  ·rw [if_pos h2] at h
   by_cases h3 : mayB (L ++ [togO L s a n]) = true
   ·rw [if_pos h3] at h
    obtain rfl:=(Prod.mk.inj h).1
    exact ⟨h3,rfl,rfl,rfl,rfl,rfl,rfl⟩
   ·rw [if_neg h3] at h; exact absurd (Prod.mk.inj h).2 (by decide)
  ·rw [if_neg h2] at h; exact absurd (Prod.mk.inj h).2 (by decide)
theorem tog_tiny {o : SOp} (h4 : o.f4 = ⟨#[]⟩) (h5 : o.f5 = []) : tiny o:=by
 unfold tiny
 rw [h4,h5]
 exact ⟨Nat.zero_le _,Nat.zero_le _⟩
theorem tiny_long {L : List SOp} (h : Tiny L) : ∀ o ∈ L,o.f5.length <= 1000000000000:=fun o ho => by have:=(h o ho).2; omega
section
variable {l0 : List (List SOp)} {l1 : List SElem} {l2 : List SOp} {l3 : List Int}
theorem EL_j4 (x3 : Int) {L : List SOp} (x5 : ByteArray) (rs : List Int) (q : Int) (want : ByteArray) {M : List SOp} (o : SOp) (ht : Tiny M) (hl : M.length <= 998)
  (hy : ∀ y : SOp,RowOk (M ++ [y]) -> y.f2 = 2 -> y.f6 = o.f0 -> y.f7 = o.f1 -> y.f8 = cntR M o.f0 o.f1 -> Qbk (M ++ [y]) = want)
  (hnext : Ev (fun k => w7_EditLands.l1 k x3 L x5 rs (wrap64 (q + 1)) l0 l1 l2 l3) true) :
  Ev (fun k => w7_EditLands.j4 k x3 L x5 rs q want M false l0 l1 l2 l3 o.f0 o.f1 o.f2 o.f3.f0 o.f3.f1 o.f3.f2 o.f4 o.f5 o.f6 o.f7 o.f8) true:=by
 have hl1 : M.length <= 1000:=by omega
 have hl2 : M.length + 1 <= 1000:=by omega
 have hl3 : M.length <= 1000000:=by omega
 have hl4 : M.length + 1 < 1256584717458:=by omega
 have hs:=ht.smalls hl1
 generalize hsite : wrap64 (1 + (Int.tmod (wrap64 (q + 1)) 3)) = s
 obtain ⟨y,c,hv⟩ : ∃ y c,togV M s o.f0 o.f1 = (y,c):=⟨_,_,rfl⟩
 have hf:=tog_f hs s o.f0 o.f1 hv
 by_cases hc : c = 0
 ·subst hc
  obtain ⟨hm,y2,y4,y5,y6,y7,y8⟩:=togV_ok hv
  have hr:=(Qbh _).1 hm
  have hp:=hy y hr y2 y6 y7 y8
  have hs2:=(ht.snoc (tog_tiny y4 y5)).smalls (by rw [List.length_append,List.length_singleton]; exact hl2)
  have hT:=doc_Text_ok hs2 hr
  rw [hp] at hT
  have hlen : M.length + ([(⟨y.f0,y.f1,y.f2,⟨y.f3.f0,y.f3.f1,y.f3.f2⟩,y.f4,y.f5,y.f6,y.f7,y.f8⟩ : SOp)] : List SOp).length < 1256584717458:=by rw [List.length_singleton]; exact hl4
  refine Ev.step (fun k => by simp only [w7_EditLands.j4]; rw [if_neg (by decide),hsite,hf,Option.bind_some,num7_f,Option.bind_some,if_pos rfl]) (Ev.bind (CopyOps_ev M hl3 (tiny_long ht)) ?_)
  refine Ev.congr (fun k => ?_) hnext
  simp only [Option.bind_some]
  rw [if_pos hlen,hT,Option.bind_some,num7_f,Option.bind_some,if_pos rfl,if_pos rfl]
 ·refine Ev.step (fun k => ?_) hnext
  simp only [w7_EditLands.j4]
  rw [if_neg (by decide),hsite,hf,Option.bind_some,num7_f,Option.bind_some,if_neg hc]
theorem EL_j3 (x3 : Int) {L : List SOp} (x5 : ByteArray) (rs : List Int) (q s : Int) (want : ByteArray) {M : List SOp} (o : SOp) (ht : Tiny M) (hl : M.length <= 997)
  (hx : ∀ x : SOp,RowOk (M ++ [x]) -> x.f2 = 2 -> x.f6 = o.f0 -> x.f7 = o.f1 -> x.f8 = cntR M o.f0 o.f1 -> Qbk (M ++ [x]) = x5 /\
   ∀ y : SOp,RowOk (M ++ [x] ++ [y]) -> y.f2 = 2 -> y.f6 = o.f0 -> y.f7 = o.f1 -> y.f8 = cntR (M ++ [x]) o.f0 o.f1 -> Qbk (M ++ [x] ++ [y]) = want)
  (hnext : Ev (fun k => w7_EditLands.l1 k x3 L x5 rs (wrap64 (q + 1)) l0 l1 l2 l3) true) :
  Ev (fun k => w7_EditLands.j3 k x3 L x5 rs q s M want false l0 l1 l2 l3 o.f0 o.f1 o.f2 o.f3.f0 o.f3.f1 o.f3.f2 o.f4 o.f5 o.f6 o.f7 o.f8) true:=by
 have hl1 : M.length <= 1000:=by omega
 have hl2 : M.length + 1 <= 1000:=by omega
 have hl3 : M.length <= 1000000:=by omega
 have hl4 : M.length + 1 < 1256584717458:=by omega
 have hl5 : M.length + 1 <= 998:=by omega
 have hs:=ht.smalls hl1
 obtain ⟨x,c,hv⟩ : ∃ x c,togV M s o.f0 o.f1 = (x,c):=⟨_,_,rfl⟩
 have hf:=tog_f hs s o.f0 o.f1 hv
 by_cases hc : c = 0
 ·subst hc
  obtain ⟨hm,y2,y4,y5,y6,y7,y8⟩:=togV_ok hv
  have hr:=(Qbh _).1 hm
  obtain ⟨hp,hy⟩:=hx x hr y2 y6 y7 y8
  have ht2:=ht.snoc (tog_tiny y4 y5)
  have hs2:=ht2.smalls (by rw [List.length_append,List.length_singleton]; exact hl2)
  have hT:=doc_Text_ok hs2 hr
  rw [hp] at hT
  have hlen : M.length + ([(⟨x.f0,x.f1,x.f2,⟨x.f3.f0,x.f3.f1,x.f3.f2⟩,x.f4,x.f5,x.f6,x.f7,x.f8⟩ : SOp)] : List SOp).length < 1256584717458:=by rw [List.length_singleton]; exact hl4
  refine Ev.step (fun k => by simp only [w7_EditLands.j3]; rw [if_neg (by decide),hf,Option.bind_some,num7_f,Option.bind_some,if_pos rfl]) (Ev.bind (CopyOps_ev M hl3 (tiny_long ht)) ?_)
  refine Ev.congr (fun k => ?_) (EL_j4 x3 x5 rs q want o ht2 (by rw [List.length_append,List.length_singleton]; exact hl5) hy hnext)
  simp only [Option.bind_some]
  rw [if_pos hlen,hT,Option.bind_some,num7_f,Option.bind_some,if_pos rfl,bne_self_eq_false]
 ·refine Ev.step (fun k => ?_) hnext
  simp only [w7_EditLands.j3]
  rw [if_neg (by decide),hf,Option.bind_some,num7_f,Option.bind_some,if_neg hc]
theorem four_texts (q : Nat) : ∃ t : ByteArray,rdOf ByteArray.empty ([(⟨#[]⟩ : ByteArray),(⟨#[113]⟩ : ByteArray),(⟨#[117,118]⟩ : ByteArray),(⟨#[230,151,165]⟩ : ByteArray)] : List ByteArray) (Int.tmod (q : Int) 4) = t /\ t.size <= 4 /\ runesBytes (Qat t) = t:=by
 have hm : Int.tmod (q : Int) 4 = ((q % 4 : Nat) : Int):=by rw [Int.tmod_eq_emod_of_nonneg (by omega)]; rfl
 have hk:=Nat.mod_lt q (show 4 > 0 by omega)
 rw [hm]
 generalize q % 4 = k at hk
 rcases k with _ | _ | _ | _ | k
 ·exact ⟨_,rfl,by decide +kernel,by decide +kernel⟩
 ·exact ⟨_,rfl,by decide +kernel,by decide +kernel⟩
 ·exact ⟨_,rfl,by decide +kernel,by decide +kernel⟩
 ·exact ⟨_,rfl,by decide +kernel,by decide +kernel⟩
 ·omega
theorem cut_sizes (rs : List Int) (hl : rs.length <= 200) (t : ByteArray) (ht : t.size <= 4) (a b : Nat) : (runesBytes (rs.take a)).size + t.size <= 9223372036854775807 /\ (runesBytes (rs.take a) ++ t).size + (runesBytes (rs.drop b)).size <= 9223372036854775807:=by
 have h1:=bytes_le (rs.take a)
 have h2:=bytes_le (rs.drop b)
 rw [List.length_take] at h1
 rw [List.length_drop] at h2
 rw [ByteArray.size_append]
 omega
theorem rep_tiny {L : List SOp} {s : Int} {a n : Nat} {t : ByteArray} (h : RowOk L) (ha : a + n <= (Qan L).length) (ht : t.size <= 4) : tiny (repO L s a n t):=by
 have h2:=seen_len h
 have h3 : n <= 1000:=by omega
 have hg:=(rep_gone h (s:=s) (t:=t) ha).2.1
 exact ⟨Nat.le_trans (show (repO L s a n t).f4.size <= 4 from ht) (by decide),by rw [hg]; exact h3⟩
theorem rep_all {L : List SOp} {s : Int} {a n : Nat} {t : ByteArray} (h : RowOk L) (hr : RowOk (L ++ [repO L s a n t])) (ha : a + n <= (Qan L).length) (htb : runesBytes (Qat t) = t) :
  ∃ o : SOp,o = repO L s a n t /\ NextOk L o /\ o.f2 = 1 /\ Qbk (L ++ [o]) = runesBytes (((Qan L).map (atR L)).take a) ++ t ++ runesBytes (((Qan L).map (atR L)).drop (a + n)):=by
 refine ⟨_,rfl,hr.snoc_inv.2,rfl, ?_⟩
 rw [rep_text h hr.snoc_inv.2 ha,htb]
theorem tog_two {L : List SOp} {o : SOp} (h : RowOk L) (hn : NextOk L o) (h1 : o.f2 = 1) : ∀ x : SOp,RowOk (L ++ [o] ++ [x]) -> x.f2 = 2 -> x.f6 = o.f0 -> x.f7 = o.f1 -> x.f8 = cntR (L ++ [o]) o.f0 o.f1 -> Qbk (L ++ [o] ++ [x]) = Qbk L /\
   ∀ y : SOp,RowOk (L ++ [o] ++ [x] ++ [y]) -> y.f2 = 2 -> y.f6 = o.f0 -> y.f7 = o.f1 -> y.f8 = cntR (L ++ [o] ++ [x]) o.f0 o.f1 -> Qbk (L ++ [o] ++ [x] ++ [y]) = Qbk (L ++ [o]):=by
 intro x hx x2 x6 x7 x8
 have h0 : cntR (L ++ [o]) o.f0 o.f1 = 0:=by rw [cnt_other (by omega),cnt_fresh h (hn.fresh h)]
 rw [h0] at x8
 have hnx:=hx.snoc_inv.2
 refine ⟨und_text h hn h1 hnx x2 x6 x7 x8,fun y hy y2 y6 y7 y8 => ?_⟩
 have hc:=(und_cnt h hn h1 x2 x6 x7 x8).1
 rw [hc] at y8
 exact redo_text h hn h1 hnx x2 x6 x7 x8 hy.snoc_inv.2 y2 y6 y7 y8
theorem wplus {a n m : Nat} (h : a + n <= m) (hm : m <= 200) : wrap64 ((a : Int) + (n : Int)) = ((a + n : Nat) : Int) /\ (0 : Int) <= ((a + n : Nat) : Int) /\ ((a + n : Nat) : Int) <= (m : Int) /\ (0 : Int) <= (a : Int) /\ (a : Int) <= (m : Int):=⟨by rw [Qak (by omega) (by omega)]; omega,by omega,by omega,by omega,by omega⟩
theorem EL_rest (x3 : Int) {L : List SOp} (ht : Tiny L) (h : RowOk L) (rs : List Int) (hrs : rs = (Qan L).map (atR L)) (q : Nat) (s : Int) {a n : Nat} (ha : a + n <= (Qan L).length) {t : ByteArray} (hts : t.size <= 4) {o : SOp} (hn : NextOk L o) (h1 : o.f2 = 1) (tO : tiny o) (hpl : Qbk (L ++ [o]) = runesBytes (rs.take a) ++ t ++ runesBytes (rs.drop (a + n)))
  (hnext : Ev (fun k => w7_EditLands.l1 k x3 L (Qbk L) rs (wrap64 ((q : Int) + 1)) l0 l1 l2 l3) true) :
  Ev (fun k => (some ([(⟨o.f0,o.f1,o.f2,⟨o.f3.f0,o.f3.f1,o.f3.f2⟩,o.f4,o.f5,o.f6,o.f7,o.f8⟩ : SOp)] : List SOp)).bind fun y644 => if L.length + y644.length < 1256584717458 then ((some (L ++ y644 : List (SOp))).bind fun y647 => ((doc_Text.f y647).bind fun bt650 => (if 0 <= (a : Int) then (if (a : Int) <= (rs.length : Int) then ((r1_Make.f k (rs.take (a : Int).toNat)).bind fun t657 => (if t657.size + t.size <= 9223372036854775807 then (if 0 <= (wrap64 ((a : Int) + (n : Int))) then (if (wrap64 ((a : Int) + (n : Int))) <= (rs.length : Int) then ((r1_Make.f k (rs.drop ((wrap64 ((a : Int) + (n : Int))) : Int).toNat)).bind fun t663 => (if (t657 ++ t).size + t663.size <= 9223372036854775807 then ((w7_num.f bt650.2).bind fun t664 => (if t664 = 0 then (w7_EditLands.j3 k x3 L (Qbk L) rs (q : Int) s y647 ((t657 ++ t) ++ t663) (bt650.1.toList != ((t657 ++ t) ++ t663).toList) l0 l1 l2 l3 o.f0 o.f1 o.f2 o.f3.f0 o.f3.f1 o.f3.f2 o.f4 o.f5 o.f6 o.f7 o.f8) else (w7_EditLands.j3 k x3 L (Qbk L) rs (q : Int) s y647 ((t657 ++ t) ++ t663) true l0 l1 l2 l3 o.f0 o.f1 o.f2 o.f3.f0 o.f3.f1 o.f3.f2 o.f4 o.f5 o.f6 o.f7 o.f8))) else (none))) else (none)) else (none)) else (none))) else (none)) else (none)))) else (none)) true:=by
 have h40:=h.sums.1
 have h200:=seen_len h
 have hrl : rs.length = (Qan L).length:=by rw [hrs,List.length_map]
 have hr:=RowOk.snoc h hn
 have ht2:=ht.snoc tO
 have hl2 : L.length + 1 <= 1000:=by omega
 have hl3 : L.length + 1 <= 997:=by omega
 have hl4 : L.length + 1 < 1256584717458:=by omega
 have hr2 : rs.length <= 200:=by omega
 have hr1 : rs.length <= 1000:=by omega
 have hs2:=ht2.smalls (by rw [List.length_append,List.length_singleton]; exact hl2)
 have hT:=doc_Text_ok hs2 hr
 have hlen : L.length + ([(⟨o.f0,o.f1,o.f2,⟨o.f3.f0,o.f3.f1,o.f3.f2⟩,o.f4,o.f5,o.f6,o.f7,o.f8⟩ : SOp)] : List SOp).length < 1256584717458:=by rw [List.length_singleton]; exact hl4
 obtain ⟨w1,w2,w3,w4,w5⟩:=wplus (m:=rs.length) (by rw [hrl]; exact ha) hr2
 obtain ⟨z1,z2⟩:=cut_sizes rs hr2 t hts a (a + n)
 have hj:=EL_j3 (l0:=l0) (l1:=l1) (l2:=l2) (l3:=l3) x3 (L:=L) (Qbk L) rs (q : Int) s (Qbk (L ++ [o])) o ht2 (by rw [List.length_append,List.length_singleton]; exact hl3) (tog_two h hn h1) hnext
 rw [hpl] at hj hT
 refine Ev.congr (fun k => by simp only [Option.bind_some]; rw [if_pos hlen,hT,Option.bind_some,if_pos w4,if_pos w5,Int.toNat_natCast]) (Ev.bind (Make_ev (rs.take a) (Nat.le_trans (by rw [List.length_take]; exact Nat.min_le_right _ _) hr1)) ?_)
 refine Ev.congr (fun k => by rw [if_pos z1,w1,if_pos w2,if_pos w3,Int.toNat_natCast]) (Ev.bind (Make_ev (rs.drop (a + n)) (Nat.le_trans (by rw [List.length_drop]; exact Nat.sub_le _ _) hr1)) ?_)
 refine Ev.congr (fun k => ?_) hj
 rw [if_pos z2,num7_f,Option.bind_some,if_pos rfl,bne_self_eq_false]
theorem EL_l1 {i : Nat} (hi : i < 4) (hn3 : l3.length <= 900) {L : List SOp} (ht : Tiny L) (h : RowOk L) (rs : List Int) (hrs : rs = (Qan L).map (atR L)) (hnext : Ev (fun k => w7_EditLands.l0 k (wrap64 ((i : Int) + 1)) l0 l1 l2 l3) true) :
  ∀ (d q : Nat),q + d = 8 -> Ev (fun k => w7_EditLands.l1 k (i : Int) L (Qbk L) rs (q : Int) l0 l1 l2 l3) true
 | 0,q,hq => Ev.step (fun k => by simp only [w7_EditLands.l1]; rw [if_neg (by omega)]) hnext
 | d + 1,q,hq => by
  have ih:=EL_l1 hi hn3 ht h rs hrs hnext d (q + 1) (by omega)
  have h40:=h.sums.1
  have h200:=seen_len h
  have hrl : rs.length = (Qan L).length:=by rw [hrs,List.length_map]
  have hl3 : L.length <= 1000000:=by omega
  have hs:=ht.smalls (by omega)
  have hw : wrap64 ((q : Int) + 1) = ((q + 1 : Nat) : Int):=by rw [Qak (by omega) (by omega)]; omega
  rw [<- hw] at ih
  obtain ⟨a,hA,hal⟩ : ∃ a : Nat,w0_Within.f (wrap64 ((wrap64 ((q : Int) * 3)) + (l3.length : Int))) (wrap64 ((rs.length : Int) + 1)) = some (a : Int) /\ a <= rs.length:=by
   have e1 : wrap64 ((wrap64 ((q : Int) * 3)) + (l3.length : Int)) = ((q * 3 + l3.length : Nat) : Int):=by rw [Qak (i:=(q : Int) * 3) (by omega) (by omega),Qak (by omega) (by omega)]; omega
   have e2 : wrap64 ((rs.length : Int) + 1) = ((rs.length + 1 : Nat) : Int):=by rw [Qak (by omega) (by omega)]; omega
   refine ⟨_,by rw [e1,e2]; exact within_f (by omega) (by omega) (by omega), ?_⟩
   have:=Nat.mod_lt (q * 3 + l3.length) (show rs.length + 1 > 0 by omega)
   omega
  obtain ⟨n,hN,hnl⟩ : ∃ n : Nat,w0_Within.f (wrap64 ((wrap64 ((q : Int) * 5)) + (i : Int))) (wrap64 ((wrap64 ((rs.length : Int) - (a : Int))) + 1)) = some (n : Int) /\ a + n <= rs.length:=by
   have e1 : wrap64 ((wrap64 ((q : Int) * 5)) + (i : Int)) = ((q * 5 + i : Nat) : Int):=by rw [Qak (i:=(q : Int) * 5) (by omega) (by omega),Qak (by omega) (by omega)]; omega
   have e2 : wrap64 ((wrap64 ((rs.length : Int) - (a : Int))) + 1) = ((rs.length - a + 1 : Nat) : Int):=by rw [Qak (i:=(rs.length : Int) - (a : Int)) (by omega) (by omega),Qak (by omega) (by omega)]; omega
   refine ⟨_,by rw [e1,e2]; exact within_f (by omega) (by omega) (by omega), ?_⟩
   have:=Nat.mod_lt (q * 5 + i) (show rs.length - a + 1 > 0 by omega)
   omega
  have hq8 : (q : Int) < 8:=by omega
  have hm4 : Int.tmod (q : Int) 4 = ((q % 4 : Nat) : Int):=by rw [Int.tmod_eq_emod_of_nonneg (by omega)]; rfl
  have h41 : 0 <= Int.tmod (q : Int) 4:=by rw [hm4]; omega
  have h42 : Int.tmod (q : Int) 4 < (([(⟨#[]⟩ : ByteArray),(⟨#[113]⟩ : ByteArray),(⟨#[117,118]⟩ : ByteArray),(⟨#[230,151,165]⟩ : ByteArray)] : List ByteArray).length : Int):=by rw [hm4]; show ((q % 4 : Nat) : Int) < 4; omega
  obtain ⟨t,htq,hts,htb⟩:=four_texts q
  generalize hsite : wrap64 (1 + (Int.tmod (q : Int) 3)) = s
  have hal2 : a + n <= (Qan L).length:=by rw [<- hrl]; exact hnl
  have hts6 : t.size <= 1000000:=Nat.le_trans hts (by decide)
  obtain ⟨o,c,hv⟩ : ∃ o c,repV L s (a : Int) (n : Int) t = (o,c):=⟨_,_,rfl⟩
  have hf:=rep_f hs s (a : Int) (n : Int) hts6 hv
  by_cases hc : c = 0
  ·subst hc
   obtain ⟨_,hm,ho,_⟩:=repV_ok hv
   rw [Int.toNat_natCast,Int.toNat_natCast] at hm ho
   have tO : tiny o:=by rw [ho]; exact rep_tiny h hal2 hts
   obtain ⟨o',ho',hno,h1,hpl⟩:=rep_all h ((Qbh _).1 hm) hal2 htb
   rw [<- ho] at ho'
   subst ho'
   rw [<- hrs] at hpl
   clear ho hm hv
   refine Ev.step (fun k => by simp only [w7_EditLands.l1]; rw [if_pos hq8,hA,Option.bind_some,hN,Option.bind_some]; simp only [Option.bind_some]; rw [if_pos h41,if_pos h42,htq,hsite,hf,Option.bind_some,num7_f,Option.bind_some,if_pos rfl]) (Ev.bind (CopyOps_ev L hl3 (tiny_long ht)) ?_)
   exact EL_rest (i : Int) ht h rs hrs q s hal2 hts hno h1 tO hpl ih
  ·refine Ev.step (fun k => ?_) ih
   simp only [w7_EditLands.l1]
   rw [if_pos hq8,hA,Option.bind_some,hN,Option.bind_some]
   simp only [Option.bind_some]
   rw [if_pos h41,if_pos h42,htq,hsite,hf,Option.bind_some,num7_f,Option.bind_some,if_neg hc]
theorem EL_end (x : Int) : Ev (fun k => w7_EditLands.j1 k x false l0 l1 l2 l3) true:=by
 have hR:=Row_ev [] ⟨Nat.zero_le _,fun o ho => by cases ho⟩
 rw [(Qbh []).2 RowOk.nil] at hR
 exact Ev.step (fun k => by simp only [w7_EditLands.j1]; rw [if_neg (by decide)]) (Ev.bind (f:=fun _ t => if t = true then (w7_wakes.f).bind fun t => some t else some false) hR (Ev.now _))
theorem EL_l0 (hg : GoodAsk l0 l1 l2 l3) (hsm : ∀ x ∈ l0,x.length <= 900 /\ Tiny x) (hn3 : l3.length <= 900) : ∀ d i,i + d = l0.length -> Ev (fun k => w7_EditLands.l0 k (i : Int) l0 l1 l2 l3) true
 | 0,i,h => by
  refine Ev.step (fun k => ?_) (EL_end (l0:=l0) (l1:=l1) (l2:=l2) (l3:=l3) (i : Int))
  simp only [w7_EditLands.l0]; rw [if_neg (by omega)]
 | d + 1,i,h => by
  have ih:=EL_l0 hg hsm hn3 d (i + 1) (by omega)
  have hn0:=hg.n0
  have hlt : i < l0.length:=by omega
  have hw : wrap64 ((i : Int) + 1) = ((i + 1 : Nat) : Int):=wrapS hlt (by omega)
  rw [<- hw] at ih
  by_cases h4 : (i : Int) < 4
  ·obtain ⟨hn,ht⟩:=hsm _ (List.getElem_mem hlt)
   have hs:=ht.smalls (by omega)
   refine Ev.step (f:=fun k => w7_EditLands.j1 k (i : Int) true l0 l1 l2 l3) (fun k => ?_) ?_
   ·simp only [w7_EditLands.l0]; rw [if_pos (by omega),Zd h4]
   ·cases hm : mayB l0[i]
    ·refine Ev.step (fun k => ?_) ih
     simp only [w7_EditLands.j1]
     rw [if_pos True.intro,if_pos (by omega),if_pos (by omega),rd_LOp_nat _ _ hlt,doc_Text_no hs hm,Option.bind_some,num7_f,Option.bind_some,if_neg (by decide)]
    ·have hr:=(Qbh _).1 hm
     have hR:=Runes_ev (Qbk l0[i]) (by have:=plain_size hr; omega)
     rw [if_pos (text_plain hr)] at hR
     refine Ev.step (fun k => by simp only [w7_EditLands.j1]; rw [if_pos True.intro,if_pos (by omega),if_pos (by omega),rd_LOp_nat _ _ hlt,doc_Text_ok hs hr,Option.bind_some,num7_f,Option.bind_some,if_pos rfl]) (Ev.bind hR ?_)
     exact EL_l1 (i:=i) (by omega) hn3 ht hr _ (runes_plain hr) ih 8 0 rfl
  ·refine Ev.step (fun k => ?_) (EL_end (l0:=l0) (l1:=l1) (l2:=l2) (l3:=l3) (i : Int))
   simp only [w7_EditLands.l0]; rw [if_pos (by omega),Ze h4]
end
theorem PureEditLands (l0 : List (List SOp)) (l1 : List SElem) (l2 : List SOp) (l3 : List Int) (hg : GoodAsk l0 l1 l2 l3) : ∃ k,w7_EditLands.f k l0 l1 l2 l3 = some true:=by
 obtain ⟨b,hb,hsm⟩:=Heavy_small2 hg
 refine Ev.rounds (Ev.bind (f:=fun k t => if t = true then some true else w7_EditLands.l0 k 0 l0 l1 l2 l3) hb ?_)
 cases b
 ·obtain ⟨k1,k2,k3,_⟩:=hsm rfl
  exact Ev.congr (fun k => if_neg (by decide)) (EL_l0 hg k1 k3 _ 0 (Nat.zero_add _))
 ·exact Ev.congr (fun k => if_pos rfl) (Ev.now true)
end
end Go.Proofs.YtlllghajjamdpaaGreatDoor.L
end
