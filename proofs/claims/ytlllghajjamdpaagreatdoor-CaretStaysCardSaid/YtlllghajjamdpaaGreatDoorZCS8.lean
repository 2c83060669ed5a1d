/- Part 8 of the proof that for every argument the law CaretStays answers true: a caret set at a place is there; what is near it has its place; what is written ahead of it moves it by so much, what is written right at it, or behind, does not -/
import Derived.Test.YtlllghajjamdpaaGreatDoorZCS7
import Derived.Shelf.SlSortCmp.NoneTotal
import Derived.Laws.IdiomStrings
import Derived.Laws.Cover4
section
namespace Go.Proofs.YtlllghajjamdpaaGreatDoor.L
open Go.RowKit Go.Proofs.YtlllghajjamdpaaGreatDoorW.PrintWords Go.Proofs.YtlllghajjamdpaaGreatDoorW.PrintLast Go.Proofs.YtlllghajjamdpaaGreatDoorW.PrintMore
set_option linter.unusedVariables false
set_option linter.unusedSimpArgs false
set_option maxHeartbeats 40000000
set_option maxRecDepth 1000000
section
def siteOk (s : Int) : Bool:=decide (1 <= s) && decide (s <= 8)
theorem Site_calls (s : Int) (W : World) : Calls Tryz.prog 45 #[.int .i64 s] W fun e w' => e = .returned (.bool (siteOk s)) /\ Below W.heap.size W w':=by
 refine (op_IsSite.calls s (siteOk s) W ?_).mono (fun e w' h => ⟨h.1,h.2.below⟩)
 unfold op_IsSite.f siteOk
 by_cases h : s >= 1
 ·rw [if_pos h,Zd (show 1 <= s from h),Bool.true_and]
 ·rw [if_neg h,Ze (show ¬ 1 <= s from h),Bool.false_and]
def badB (l0 : List SOp) (s : Int) (t : ByteArray) : Bool:=!mayB l0 || !siteOk s || !Qcf t
theorem Rep_bad (A0 : Option Addr) (c0 : Nat) (l0 : List SOp) (s a n : Int) (t : ByteArray) (w : World) (hr0 : Kd.C kOp w A0 l0.length l0) (hc0 : l0.length <= c0) (hsm : smalls l0 = true) (ht : t.size <= 1000000) (hbad : badB l0 s t = true) :
  Calls Tryz.prog 10 #[.slice A0 l0.length c0, .int .i64 s, .int .i64 a, .int .i64 n, .string t] w fun e w' => ∃ v7 : Value,e = .returned (.tuple #[.agg #[.int .i64 0, .int .i64 0, .int .i64 0, .int .i64 0, .int .i64 0, .int .i64 0, .string (⟨#[]⟩ : ByteArray),v7, .int .i64 0, .int .i64 0, .int .i64 0], .int .i64 1]) /\ RE w' w.heap.size v7 [] /\ Below w.heap.size w w':=by
 have hu32:=Tryz.underlying34
 have HB:=Zz.k (Below.refl w.heap.size w)
 have HC0:=Zz.k hc0
 have HT:=Zz.k ht
 have HR0:=Zz.k hr0
 have HSM:=Zz.k hsm
 have HMay:=Zz.k (fun W (hb : Below w.heap.size w W) => tree_May.calls A0 c0 l0 (mayB l0) W (Kd.C_below hr0 hb) hc0 (Qco hsm))
 have HSite:=Zz.k (fun W (_ : Below w.heap.size w W) => Site_calls s W)
 have HText:=Zz.k (fun W (_ : Below w.heap.size w W) => text_May.calls t (Qcf t) W rfl)
 clear hr0 hc0 hsm ht
 unfold badB at hbad
 cases hm : mayB l0
 ·rw [hm] at HMay
  clear hm hbad
  go_enter Tryz.func10,Tryz.ntmps10
  go_wp2_with (first | ((with_reducible refine Qad (N:=10) rfl ?_); refine bx 10 #[.int .i64 0, .int .i64 0, .int .i64 0, .int .i64 0, .int .i64 0, .int .i64 0, .string (⟨#[]⟩ : ByteArray), .slice none 0 0, .int .i64 0, .int .i64 0, .int .i64 0] 34 (h := ?_); intro gb1 hg w1 hbox hb; have BK1:=Zz.k hbox; have GE1:=Zz.k ((by rw [hg]; exact (Qai (bw HB)) : w.heap.size <= gb1)); replace HB:=bs HB hb; clear hb hbox hg) | ((with_reducible refine Qab (f:=44) rfl ?_); (try (refine Qal (by rfl) ?_; dsimp only)); refine gl (some 15) Tryz.func44 #[.slice A0 l0.length c0] (h := ?_); (refine (HMay.out _ (bw HB)).mono ?_); rintro e w2 ⟨rfl,hb⟩; refine ⟨_,rfl, ?_⟩; replace BK1:=bl BK1 hb; replace HB:=bs HB hb; clear hb; obtain ⟨_,_,_,_,_,_,_,_,_,_,_,_,_,_,_,_,_,_,_,_,_,_⟩:=kc11 BK1))
  refine bodyPost_ret (Qaw rfl _ _ gb1 34 #[.int .i64 0, .int .i64 0, .int .i64 0, .int .i64 0, .int .i64 0, .int .i64 0, .string (⟨#[]⟩ : ByteArray), .slice none 0 0, .int .i64 0, .int .i64 0, .int .i64 0] (0,0) _ rfl (bp11 (kk BK1)) hu32 rfl (by kernel_rfl)) rfl ?_
  exact ⟨_,rfl,Kd.R_nil _ _ _ _ _,bw HB⟩
 ·rw [hm,Bool.not_true,Bool.false_or] at hbad
  rw [hm] at HMay
  clear hm
  cases hs : siteOk s
  ·rw [hs] at HSite
   clear hs hbad
   go_enter Tryz.func10,Tryz.ntmps10
   go_wp2_with (first | ((with_reducible refine Qad (N:=10) rfl ?_); refine bx 10 #[.int .i64 0, .int .i64 0, .int .i64 0, .int .i64 0, .int .i64 0, .int .i64 0, .string (⟨#[]⟩ : ByteArray), .slice none 0 0, .int .i64 0, .int .i64 0, .int .i64 0] 34 (h := ?_); intro gb1 hg w1 hbox hb; have BK1:=Zz.k hbox; have GE1:=Zz.k ((by rw [hg]; exact (Qai (bw HB)) : w.heap.size <= gb1)); replace HB:=bs HB hb; clear hb hbox hg) | ((with_reducible refine Qab (f:=44) rfl ?_); (try (refine Qal (by rfl) ?_; dsimp only)); refine gl (some 15) Tryz.func44 #[.slice A0 l0.length c0] (h := ?_); (refine (HMay.out _ (bw HB)).mono ?_); rintro e w2 ⟨rfl,hb⟩; refine ⟨_,rfl, ?_⟩; replace BK1:=bl BK1 hb; replace HB:=bs HB hb; clear hb) | ((with_reducible refine Qab (f:=45) rfl ?_); (try (refine Qal (by rfl) ?_; dsimp only)); refine gl (some 19) Tryz.func45 #[.int .i64 s] (h := ?_); (refine (HSite.out _ (bw HB)).mono ?_); rintro e w2 ⟨rfl,hb⟩; refine ⟨_,rfl, ?_⟩; replace BK1:=bl BK1 hb; replace HB:=bs HB hb; clear hb; obtain ⟨_,_,_,_,_,_,_,_,_,_,_,_,_,_,_,_,_,_,_,_,_,_⟩:=kc11 BK1))
   refine bodyPost_ret (Qaw rfl _ _ gb1 34 #[.int .i64 0, .int .i64 0, .int .i64 0, .int .i64 0, .int .i64 0, .int .i64 0, .string (⟨#[]⟩ : ByteArray), .slice none 0 0, .int .i64 0, .int .i64 0, .int .i64 0] (0,0) _ rfl (bp11 (kk BK1)) hu32 rfl (by kernel_rfl)) rfl ?_
   exact ⟨_,rfl,Kd.R_nil _ _ _ _ _,bw HB⟩
  ·rw [hs,Bool.not_true,Bool.false_or,Bool.not_eq_true'] at hbad
   rw [hs] at HSite
   rw [hbad] at HText
   clear hs hbad
   go_enter Tryz.func10,Tryz.ntmps10
   go_wp2_with (first | ((with_reducible refine Qad (N:=10) rfl ?_); refine bx 10 #[.int .i64 0, .int .i64 0, .int .i64 0, .int .i64 0, .int .i64 0, .int .i64 0, .string (⟨#[]⟩ : ByteArray), .slice none 0 0, .int .i64 0, .int .i64 0, .int .i64 0] 34 (h := ?_); intro gb1 hg w1 hbox hb; have BK1:=Zz.k hbox; have GE1:=Zz.k ((by rw [hg]; exact (Qai (bw HB)) : w.heap.size <= gb1)); replace HB:=bs HB hb; clear hb hbox hg) | ((with_reducible refine Qab (f:=44) rfl ?_); (try (refine Qal (by rfl) ?_; dsimp only)); refine gl (some 15) Tryz.func44 #[.slice A0 l0.length c0] (h := ?_); (refine (HMay.out _ (bw HB)).mono ?_); rintro e w2 ⟨rfl,hb⟩; refine ⟨_,rfl, ?_⟩; replace BK1:=bl BK1 hb; replace HB:=bs HB hb; clear hb) | ((with_reducible refine Qab (f:=45) rfl ?_); (try (refine Qal (by rfl) ?_; dsimp only)); refine gl (some 19) Tryz.func45 #[.int .i64 s] (h := ?_); (refine (HSite.out _ (bw HB)).mono ?_); rintro e w2 ⟨rfl,hb⟩; refine ⟨_,rfl, ?_⟩; replace BK1:=bl BK1 hb; replace HB:=bs HB hb; clear hb) | ((with_reducible refine Qab (f:=46) rfl ?_); (try (refine Qal (by rfl) ?_; dsimp only)); refine gl (some 24) Tryz.func46 #[.string t] (h := ?_); (refine (HText.out _ (bw HB)).mono ?_); rintro e w2 ⟨rfl,hb⟩; refine ⟨_,rfl, ?_⟩; replace BK1:=bl BK1 hb; replace HB:=bs HB hb; clear hb; obtain ⟨_,_,_,_,_,_,_,_,_,_,_,_,_,_,_,_,_,_,_,_,_,_⟩:=kc11 BK1))
   refine bodyPost_ret (Qaw rfl _ _ gb1 34 #[.int .i64 0, .int .i64 0, .int .i64 0, .int .i64 0, .int .i64 0, .int .i64 0, .string (⟨#[]⟩ : ByteArray), .slice none 0 0, .int .i64 0, .int .i64 0, .int .i64 0] (0,0) _ rfl (bp11 (kk BK1)) hu32 rfl (by kernel_rfl)) rfl ?_
   exact ⟨_,rfl,Kd.R_nil _ _ _ _ _,bw HB⟩
def limB (l0 : List SOp) (a n : Int) (t : ByteArray) : Prop:=a < 0 \/ a > ((Qak l0).length : Int) \/ n < 0 \/ n > ((Qak l0).length : Int) - a \/ (Qaq t).length > 12
theorem Seen_at (A0 : Option Addr) (c0 : Nat) (l0 : List SOp) (W : World) (hr0 : Kd.C kOp W A0 l0.length l0) (hc0 : l0.length <= c0) (hsm : smalls l0 = true) (hm : mayB l0 = true) :
  Calls Tryz.prog 47 #[.slice A0 l0.length c0] W fun e w' => ∃ AS cS,e = .returned (.slice AS (Qak l0).length cS) /\ (Qak l0).length <= cS /\ Kd.C Qav w' AS (Qak l0).length (Qak l0) /\ Below W.heap.size W w':=by
 refine (doc_Seen.calls A0 c0 l0 (Qak l0) W hr0 hc0 (by unfold doc_Seen.f; exact if_pos ⟨hsm,hm⟩)).mono ?_
 rintro e w' ⟨v,rfl,hR,hb⟩
 obtain ⟨A,c,rfl,hc,hC⟩:=Kd.R_reads hR
 exact ⟨A,c,rfl,hc,hC,hb⟩
theorem Cnt_at (t : ByteArray) (W : World) (ht : t.size <= 1000000) : Calls Tryz.prog 48 #[.string t] W fun e w' => e = .returned (.int .i64 ((Qaq t).length : Int)) /\ Below W.heap.size W w':=utf8_RuneCountInString.calls t _ W (by unfold utf8_RuneCountInString.f; rw [if_pos (by omega)])
theorem seen_200 {L : List SOp} (h : RowOk L) : (Qak L).length <= 200:=Nat.le_trans (List.length_filter_le _ _) (by rw [(Qbs h).2]; exact h.sums.2)
theorem Rep_lim (A0 : Option Addr) (c0 : Nat) (l0 : List SOp) (s a n : Int) (t : ByteArray) (w : World) (hr0 : Kd.C kOp w A0 l0.length l0) (hc0 : l0.length <= c0) (hsm : smalls l0 = true) (ht : t.size <= 1000000) (hok : badB l0 s t = false) (hlim : limB l0 a n t) :
  Calls Tryz.prog 10 #[.slice A0 l0.length c0, .int .i64 s, .int .i64 a, .int .i64 n, .string t] w fun e w' => ∃ v7 : Value,e = .returned (.tuple #[.agg #[.int .i64 0, .int .i64 0, .int .i64 0, .int .i64 0, .int .i64 0, .int .i64 0, .string (⟨#[]⟩ : ByteArray),v7, .int .i64 0, .int .i64 0, .int .i64 0], .int .i64 2]) /\ RE w' w.heap.size v7 [] /\ Below w.heap.size w w':=by
 have hgood : mayB l0 = true /\ siteOk s = true /\ Qcf t = true:=by
  unfold badB at hok
  revert hok
  cases mayB l0 <;> cases siteOk s <;> cases Qcf t <;> simp
 obtain ⟨hm,hs,hx⟩:=hgood
 have HSeen:=Zz.k (fun W (hb : Below w.heap.size w W) => Seen_at A0 c0 l0 W (Kd.C_below hr0 hb) hc0 hsm hm)
 have HCnt:=Zz.k (fun W (_ : Below w.heap.size w W) => Cnt_at t W ht)
 have hle:=seen_200 ((Qbf l0).1 hm)
 have hu32:=Tryz.underlying34
 have HB:=Zz.k (Below.refl w.heap.size w)
 have HC0:=Zz.k hc0
 have HT:=Zz.k ht
 have HR0:=Zz.k hr0
 have HSM:=Zz.k hsm
 have HMay:=Zz.k (fun W (hb : Below w.heap.size w W) => tree_May.calls A0 c0 l0 (mayB l0) W (Kd.C_below hr0 hb) hc0 (Qco hsm))
 have HSite:=Zz.k (fun W (_ : Below w.heap.size w W) => Site_calls s W)
 have HText:=Zz.k (fun W (_ : Below w.heap.size w W) => text_May.calls t (Qcf t) W rfl)
 clear hr0 hc0 hsm ht
 rw [hm] at HMay
 rw [hs] at HSite
 rw [hx] at HText
 have HMB:=Zz.k (And.intro hm (And.intro hs hx))
 clear hm hs hx hok
 have hq : ∃ q : Nat,q = (Qaq t).length:=⟨_,rfl⟩
 obtain ⟨q,hq⟩:=hq
 have hk : ∃ k : Nat,k = (Qak l0).length:=⟨_,rfl⟩
 obtain ⟨k,hk⟩:=hk
 unfold limB at hlim
 rw [<- hq] at HCnt
 rw [<- hk] at hle HSeen
 rw [<- hq,<- hk] at hlim
 clear hq hk
 have c1 : a < 0 \/ (¬ a < 0 /\ a > (k : Int)) \/ (¬ a < 0 /\ ¬ a > (k : Int) /\ n < 0) \/ (¬ a < 0 /\ ¬ a > (k : Int) /\ ¬ n < 0 /\ n > (k : Int) - a) \/ (¬ a < 0 /\ ¬ a > (k : Int) /\ ¬ n < 0 /\ ¬ n > (k : Int) - a /\ ((q : Int) > 12)):=by omega
 clear hlim
 rcases c1 with h1 | ⟨h1,h2⟩ | ⟨h1,h2,h3⟩ | ⟨h1,h2,h3,h4⟩ | ⟨h1,h2,h3,h4,h5⟩
 ·go_enter Tryz.func10,Tryz.ntmps10
  go_wp2_with (first | ((with_reducible refine Qad (N:=10) rfl ?_); refine bx 10 #[.int .i64 0, .int .i64 0, .int .i64 0, .int .i64 0, .int .i64 0, .int .i64 0, .string (⟨#[]⟩ : ByteArray), .slice none 0 0, .int .i64 0, .int .i64 0, .int .i64 0] 34 (h := ?_); intro gb1 hg w1 hbox hb; have BK1:=Zz.k hbox; have GE1:=Zz.k ((by rw [hg]; exact (Qai (bw HB)) : w.heap.size <= gb1)); replace HB:=bs HB hb; clear hb hbox hg) | ((with_reducible refine Qab (f:=44) rfl ?_); (try (refine Qal (by rfl) ?_; dsimp only)); refine gl (some 15) Tryz.func44 #[.slice A0 l0.length c0] (h := ?_); (refine (HMay.out _ (bw HB)).mono ?_); rintro e w2 ⟨rfl,hb⟩; refine ⟨_,rfl, ?_⟩; replace BK1:=bl BK1 hb; replace HB:=bs HB hb; clear hb) | ((with_reducible refine Qab (f:=45) rfl ?_); (try (refine Qal (by rfl) ?_; dsimp only)); refine gl (some 19) Tryz.func45 #[.int .i64 s] (h := ?_); (refine (HSite.out _ (bw HB)).mono ?_); rintro e w2 ⟨rfl,hb⟩; refine ⟨_,rfl, ?_⟩; replace BK1:=bl BK1 hb; replace HB:=bs HB hb; clear hb) | ((with_reducible refine Qab (f:=46) rfl ?_); (try (refine Qal (by rfl) ?_; dsimp only)); refine gl (some 24) Tryz.func46 #[.string t] (h := ?_); (refine (HText.out _ (bw HB)).mono ?_); rintro e w2 ⟨rfl,hb⟩; refine ⟨_,rfl, ?_⟩; replace BK1:=bl BK1 hb; replace HB:=bs HB hb; clear hb) | ((with_reducible refine Qab (f:=47) rfl ?_); refine gl (some 29) Tryz.func47 #[.slice A0 l0.length c0] (h := ?_); (refine (HSeen.out _ (bw HB)).mono ?_); rintro e w2 ⟨AS,cS,rfl,hcS,hCS,hb⟩; refine ⟨_,rfl, ?_⟩; have HCS:=Zz.k hCS; have HcS:=Zz.k hcS; replace BK1:=bl BK1 hb; replace HB:=bs HB hb; clear hb hCS hcS; obtain ⟨_,_,_,_,_,_,_,_,_,_,_,_,_,_,_,_,_,_,_,_,_,_⟩:=kc11 BK1))
  refine bodyPost_ret (Qaw rfl _ _ gb1 34 #[.int .i64 0, .int .i64 0, .int .i64 0, .int .i64 0, .int .i64 0, .int .i64 0, .string (⟨#[]⟩ : ByteArray), .slice none 0 0, .int .i64 0, .int .i64 0, .int .i64 0] (0,0) _ rfl (bp11 (kk BK1)) hu32 rfl (by kernel_rfl)) rfl ?_
  exact ⟨_,rfl,Kd.R_nil _ _ _ _ _,bw HB⟩
 ·go_enter Tryz.func10,Tryz.ntmps10
  go_wp2_with (first | ((with_reducible refine Qad (N:=10) rfl ?_); refine bx 10 #[.int .i64 0, .int .i64 0, .int .i64 0, .int .i64 0, .int .i64 0, .int .i64 0, .string (⟨#[]⟩ : ByteArray), .slice none 0 0, .int .i64 0, .int .i64 0, .int .i64 0] 34 (h := ?_); intro gb1 hg w1 hbox hb; have BK1:=Zz.k hbox; have GE1:=Zz.k ((by rw [hg]; exact (Qai (bw HB)) : w.heap.size <= gb1)); replace HB:=bs HB hb; clear hb hbox hg) | ((with_reducible refine Qab (f:=44) rfl ?_); (try (refine Qal (by rfl) ?_; dsimp only)); refine gl (some 15) Tryz.func44 #[.slice A0 l0.length c0] (h := ?_); (refine (HMay.out _ (bw HB)).mono ?_); rintro e w2 ⟨rfl,hb⟩; refine ⟨_,rfl, ?_⟩; replace BK1:=bl BK1 hb; replace HB:=bs HB hb; clear hb) | ((with_reducible refine Qab (f:=45) rfl ?_); (try (refine Qal (by rfl) ?_; dsimp only)); refine gl (some 19) Tryz.func45 #[.int .i64 s] (h := ?_); (refine (HSite.out _ (bw HB)).mono ?_); rintro e w2 ⟨rfl,hb⟩; refine ⟨_,rfl, ?_⟩; replace BK1:=bl BK1 hb; replace HB:=bs HB hb; clear hb) | ((with_reducible refine Qab (f:=46) rfl ?_); (try (refine Qal (by rfl) ?_; dsimp only)); refine gl (some 24) Tryz.func46 #[.string t] (h := ?_); (refine (HText.out _ (bw HB)).mono ?_); rintro e w2 ⟨rfl,hb⟩; refine ⟨_,rfl, ?_⟩; replace BK1:=bl BK1 hb; replace HB:=bs HB hb; clear hb) | ((with_reducible refine Qab (f:=47) rfl ?_); refine gl (some 29) Tryz.func47 #[.slice A0 l0.length c0] (h := ?_); (refine (HSeen.out _ (bw HB)).mono ?_); rintro e w2 ⟨AS,cS,rfl,hcS,hCS,hb⟩; refine ⟨_,rfl, ?_⟩; have HCS:=Zz.k hCS; have HcS:=Zz.k hcS; replace BK1:=bl BK1 hb; replace HB:=bs HB hb; clear hb hCS hcS; obtain ⟨_,_,_,_,_,_,_,_,_,_,_,_,_,_,_,_,_,_,_,_,_,_⟩:=kc11 BK1))
  refine bodyPost_ret (Qaw rfl _ _ gb1 34 #[.int .i64 0, .int .i64 0, .int .i64 0, .int .i64 0, .int .i64 0, .int .i64 0, .string (⟨#[]⟩ : ByteArray), .slice none 0 0, .int .i64 0, .int .i64 0, .int .i64 0] (0,0) _ rfl (bp11 (kk BK1)) hu32 rfl (by kernel_rfl)) rfl ?_
  exact ⟨_,rfl,Kd.R_nil _ _ _ _ _,bw HB⟩
 ·go_enter Tryz.func10,Tryz.ntmps10
  go_wp2_with (first | ((with_reducible refine Qad (N:=10) rfl ?_); refine bx 10 #[.int .i64 0, .int .i64 0, .int .i64 0, .int .i64 0, .int .i64 0, .int .i64 0, .string (⟨#[]⟩ : ByteArray), .slice none 0 0, .int .i64 0, .int .i64 0, .int .i64 0] 34 (h := ?_); intro gb1 hg w1 hbox hb; have BK1:=Zz.k hbox; have GE1:=Zz.k ((by rw [hg]; exact (Qai (bw HB)) : w.heap.size <= gb1)); replace HB:=bs HB hb; clear hb hbox hg) | ((with_reducible refine Qab (f:=44) rfl ?_); (try (refine Qal (by rfl) ?_; dsimp only)); refine gl (some 15) Tryz.func44 #[.slice A0 l0.length c0] (h := ?_); (refine (HMay.out _ (bw HB)).mono ?_); rintro e w2 ⟨rfl,hb⟩; refine ⟨_,rfl, ?_⟩; replace BK1:=bl BK1 hb; replace HB:=bs HB hb; clear hb) | ((with_reducible refine Qab (f:=45) rfl ?_); (try (refine Qal (by rfl) ?_; dsimp only)); refine gl (some 19) Tryz.func45 #[.int .i64 s] (h := ?_); (refine (HSite.out _ (bw HB)).mono ?_); rintro e w2 ⟨rfl,hb⟩; refine ⟨_,rfl, ?_⟩; replace BK1:=bl BK1 hb; replace HB:=bs HB hb; clear hb) | ((with_reducible refine Qab (f:=46) rfl ?_); (try (refine Qal (by rfl) ?_; dsimp only)); refine gl (some 24) Tryz.func46 #[.string t] (h := ?_); (refine (HText.out _ (bw HB)).mono ?_); rintro e w2 ⟨rfl,hb⟩; refine ⟨_,rfl, ?_⟩; replace BK1:=bl BK1 hb; replace HB:=bs HB hb; clear hb) | ((with_reducible refine Qab (f:=47) rfl ?_); refine gl (some 29) Tryz.func47 #[.slice A0 l0.length c0] (h := ?_); (refine (HSeen.out _ (bw HB)).mono ?_); rintro e w2 ⟨AS,cS,rfl,hcS,hCS,hb⟩; refine ⟨_,rfl, ?_⟩; have HCS:=Zz.k hCS; have HcS:=Zz.k hcS; replace BK1:=bl BK1 hb; replace HB:=bs HB hb; clear hb hCS hcS; obtain ⟨_,_,_,_,_,_,_,_,_,_,_,_,_,_,_,_,_,_,_,_,_,_⟩:=kc11 BK1))
  refine bodyPost_ret (Qaw rfl _ _ gb1 34 #[.int .i64 0, .int .i64 0, .int .i64 0, .int .i64 0, .int .i64 0, .int .i64 0, .string (⟨#[]⟩ : ByteArray), .slice none 0 0, .int .i64 0, .int .i64 0, .int .i64 0] (0,0) _ rfl (bp11 (kk BK1)) hu32 rfl (by kernel_rfl)) rfl ?_
  exact ⟨_,rfl,Kd.R_nil _ _ _ _ _,bw HB⟩
 ·have hw1 : wrap64 ((k : Int) - a) = (k : Int) - a:=Qaj (by omega) (by omega)
  go_enter Tryz.func10,Tryz.ntmps10
  go_wp2_with (first | ((with_reducible refine Qad (N:=10) rfl ?_); refine bx 10 #[.int .i64 0, .int .i64 0, .int .i64 0, .int .i64 0, .int .i64 0, .int .i64 0, .string (⟨#[]⟩ : ByteArray), .slice none 0 0, .int .i64 0, .int .i64 0, .int .i64 0] 34 (h := ?_); intro gb1 hg w1 hbox hb; have BK1:=Zz.k hbox; have GE1:=Zz.k ((by rw [hg]; exact (Qai (bw HB)) : w.heap.size <= gb1)); replace HB:=bs HB hb; clear hb hbox hg) | ((with_reducible refine Qab (f:=44) rfl ?_); (try (refine Qal (by rfl) ?_; dsimp only)); refine gl (some 15) Tryz.func44 #[.slice A0 l0.length c0] (h := ?_); (refine (HMay.out _ (bw HB)).mono ?_); rintro e w2 ⟨rfl,hb⟩; refine ⟨_,rfl, ?_⟩; replace BK1:=bl BK1 hb; replace HB:=bs HB hb; clear hb) | ((with_reducible refine Qab (f:=45) rfl ?_); (try (refine Qal (by rfl) ?_; dsimp only)); refine gl (some 19) Tryz.func45 #[.int .i64 s] (h := ?_); (refine (HSite.out _ (bw HB)).mono ?_); rintro e w2 ⟨rfl,hb⟩; refine ⟨_,rfl, ?_⟩; replace BK1:=bl BK1 hb; replace HB:=bs HB hb; clear hb) | ((with_reducible refine Qab (f:=46) rfl ?_); (try (refine Qal (by rfl) ?_; dsimp only)); refine gl (some 24) Tryz.func46 #[.string t] (h := ?_); (refine (HText.out _ (bw HB)).mono ?_); rintro e w2 ⟨rfl,hb⟩; refine ⟨_,rfl, ?_⟩; replace BK1:=bl BK1 hb; replace HB:=bs HB hb; clear hb) | ((with_reducible refine Qab (f:=47) rfl ?_); refine gl (some 29) Tryz.func47 #[.slice A0 l0.length c0] (h := ?_); (refine (HSeen.out _ (bw HB)).mono ?_); rintro e w2 ⟨AS,cS,rfl,hcS,hCS,hb⟩; refine ⟨_,rfl, ?_⟩; have HCS:=Zz.k hCS; have HcS:=Zz.k hcS; replace BK1:=bl BK1 hb; replace HB:=bs HB hb; clear hb hCS hcS; obtain ⟨_,_,_,_,_,_,_,_,_,_,_,_,_,_,_,_,_,_,_,_,_,_⟩:=kc11 BK1))
  refine bodyPost_ret (Qaw rfl _ _ gb1 34 #[.int .i64 0, .int .i64 0, .int .i64 0, .int .i64 0, .int .i64 0, .int .i64 0, .string (⟨#[]⟩ : ByteArray), .slice none 0 0, .int .i64 0, .int .i64 0, .int .i64 0] (0,0) _ rfl (bp11 (kk BK1)) hu32 rfl (by kernel_rfl)) rfl ?_
  exact ⟨_,rfl,Kd.R_nil _ _ _ _ _,bw HB⟩
 ·have hw1 : wrap64 ((k : Int) - a) = (k : Int) - a:=Qaj (by omega) (by omega)
  go_enter Tryz.func10,Tryz.ntmps10
  go_wp2_with (first | ((with_reducible refine Qad (N:=10) rfl ?_); refine bx 10 #[.int .i64 0, .int .i64 0, .int .i64 0, .int .i64 0, .int .i64 0, .int .i64 0, .string (⟨#[]⟩ : ByteArray), .slice none 0 0, .int .i64 0, .int .i64 0, .int .i64 0] 34 (h := ?_); intro gb1 hg w1 hbox hb; have BK1:=Zz.k hbox; have GE1:=Zz.k ((by rw [hg]; exact (Qai (bw HB)) : w.heap.size <= gb1)); replace HB:=bs HB hb; clear hb hbox hg) | ((with_reducible refine Qab (f:=44) rfl ?_); (try (refine Qal (by rfl) ?_; dsimp only)); refine gl (some 15) Tryz.func44 #[.slice A0 l0.length c0] (h := ?_); (refine (HMay.out _ (bw HB)).mono ?_); rintro e w2 ⟨rfl,hb⟩; refine ⟨_,rfl, ?_⟩; replace BK1:=bl BK1 hb; replace HB:=bs HB hb; clear hb) | ((with_reducible refine Qab (f:=45) rfl ?_); (try (refine Qal (by rfl) ?_; dsimp only)); refine gl (some 19) Tryz.func45 #[.int .i64 s] (h := ?_); (refine (HSite.out _ (bw HB)).mono ?_); rintro e w2 ⟨rfl,hb⟩; refine ⟨_,rfl, ?_⟩; replace BK1:=bl BK1 hb; replace HB:=bs HB hb; clear hb) | ((with_reducible refine Qab (f:=46) rfl ?_); (try (refine Qal (by rfl) ?_; dsimp only)); refine gl (some 24) Tryz.func46 #[.string t] (h := ?_); (refine (HText.out _ (bw HB)).mono ?_); rintro e w2 ⟨rfl,hb⟩; refine ⟨_,rfl, ?_⟩; replace BK1:=bl BK1 hb; replace HB:=bs HB hb; clear hb) | ((with_reducible refine Qab (f:=47) rfl ?_); refine gl (some 29) Tryz.func47 #[.slice A0 l0.length c0] (h := ?_); (refine (HSeen.out _ (bw HB)).mono ?_); rintro e w2 ⟨AS,cS,rfl,hcS,hCS,hb⟩; refine ⟨_,rfl, ?_⟩; have HCS:=Zz.k hCS; have HcS:=Zz.k hcS; replace BK1:=bl BK1 hb; replace HB:=bs HB hb; clear hb hCS hcS) | ((with_reducible refine Qab (f:=48) rfl ?_); (try (refine Qal (by rfl) ?_; dsimp only)); refine gl (some 53) Tryz.func48 #[.string t] (h := ?_); (refine (HCnt.out _ (bw HB)).mono ?_); rintro e w2 ⟨rfl,hb⟩; refine ⟨_,rfl, ?_⟩; replace BK1:=bl BK1 hb; replace HB:=bs HB hb; clear hb; obtain ⟨_,_,_,_,_,_,_,_,_,_,_,_,_,_,_,_,_,_,_,_,_,_⟩:=kc11 BK1))
  refine bodyPost_ret (Qaw rfl _ _ gb1 34 #[.int .i64 0, .int .i64 0, .int .i64 0, .int .i64 0, .int .i64 0, .int .i64 0, .string (⟨#[]⟩ : ByteArray), .slice none 0 0, .int .i64 0, .int .i64 0, .int .i64 0] (0,0) _ rfl (bp11 (kk BK1)) hu32 rfl (by kernel_rfl)) rfl ?_
  exact ⟨_,rfl,Kd.R_nil _ _ _ _ _,bw HB⟩
theorem Rep_none (A0 : Option Addr) (c0 : Nat) (l0 : List SOp) (s a : Int) (t : ByteArray) (w : World) (hr0 : Kd.C kOp w A0 l0.length l0) (hc0 : l0.length <= c0) (hsm : smalls l0 = true) (ht : t.size <= 1000000) (hok : badB l0 s t = false) (hlim : ¬ limB l0 a 0 t) (hte : t.toList.isEmpty = true) :
  Calls Tryz.prog 10 #[.slice A0 l0.length c0, .int .i64 s, .int .i64 a, .int .i64 0, .string t] w fun e w' => ∃ v7 : Value,e = .returned (.tuple #[.agg #[.int .i64 0, .int .i64 0, .int .i64 0, .int .i64 0, .int .i64 0, .int .i64 0, .string (⟨#[]⟩ : ByteArray),v7, .int .i64 0, .int .i64 0, .int .i64 0], .int .i64 3]) /\ RE w' w.heap.size v7 [] /\ Below w.heap.size w w':=by
 have hgood : mayB l0 = true /\ siteOk s = true /\ Qcf t = true:=by
  unfold badB at hok
  revert hok
  cases mayB l0 <;> cases siteOk s <;> cases Qcf t <;> simp
 obtain ⟨hm,hs,hx⟩:=hgood
 have HSeen:=Zz.k (fun W (hb : Below w.heap.size w W) => Seen_at A0 c0 l0 W (Kd.C_below hr0 hb) hc0 hsm hm)
 have HCnt:=Zz.k (fun W (_ : Below w.heap.size w W) => Cnt_at t W ht)
 have hle:=seen_200 ((Qbf l0).1 hm)
 have hu32:=Tryz.underlying34
 have HB:=Zz.k (Below.refl w.heap.size w)
 have HC0:=Zz.k hc0
 have HT:=Zz.k ht
 have HR0:=Zz.k hr0
 have HSM:=Zz.k hsm
 have HMay:=Zz.k (fun W (hb : Below w.heap.size w W) => tree_May.calls A0 c0 l0 (mayB l0) W (Kd.C_below hr0 hb) hc0 (Qco hsm))
 have HSite:=Zz.k (fun W (_ : Below w.heap.size w W) => Site_calls s W)
 have HText:=Zz.k (fun W (_ : Below w.heap.size w W) => text_May.calls t (Qcf t) W rfl)
 clear hr0 hc0 hsm ht
 rw [hm] at HMay
 rw [hs] at HSite
 rw [hx] at HText
 have HMB:=Zz.k (And.intro hm (And.intro hs hx))
 clear hm hs hx hok
 have hq : ∃ q : Nat,q = (Qaq t).length:=⟨_,rfl⟩
 obtain ⟨q,hq⟩:=hq
 have hk : ∃ k : Nat,k = (Qak l0).length:=⟨_,rfl⟩
 obtain ⟨k,hk⟩:=hk
 unfold limB at hlim
 rw [<- hq] at HCnt
 rw [<- hk] at hle HSeen
 rw [<- hq,<- hk] at hlim
 have h1 : ¬ a < 0:=by omega
 have h2 : ¬ a > (k : Int):=by omega
 have h4 : ¬ (0 : Int) > (k : Int) - a:=by omega
 have h5 : ¬ (q : Int) > 12:=by omega
 have hw1 : wrap64 ((k : Int) - a) = (k : Int) - a:=Qaj (by omega) (by omega)
 clear hq hk hlim
 go_enter Tryz.func10,Tryz.ntmps10
 go_wp2_with (first | ((with_reducible refine Qad (N:=10) rfl ?_); refine bx 10 #[.int .i64 0, .int .i64 0, .int .i64 0, .int .i64 0, .int .i64 0, .int .i64 0, .string (⟨#[]⟩ : ByteArray), .slice none 0 0, .int .i64 0, .int .i64 0, .int .i64 0] 34 (h := ?_); intro gb1 hg w1 hbox hb; have BK1:=Zz.k hbox; have GE1:=Zz.k ((by rw [hg]; exact (Qai (bw HB)) : w.heap.size <= gb1)); replace HB:=bs HB hb; clear hb hbox hg) | ((with_reducible refine Qab (f:=44) rfl ?_); (try (refine Qal (by rfl) ?_; dsimp only)); refine gl (some 15) Tryz.func44 #[.slice A0 l0.length c0] (h := ?_); (refine (HMay.out _ (bw HB)).mono ?_); rintro e w2 ⟨rfl,hb⟩; refine ⟨_,rfl, ?_⟩; replace BK1:=bl BK1 hb; replace HB:=bs HB hb; clear hb) | ((with_reducible refine Qab (f:=45) rfl ?_); (try (refine Qal (by rfl) ?_; dsimp only)); refine gl (some 19) Tryz.func45 #[.int .i64 s] (h := ?_); (refine (HSite.out _ (bw HB)).mono ?_); rintro e w2 ⟨rfl,hb⟩; refine ⟨_,rfl, ?_⟩; replace BK1:=bl BK1 hb; replace HB:=bs HB hb; clear hb) | ((with_reducible refine Qab (f:=46) rfl ?_); (try (refine Qal (by rfl) ?_; dsimp only)); refine gl (some 24) Tryz.func46 #[.string t] (h := ?_); (refine (HText.out _ (bw HB)).mono ?_); rintro e w2 ⟨rfl,hb⟩; refine ⟨_,rfl, ?_⟩; replace BK1:=bl BK1 hb; replace HB:=bs HB hb; clear hb) | ((with_reducible refine Qab (f:=47) rfl ?_); refine gl (some 29) Tryz.func47 #[.slice A0 l0.length c0] (h := ?_); (refine (HSeen.out _ (bw HB)).mono ?_); rintro e w2 ⟨AS,cS,rfl,hcS,hCS,hb⟩; refine ⟨_,rfl, ?_⟩; have HCS:=Zz.k hCS; have HcS:=Zz.k hcS; replace BK1:=bl BK1 hb; replace HB:=bs HB hb; clear hb hCS hcS) | ((with_reducible refine Qab (f:=48) rfl ?_); (try (refine Qal (by rfl) ?_; dsimp only)); refine gl (some 53) Tryz.func48 #[.string t] (h := ?_); (refine (HCnt.out _ (bw HB)).mono ?_); rintro e w2 ⟨rfl,hb⟩; refine ⟨_,rfl, ?_⟩; replace BK1:=bl BK1 hb; replace HB:=bs HB hb; clear hb; obtain ⟨_,_,_,_,_,_,_,_,_,_,_,_,_,_,_,_,_,_,_,_,_,_⟩:=kc11 BK1))
 refine bodyPost_ret (Qaw rfl _ _ gb1 34 #[.int .i64 0, .int .i64 0, .int .i64 0, .int .i64 0, .int .i64 0, .int .i64 0, .string (⟨#[]⟩ : ByteArray), .slice none 0 0, .int .i64 0, .int .i64 0, .int .i64 0] (0,0) _ rfl (bp11 (kk BK1)) hu32 rfl (by kernel_rfl)) rfl ?_
 exact ⟨_,rfl,Kd.R_nil _ _ _ _ _,bw HB⟩
theorem Next_loop (l : List SOp) (hl : l.length <= 1000000) (s : Int) : ∀ d i (c : Nat),i + d = l.length -> c <= i + 1 -> Ev (fun k => edit_Next.l0 k s (c : Int) l (l.length : Int) (i : Int)) ((c + Qck (l.drop i) s : Nat) : Int)
 | 0,i,c,h,hc => Ev.step (f:=fun _ => some ((c + Qck (l.drop i) s : Nat) : Int)) (fun k => by
   simp only [edit_Next.l0]
   rw [if_neg (by omega),List.drop_of_length_le (by omega)]; rfl) (Ev.now _)
 | d + 1,i,c,h,hc => by
  have hi : i < l.length:=by omega
  have hw : wrap64 ((i : Int) + 1) = ((i + 1 : Nat) : Int):=by rw [Qaj (by omega) (by omega)]; omega
  have hwc : wrap64 ((c : Int) + 1) = ((c + 1 : Nat) : Int):=by rw [Qaj (by omega) (by omega)]; omega
  have hd : l.drop i = l[i] :: l.drop (i + 1):=List.drop_eq_getElem_cons hi
  have hcs : Qck (l.drop i) s = Qck (l.drop (i + 1)) s + if l[i].f0 = s then 1 else 0:=by
   rw [hd]; unfold Qck; rw [List.countP_cons]; simp
  by_cases hs : l[i].f0 = s
  ·have ih:=Next_loop l hl s d (i + 1) (c + 1) (by omega) (by omega)
   rw [hcs,if_pos hs,show c + (Qck (l.drop (i + 1)) s + 1) = c + 1 + Qck (l.drop (i + 1)) s by omega]
   refine Ev.step (fun k => ?_) ih
   simp only [edit_Next.l0]
   rw [if_pos (by omega),if_pos (by omega),if_pos (by omega),Qaz _ _ hi,if_pos hs,hw,hwc]
  ·have ih:=Next_loop l hl s d (i + 1) c (by omega) (by omega)
   rw [hcs,if_neg hs,Nat.add_zero]
   refine Ev.step (fun k => ?_) ih
   simp only [edit_Next.l0]
   rw [if_pos (by omega),if_pos (by omega),if_pos (by omega),Qaz _ _ hi,if_neg hs,hw]
theorem Next_at (A0 : Option Addr) (c0 : Nat) (l0 : List SOp) (s : Int) (W : World) (hr0 : Kd.C kOp W A0 l0.length l0) (hc0 : l0.length <= c0) (hl : l0.length <= 1000000) :
  Calls Tryz.prog 49 #[.slice A0 l0.length c0, .int .i64 s] W fun e w' => e = .returned (.int .i64 ((Qck l0 s + 1 : Nat) : Int)) /\ Below W.heap.size W w':=by
 obtain ⟨k,hk⟩:=(Next_loop l0 hl s l0.length 0 1 (Nat.zero_add _) (by omega)).rounds
 rw [List.drop_zero,Nat.add_comm] at hk
 exact edit_Next.calls k A0 c0 l0 s _ W hr0 hc0 hk
theorem Clone_at {A : Option Addr} {k cS a n : Nat} {v : List SElem} {W : World} (hC : Kd.C Qav W A k v) (hk : k = v.length) (hcs : k <= cS) (han : a + n <= k) (h6 : k <= 1000000) (m : Nat) (hm : m = n) (gv : List SElem) (hgv : gv = (v.drop a).take n) :
  Calls Tryz.prog 50 #[.slice (if cS = a then A else Option.map (fun x => x.add (a * 3)) A) m (cS - a)] W fun e w' => ∃ v',e = .returned v' /\ RE w' W.heap.size v' gv /\ Below W.heap.size W w':=by
 subst hk hm hgv
 have h:=Kd.C_mid (lo:=a) (hi:=a + m) (c:=cS) hC (by omega) han hcs
 have e : (v.take (a + m)).drop a = (v.drop a).take m:=by rw [List.drop_take]; congr 1; omega
 rw [e] at h
 have hl : ((v.drop a).take m).length = m:=by rw [List.length_take,List.length_drop]; omega
 have:=clone_calls (if cS = a then A else A.map (·.add (a * Qav.sz))) (cS - a) ((v.drop a).take m) W h (by rw [hl]; omega)
 rw [hl] at this
 exact this
abbrev put11 (W : World) (g : Nat) (v0 v1 v2 v3 v4 v5 v6 v7 v8 v9 v10 : Value) : World:=((((((((((W.setCell ⟨g,0,none⟩ v0).setCell ⟨g,1,none⟩ v1).setCell ⟨g,2,none⟩ v2).setCell ⟨g,3,none⟩ v3).setCell ⟨g,4,none⟩ v4).setCell ⟨g,5,none⟩ v5).setCell ⟨g,6,none⟩ v6).setCell ⟨g,7,none⟩ v7).setCell ⟨g,8,none⟩ v8).setCell ⟨g,9,none⟩ v9).setCell ⟨g,10,none⟩ v10
theorem put11_far {W : World} {g g1 : Nat} {t : TypeId} {cs : Array Value} (h : W.heap[g1]? = some (.cells cs t (0,0))) (hne : g1 ≠ g) (v0 v1 v2 v3 v4 v5 v6 v7 v8 v9 v10 : Value) : (put11 W g v0 v1 v2 v3 v4 v5 v6 v7 v8 v9 v10).heap[g1]? = some (.cells cs t (0,0)):=by
 exact Qcb (p:=⟨g,10,none⟩) (Qcb (p:=⟨g,9,none⟩) (Qcb (p:=⟨g,8,none⟩) (Qcb (p:=⟨g,7,none⟩) (Qcb (p:=⟨g,6,none⟩) (Qcb (p:=⟨g,5,none⟩) (Qcb (p:=⟨g,4,none⟩) (Qcb (p:=⟨g,3,none⟩) (Qcb (p:=⟨g,2,none⟩) (Qcb (p:=⟨g,1,none⟩) (Qcb (p:=⟨g,0,none⟩) h hne v0) hne v1) hne v2) hne v3) hne v4) hne v5) hne v6) hne v7) hne v8) hne v9) hne v10
theorem put11_below {n : Nat} {w W : World} {g : Nat} (h : Below n w W) (hg : n <= g) (v0 v1 v2 v3 v4 v5 v6 v7 v8 v9 v10 : Value) : Below n w (put11 W g v0 v1 v2 v3 v4 v5 v6 v7 v8 v9 v10):=by
 exact Below.setCell (Below.setCell (Below.setCell (Below.setCell (Below.setCell (Below.setCell (Below.setCell (Below.setCell (Below.setCell (Below.setCell (Below.setCell h hg v0) hg v1) hg v2) hg v3) hg v4) hg v5) hg v6) hg v7) hg v8) hg v9) hg v10
theorem put11_here {W : World} {g : Nat} {t : TypeId} {b0 b1 b2 b3 b4 b5 b6 b7 b8 b9 b10 : Value} (h : W.heap[g]? = some (.cells #[b0,b1,b2,b3,b4,b5,b6,b7,b8,b9,b10] t (0,0))) (v0 v1 v2 v3 v4 v5 v6 v7 v8 v9 v10 : Value) : (put11 W g v0 v1 v2 v3 v4 v5 v6 v7 v8 v9 v10).heap[g]? = some (.cells #[v0,v1,v2,v3,v4,v5,v6,v7,v8,v9,v10] t (0,0)):=bp11 h
theorem put11_R {W : World} {base g : Nat} {v : Value} {xs : List SElem} {cs : Array Value} (h : RE W base v xs) (hb : W.heap[g]? = some (.cells cs 34 (0,0))) (v0 v1 v2 v3 v4 v5 v6 v7 v8 v9 v10 : Value) : RE (put11 W g v0 v1 v2 v3 v4 v5 v6 v7 v8 v9 v10) base v xs :=
 Kd.R_mono (rf11 (Kd.R_types h hb (by decide))) (fun _ _ => trivial)
theorem case_after (a : Nat) (t : ByteArray) : (0 < a /\ t.toList.isEmpty = false) \/ t.toList.isEmpty = true \/ (t.toList.isEmpty = false /\ a = 0):=by
 cases h : t.toList.isEmpty
 ·rcases Nat.eq_zero_or_pos a with h0 | h0
  ·exact .inr (.inr ⟨rfl,h0⟩)
  ·exact .inl ⟨h0,rfl⟩
 ·exact .inr (.inl rfl)
theorem put3_far {W : World} {g g1 : Nat} {t : TypeId} {cs : Array Value} (h : W.heap[g1]? = some (.cells cs t (0,0))) (hne : g1 ≠ g) (v3 v4 v5 : Value) : (((W.setCell ⟨g,3,none⟩ v3).setCell ⟨g,4,none⟩ v4).setCell ⟨g,5,none⟩ v5).heap[g1]? = some (.cells cs t (0,0)):=Qcb (p:=⟨g,5,none⟩) (Qcb (p:=⟨g,4,none⟩) (Qcb (p:=⟨g,3,none⟩) h hne v3) hne v4) hne v5
theorem put3_below {n : Nat} {w W : World} {g : Nat} (h : Below n w W) (hg : n <= g) (v3 v4 v5 : Value) : Below n w (((W.setCell ⟨g,3,none⟩ v3).setCell ⟨g,4,none⟩ v4).setCell ⟨g,5,none⟩ v5):=Below.setCell (Below.setCell (Below.setCell h hg v3) hg v4) hg v5
theorem put3_here {W : World} {g : Nat} {t : TypeId} {b0 b1 b2 b3 b4 b5 b6 b7 b8 b9 b10 : Value} (h : W.heap[g]? = some (.cells #[b0,b1,b2,b3,b4,b5,b6,b7,b8,b9,b10] t (0,0))) (v3 v4 v5 : Value) : (((W.setCell ⟨g,3,none⟩ v3).setCell ⟨g,4,none⟩ v4).setCell ⟨g,5,none⟩ v5).heap[g]? = some (.cells #[b0,b1,b2,v3,v4,v5,b6,b7,b8,b9,b10] t (0,0)):=bp (bp (bp h 3) 4) 5
theorem put3_R {W : World} {base g : Nat} {v : Value} {xs : List SElem} {cs : Array Value} (h : RE W base v xs) (hb : W.heap[g]? = some (.cells cs 34 (0,0))) (v3 v4 v5 : Value) : RE (((W.setCell ⟨g,3,none⟩ v3).setCell ⟨g,4,none⟩ v4).setCell ⟨g,5,none⟩ v5) base v xs :=
 Kd.R_mono (Kd.R_far (p:=⟨g,5,none⟩) (Kd.R_far (p:=⟨g,4,none⟩) (Kd.R_far (p:=⟨g,3,none⟩) (Kd.R_types h hb (by decide)) (fun _ hk => hk.2) v3) (fun _ hk => hk.2) v4) (fun _ hk => hk.2) v5) (fun _ _ => trivial)
def RepPost (l0 : List SOp) (s : Int) (a n : Nat) (t : ByteArray) (b : Bool) (w : World) (e : Ending) (w' : World) : Prop:=∃ v7 : Value,(if b = true then e = .returned (.tuple #[.agg #[.int .i64 s, .int .i64 ((Qck l0 s + 1 : Nat) : Int), .int .i64 1, .int .i64 (repA l0 a t).f0, .int .i64 (repA l0 a t).f1, .int .i64 (repA l0 a t).f2, .string t,v7, .int .i64 0, .int .i64 0, .int .i64 0], .int .i64 0]) /\ RE w' w.heap.size v7 (repG l0 a n) else e = .returned (.tuple #[.agg #[.int .i64 0, .int .i64 0, .int .i64 0, .int .i64 0, .int .i64 0, .int .i64 0, .string (⟨#[]⟩ : ByteArray),v7, .int .i64 0, .int .i64 0, .int .i64 0], .int .i64 6]) /\ v7 = .slice none 0 0) /\ Below w.heap.size w w'
theorem sort_any {W : World} {base : Nat} {v : Value} {xs : List SElem} (h : RE W base v xs) (hl : xs.length <= 1000000) :
  Calls Tryz.prog 51 #[v, .func (.func 52) #[] #[]] W fun e w' => e = .returned (.tuple #[]) /\ RE w' base v (sortL xs) /\ ∃ row,W.grownBy w' row /\ ∀ k,row = some k -> v.ownBlock = some k:=by
 rcases Nat.eq_zero_or_pos xs.length with h0 | h0
 ·obtain rfl : xs = []:=List.eq_nil_of_length_eq_zero h0
  obtain ⟨A,c,rfl⟩:=Kd.R_slice h
  have hc:=AnyF.slices_SortFunc_none Tryz.sortEl A c (.func (.func 52) #[] #[]) W
  change Calls Tryz.prog 51 _ _ _ at hc
  refine hc.mono ?_
  rintro e w' ⟨rfl,rfl⟩
  have hs : sortL [] = []:=List.eq_nil_of_length_eq_zero (List.length_mergeSort _)
  exact ⟨rfl,by rw [hs]; exact h,none,World.grownBy.refl _ _,fun k hk => by cases hk⟩
 ·obtain ⟨g,c,rfl,hb,hlt,_⟩:=Kd.R_form h h0
  refine (sort_calls h hlt hl).mono ?_
  rintro e w' ⟨rfl,h1,h2⟩
  exact ⟨rfl,h1,some g,h2,fun k hk => hk⟩
theorem sort_keep {W w' : World} {base g : Nat} {v : Value} {xs : List SElem} {cs : Array Value} {row : Option Nat} (h : RE W base v xs) (hb : W.heap[g]? = some (.cells cs 34 (0,0))) (hg : W.grownBy w' row) (hr : ∀ k,row = some k -> v.ownBlock = some k) : w'.heap[g]? = some (.cells cs 34 (0,0)):=by
 have hne : some g ≠ row:=by
  intro e
  have h1:=(Kd.R_types h hb (by decide)).1 g (hr g e.symm)
  exact h1.2 rfl
 exact (hg.block g (blk_lt hb) hne).trans hb
theorem full_n (A0 : Option Addr) (c0 : Nat) (l0 : List SOp) (a0 a1 a2 a3 a4 a5 : Int) (a6 : ByteArray) (l7 : List SElem) (a8 a9 a10 : Int) (A7 : Option Addr) (m c7 : Nat) (hm7 : l7.length = m) (b : Bool) (w : World) (hr0 : Kd.C kOp w A0 l0.length l0) (hc0 : l0.length <= c0) (base : Nat) (hr7 : RE w base (.slice A7 m c7) l7) (hl : l0.length <= 1000000) (hsm : smalls (l0 ++ [⟨a0,a1,a2,⟨a3,a4,a5⟩,a6,l7,a8,a9,a10⟩]) = true) (hm : mayB (l0 ++ [⟨a0,a1,a2,⟨a3,a4,a5⟩,a6,l7,a8,a9,a10⟩]) = b) :
  Calls Tryz.prog 53 #[.slice A0 l0.length c0, .agg #[.int .i64 a0, .int .i64 a1, .int .i64 a2, .int .i64 a3, .int .i64 a4, .int .i64 a5, .string a6, .slice A7 m c7, .int .i64 a8, .int .i64 a9, .int .i64 a10]] w fun e w' =>
   (if b = true then e = .returned (.tuple #[.agg #[.int .i64 a0, .int .i64 a1, .int .i64 a2, .int .i64 a3, .int .i64 a4, .int .i64 a5, .string a6, .slice A7 m c7, .int .i64 a8, .int .i64 a9, .int .i64 a10], .int .i64 0]) else e = .returned (.tuple #[.agg #[.int .i64 0, .int .i64 0, .int .i64 0, .int .i64 0, .int .i64 0, .int .i64 0, .string (⟨#[]⟩ : ByteArray), .slice none 0 0, .int .i64 0, .int .i64 0, .int .i64 0], .int .i64 6])) /\ Below w.heap.size w w':=by
 subst hm7
 have h:=Kd.R_reads' hr7
 exact full_calls A0 c0 l0 a0 a1 a2 a3 a4 a5 a6 l7 a8 a9 a10 A7 c7 b w hr0 hc0 h.2.2 h.2.1 hl hsm hm
theorem exKe {P : Program} {ops : Array Oper} {Q : Exit -> Act -> World -> Prop} {S : World -> Prop} {F : Act -> World -> Prop} {K : Act -> World -> Prop} {oi : Oper} {a : Act} {w : World} {N : Option Tmp} (hK : Shut (∀ a' w',S w' -> (S w' -> F a' w') -> K a' w')) (u : Value) (w' : World) (hw : Region.wanted oi (yielded ops a.tmps) = true:=by rfl) (hN : oi.dst = N:=by rfl)
  (hrun : (execOp a.eval oi).run P w = .ok (.value u) w') (hS : S w') (h : S w' -> F (a.put N u) w') : if Region.wanted oi (yielded ops a.tmps) = true then Oper.wp P oi a w K Q else K (a.put N undef) w:=by
 rw [if_pos hw]
 unfold Oper.wp
 rw [hrun,Oper.upon_value,hN]
 exact hK.out _ w' hS h
theorem Rep_ok (A0 : Option Addr) (c0 : Nat) (l0 : List SOp) (s : Int) (a n : Nat) (t : ByteArray) (w : World) (hr0 : Kd.C kOp w A0 l0.length l0) (hc0 : l0.length <= c0) (hsm : smalls l0 = true) (ht : t.size <= 1000000) (hok : badB l0 s t = false) (hlim : ¬ limB l0 (a : Int) (n : Int) t) (hne : ¬ (n = 0 /\ t.toList.isEmpty = true)) (b : Bool) (hbb : mayB (l0 ++ [repO l0 s a n t]) = b) :
  Calls Tryz.prog 10 #[.slice A0 l0.length c0, .int .i64 s, .int .i64 (a : Int), .int .i64 (n : Int), .string t] w fun e w' => RepPost l0 s a n t b w e w':=by
 have HBB:=Zz.k hbb
 clear hbb
 obtain ⟨c1,hc1⟩ : ∃ c1 : Int,c1 = ((Qck l0 s + 1 : Nat) : Int):=⟨_,rfl⟩
 obtain ⟨gv,hgv⟩ : ∃ gv : List SElem,gv = ((Qak l0).drop a).take n:=⟨_,rfl⟩
 have HGV:=Zz.k hgv
 have HC1:=Zz.k hc1
 have HSN0:=Zz.k (fun x => smalls_snoc (o:=⟨s,c1,1,x,t,sortL gv,0,0,0⟩) hsm (by have:=((Qbf l0).1 (by unfold badB at hok; revert hok; cases mayB l0 <;> simp)).sums.1; omega) ht (by have h200:=seen_200 ((Qbf l0).1 (by unfold badB at hok; revert hok; cases mayB l0 <;> simp)); show (sortL _).length <= 1000000; unfold sortL; rw [List.length_mergeSort,hgv,List.length_take,List.length_drop]; omega))
 have hl40:=((Qbf l0).1 (by unfold badB at hok; revert hok; cases mayB l0 <;> simp)).sums.1
 have HL:=Zz.k (show l0.length <= 1000000 by omega)
 have HGL:=Zz.k (show gv.length <= 1000000 by have h200:=seen_200 ((Qbf l0).1 (by unfold badB at hok; revert hok; cases mayB l0 <;> simp)); rw [hgv,List.length_take,List.length_drop]; omega)
 have HRL:=Zz.k (show repG l0 a n = sortL gv by unfold repG; rw [hgv])
 have HNext:=Zz.k (fun W (hb : Below w.heap.size w W) => show Calls Tryz.prog 49 #[.slice A0 l0.length c0, .int .i64 s] W fun e w' => e = .returned (.int .i64 c1) /\ Below W.heap.size W w' by rw [hc1]; exact Next_at A0 c0 l0 s W (Kd.C_below hr0 hb) hc0 (by omega))
 clear hgv hc1
 have hgood : mayB l0 = true /\ siteOk s = true /\ Qcf t = true:=by
  unfold badB at hok
  revert hok
  cases mayB l0 <;> cases siteOk s <;> cases Qcf t <;> simp
 obtain ⟨hm,hs,hx⟩:=hgood
 have HSeen:=Zz.k (fun W (hb : Below w.heap.size w W) => Seen_at A0 c0 l0 W (Kd.C_below hr0 hb) hc0 hsm hm)
 have HCnt:=Zz.k (fun W (_ : Below w.heap.size w W) => Cnt_at t W ht)
 have hle:=seen_200 ((Qbf l0).1 hm)
 have hu32:=Tryz.underlying34
 have HB:=Zz.k (Below.refl w.heap.size w)
 have HC0:=Zz.k hc0
 have HT:=Zz.k ht
 have HR0:=Zz.k hr0
 have HSM:=Zz.k hsm
 have HMay:=Zz.k (fun W (hb : Below w.heap.size w W) => tree_May.calls A0 c0 l0 (mayB l0) W (Kd.C_below hr0 hb) hc0 (Qco hsm))
 have HSite:=Zz.k (fun W (_ : Below w.heap.size w W) => Site_calls s W)
 have HText:=Zz.k (fun W (_ : Below w.heap.size w W) => text_May.calls t (Qcf t) W rfl)
 clear hr0 hc0 hsm ht
 rw [hm] at HMay
 rw [hs] at HSite
 rw [hx] at HText
 have HMB:=Zz.k (And.intro hm (And.intro hs hx))
 clear hm hs hx hok
 have hq : ∃ q : Nat,q = (Qaq t).length:=⟨_,rfl⟩
 obtain ⟨q,hq⟩:=hq
 have hk : ∃ k : Nat,k = (Qak l0).length:=⟨_,rfl⟩
 obtain ⟨k,hk⟩:=hk
 unfold limB at hlim
 rw [<- hq] at HCnt
 rw [<- hk] at hle HSeen
 rw [<- hq,<- hk] at hlim
 have h1 : ¬ (a : Int) < 0:=by omega
 have h2 : ¬ (a : Int) > (k : Int):=by omega
 have h3 : ¬ (n : Int) < 0:=by omega
 have h4 : ¬ (n : Int) > (k : Int) - (a : Int):=by omega
 have h5 : ¬ (q : Int) > 12:=by omega
 have hw1 : wrap64 ((k : Int) - (a : Int)) = (k : Int) - (a : Int):=Qaj (by omega) (by omega)
 have HK:=Zz.k hk
 have HAN:=Zz.k (show a + n <= k by omega)
 have HLE:=Zz.k (show k <= 1000000 by omega)
 clear hq hk hlim
 go_enter Tryz.func10,Tryz.ntmps10
 go_upto_region 6 with (first | ((with_reducible refine Qad (N:=10) rfl ?_); refine bx 10 #[.int .i64 0, .int .i64 0, .int .i64 0, .int .i64 0, .int .i64 0, .int .i64 0, .string (⟨#[]⟩ : ByteArray), .slice none 0 0, .int .i64 0, .int .i64 0, .int .i64 0] 34 (h := ?_); intro gb1 hg w1 hbox hb; have BK1:=Zz.k hbox; have GE1:=Zz.k ((by rw [hg]; exact (Qai (bw HB)) : w.heap.size <= gb1)); replace HB:=bs HB hb; clear hb hbox hg) | ((with_reducible refine Qab (f:=44) rfl ?_); (try (refine Qal (by rfl) ?_; dsimp only)); refine gl (some 15) Tryz.func44 #[.slice A0 l0.length c0] (h := ?_); (refine (HMay.out _ (bw HB)).mono ?_); rintro e w2 ⟨rfl,hb⟩; refine ⟨_,rfl, ?_⟩; replace BK1:=bl BK1 hb; replace HB:=bs HB hb; clear hb) | ((with_reducible refine Qab (f:=45) rfl ?_); (try (refine Qal (by rfl) ?_; dsimp only)); refine gl (some 19) Tryz.func45 #[.int .i64 s] (h := ?_); (refine (HSite.out _ (bw HB)).mono ?_); rintro e w2 ⟨rfl,hb⟩; refine ⟨_,rfl, ?_⟩; replace BK1:=bl BK1 hb; replace HB:=bs HB hb; clear hb) | ((with_reducible refine Qab (f:=46) rfl ?_); (try (refine Qal (by rfl) ?_; dsimp only)); refine gl (some 24) Tryz.func46 #[.string t] (h := ?_); (refine (HText.out _ (bw HB)).mono ?_); rintro e w2 ⟨rfl,hb⟩; refine ⟨_,rfl, ?_⟩; replace BK1:=bl BK1 hb; replace HB:=bs HB hb; clear hb) | ((with_reducible refine Qab (f:=47) rfl ?_); refine gl (some 29) Tryz.func47 #[.slice A0 l0.length c0] (h := ?_); (refine (HSeen.out _ (bw HB)).mono ?_); rintro e w2 ⟨AS,cS,rfl,hcS,hCS,hb⟩; refine ⟨_,rfl, ?_⟩; have HCS:=Zz.k hCS; have HcS:=Zz.k hcS; replace BK1:=bl BK1 hb; replace HB:=bs HB hb; clear hb hCS hcS) | ((with_reducible refine Qab (f:=48) rfl ?_); (try (refine Qal (by rfl) ?_; dsimp only)); refine gl (some 53) Tryz.func48 #[.string t] (h := ?_); (refine (HCnt.out _ (bw HB)).mono ?_); rintro e w2 ⟨rfl,hb⟩; refine ⟨_,rfl, ?_⟩; replace HCS:=Zz.k (Kd.C_below HCS.out hb); replace BK1:=bl BK1 hb; replace HB:=bs HB hb; clear hb))
 go_cut [3,57] from 14 (fun s3 s57 wx => s3 = .int .i64 (n : Int) /\ s57 = .bool false /\ wx = w2)
 case first =>
  by_cases hn0 : (n : Int) = 0
  ·have ht0 : t.toList.isEmpty = false:=by
    cases ht : t.toList.isEmpty
    ·rfl
    ·exact absurd ⟨by omega,ht⟩ hne
   go_wp2
   go_meet
   case rel => exact ⟨by rw [hn0],rfl,rfl⟩
  ·go_wp2
   go_meet
   case rel => exact ⟨rfl,rfl,rfl⟩
 case rest =>
  clear hne
  obtain ⟨rfl,rfl,rfl⟩:=hcut
  go_upto_region 8 with (fail)
  go_cut [13] from 65 (fun s13 wx => ∃ (gbo : Nat) (AG : Option Addr) (cG : Nat),s13 = .pointer (some ⟨gbo,0,none⟩) /\ Zz (wx.heap[gbo]? = some (.cells #[.int .i64 s, .int .i64 c1, .int .i64 1, .int .i64 0, .int .i64 0, .int .i64 0, .string t, .slice AG gv.length cG, .int .i64 0, .int .i64 0, .int .i64 0] 34 (0,0))) /\ Zz (RE wx w.heap.size (.slice AG gv.length cG) gv) /\ Zz (wx.heap[gb1]? = some (.cells #[.int .i64 0, .int .i64 0, .int .i64 0, .int .i64 0, .int .i64 0, .int .i64 0, .string (⟨#[]⟩ : ByteArray), .slice none 0 0, .int .i64 0, .int .i64 0, .int .i64 0] 34 (0,0))) /\ Zz (Below w.heap.size w wx) /\ Zz (Kd.C Qav wx AS k (Qak l0)) /\ Zz (gb1 ≠ gbo) /\ Zz (gbo ≠ gb1) /\ Zz (w.heap.size <= gbo))
  case first =>
   have hwa : wrap64 ((a : Int) + (n : Int)) = (a : Int) + (n : Int):=Qaj (by omega) (by omega)
   have hwa0 : wrap64 (a : Int) = (a : Int):=Qaj (by omega) (by omega)
   have hcS:=HcS.out
   have hs1 : (0 : Int) <= (a : Int) + (n : Int):=by omega
   have hs2 : (a : Int) + (n : Int) <= (cS : Int):=by have:=HAN.out; omega
   have hs3 : (a : Int) <= (cS : Int):=by omega
   have hs4 : ((a : Int) + (n : Int)).toNat = a + n:=by omega
   refine stL (S:=fun _ => True) [14] 15 t_edit_Replace.bits8 t_edit_Replace.tab8 (hS:=trivial) (h:=fun hS HT HW => ?_)
   have HB8:=Zz.k (show Below w.heap.size w wc.drew from bw HB)
   replace BK1:=Zz.k (show wc.drew.heap[gb1]? = some _ from kk BK1)
   have HC8:=Zz.k (show Kd.C Qav wc.drew AS k (Qak l0) from HCS.out)
   clear HB HCS
   generalize wc.drew = wd at HB8 BK1 HC8 ⊢
   have HD:=Zz.k (Below.refl wd.heap.size wd)
   have HE8:=HC8
   refine pu HT 0 65 1 (h := ?_)
   refine pu HT 1 66 3 (h := ?_)
   refine pu HT 2 67 7 (h := ?_)
   refine pu HT 4 69 23 (h := ?_)
   refine pu HT 5 70 55 (h := ?_)
   refine pu HT 6 71 119 (h := ?_)
   refine pu HT 7 72 247 (h := ?_)
   refine pu HT 8 73 503 (h := ?_)
   refine pu HT 9 74 1015 (h := ?_)
   refine pu HT 10 75 2039 (h := ?_)
   refine two_ (i:=3) (j:=13) (Ni:=some 68) (Nj:=some 13) (bA 15 2047) (bA 15 10231) rfl rfl rfl rfl (two_of HT.out (by kernel_rfl)) (by decide) (by decide) (fun K hK => ?o1y) (fun K hK => ?o2y)
   case' o1y =>
    refine gS Tryz.func49 #[.slice A0 l0.length c0, .int .i64 s] (h := ?_)
    refine (HNext.out _ (Qam HB8.out (bw HD))).mono ?_
    rintro e w3 ⟨rfl,hb⟩
    replace HC8:=Zz.k (Kd.C_below HC8.out hb)
    replace BK1:=bl BK1 hb
    replace HD:=bs HD hb
    refine ⟨_,rfl, ?_⟩
    refine hK.out _ _ trivial (fun hS => ?_)
    clear hK hb
    refine nm (h := ?_)
    refine two_ (i:=11) (j:=13) (Ni:=some 76) (Nj:=some 13) (bA 15 4095) (bA 15 10239) rfl rfl rfl rfl (two_of HT.out (by kernel_rfl)) (by decide) (by decide) (fun K hK => ?o3y) (fun K hK => ?o4y)
   case' o3y =>
    refine gS Tryz.func50 #[.slice (if cS = a then AS else Option.map (fun x => x.add (a * 3)) AS) n (cS - a)] (h := ?_)
    refine (Clone_at HC8.out HK.out HcS.out HAN.out HLE.out n rfl gv HGV.out).mono ?_
    rintro e w4 ⟨v4,rfl,hR,hb⟩
    obtain ⟨AG,cG,rfl⟩:=Kd.R_slice hR
    have HRG:=Zz.k (Kd.R_lower hR (Qam HB8.out (bw HD)).size)
    replace BK1:=bl BK1 hb
    replace HD:=bs HD hb
    refine ⟨_,rfl, ?_⟩
    refine hK.out _ _ trivial (fun hS => ?_)
    clear hK hb hR HC8
    refine nm (h := ?_)
    refine pu HT 12 77 8191 (h := ?_)
    have hbox:=heap_alloc_new w4 (.cells #[.int .i64 0, .int .i64 0, .int .i64 0, .int .i64 0, .int .i64 0, .int .i64 0, .string (⟨#[]⟩ : ByteArray), .slice none 0 0, .int .i64 0, .int .i64 0, .int .i64 0] 34 (0,0))
    have hbb:=Qae (Below.refl w4.heap.size w4) (.cells #[.int .i64 0, .int .i64 0, .int .i64 0, .int .i64 0, .int .i64 0, .int .i64 0, .string (⟨#[]⟩ : ByteArray), .slice none 0 0, .int .i64 0, .int .i64 0, .int .i64 0] 34 (0,0))
    have GEo:=Zz.k (show wd.heap.size <= w4.heap.size from Qai (bw HD))
    have NBo1:=bn BK1 (show w4.heap.size = w4.heap.size from rfl)
    have NBo2:=bm BK1 (show w4.heap.size = w4.heap.size from rfl)
    refine exS HT 13 (some 13) 16383 (.pointer (some ⟨w4.heap.size,0,none⟩)) (w4.alloc (.cells #[.int .i64 0, .int .i64 0, .int .i64 0, .int .i64 0, .int .i64 0, .int .i64 0, .string (⟨#[]⟩ : ByteArray), .slice none 0 0, .int .i64 0, .int .i64 0, .int .i64 0] 34 (0,0))) (hrun:=by first | (go_simp; done) | (go_simp; rfl)) (hS:=trivial) (h:=fun hS => ?_)
    replace HRG:=Zz.k (Kd.R_below HRG.out hbb)
    replace BK1:=bl BK1 hbb
    replace HD:=bs HD hbb
    generalize w4.alloc (.cells #[.int .i64 0, .int .i64 0, .int .i64 0, .int .i64 0, .int .i64 0, .int .i64 0, .string (⟨#[]⟩ : ByteArray), .slice none 0 0, .int .i64 0, .int .i64 0, .int .i64 0] 34 (0,0)) = wa at hbox BK1 HD HRG ⊢
    generalize hgo : w4.heap.size = gbo at hbox NBo1 NBo2 ⊢
    replace GEo:=Zz.k (show wd.heap.size <= gbo by have:=GEo.out; omega)
    clear hgo
    have BKo:=Zz.k hbox
    clear hbox hbb
    refine nm (h := ?_)
    obtain ⟨_,_,_,_,_,_,_,_,_,_,_,_,_,_,_,_,_,_,_,_,_,_⟩:=kc11 BKo
    refine skL HT 14 32767 (put11 wa gbo (.int .i64 s) (.int .i64 c1) (.int .i64 1) (.int .i64 0) (.int .i64 0) (.int .i64 0) (.string t) (.slice AG gv.length cG) (.int .i64 0) (.int .i64 0) (.int .i64 0)) (hrun:=by first | (go_simp; done) | (go_simp; rfl)) (h := ?_)
    replace HD:=Zz.k (put11_below HD.out GEo.out (.int .i64 s) (.int .i64 c1) (.int .i64 1) (.int .i64 0) (.int .i64 0) (.int .i64 0) (.string t) (.slice AG gv.length cG) (.int .i64 0) (.int .i64 0) (.int .i64 0))
    replace HRG:=Zz.k (put11_R HRG.out BKo.out (.int .i64 s) (.int .i64 c1) (.int .i64 1) (.int .i64 0) (.int .i64 0) (.int .i64 0) (.string t) (.slice AG gv.length cG) (.int .i64 0) (.int .i64 0) (.int .i64 0))
    replace BK1:=Zz.k (put11_far BK1.out NBo1.out (.int .i64 s) (.int .i64 c1) (.int .i64 1) (.int .i64 0) (.int .i64 0) (.int .i64 0) (.string t) (.slice AG gv.length cG) (.int .i64 0) (.int .i64 0) (.int .i64 0))
    replace BKo:=Zz.k (put11_here BKo.out (.int .i64 s) (.int .i64 c1) (.int .i64 1) (.int .i64 0) (.int .i64 0) (.int .i64 0) (.string t) (.slice AG gv.length cG) (.int .i64 0) (.int .i64 0) (.int .i64 0))
    generalize put11 wa gbo (.int .i64 s) (.int .i64 c1) (.int .i64 1) (.int .i64 0) (.int .i64 0) (.int .i64 0) (.string t) (.slice AG gv.length cG) (.int .i64 0) (.int .i64 0) (.int .i64 0) = w8 at HD HRG BK1 BKo ⊢
    refine dn HT (h := ?_)
    clear HT HW hS
    generalize (if cS = a then AS else Option.map (fun x => x.add (a * 3)) AS) = AX
    go_wp2
    go_meet
    case rel => exact ⟨gbo,AG,cG,rfl,BKo,HRG,BK1,⟨Qam HB8.out HD.out⟩,⟨Kd.C_below HE8.out HD.out⟩,NBo1,NBo2,⟨Nat.le_trans HB8.out.size GEo.out⟩⟩
   case' o4y =>
    have hbox:=heap_alloc_new w3 (.cells #[.int .i64 0, .int .i64 0, .int .i64 0, .int .i64 0, .int .i64 0, .int .i64 0, .string (⟨#[]⟩ : ByteArray), .slice none 0 0, .int .i64 0, .int .i64 0, .int .i64 0] 34 (0,0))
    have hbb:=Qae (Below.refl w3.heap.size w3) (.cells #[.int .i64 0, .int .i64 0, .int .i64 0, .int .i64 0, .int .i64 0, .int .i64 0, .string (⟨#[]⟩ : ByteArray), .slice none 0 0, .int .i64 0, .int .i64 0, .int .i64 0] 34 (0,0))
    have GEo:=Zz.k (show wd.heap.size <= w3.heap.size from Qai (bw HD))
    have NBo1:=bn BK1 (show w3.heap.size = w3.heap.size from rfl)
    have NBo2:=bm BK1 (show w3.heap.size = w3.heap.size from rfl)
    refine exKe hK (.pointer (some ⟨w3.heap.size,0,none⟩)) (w3.alloc (.cells #[.int .i64 0, .int .i64 0, .int .i64 0, .int .i64 0, .int .i64 0, .int .i64 0, .string (⟨#[]⟩ : ByteArray), .slice none 0 0, .int .i64 0, .int .i64 0, .int .i64 0] 34 (0,0))) (hrun:=by first | (go_simp; done) | (go_simp; rfl)) (hS:=trivial) (h:=fun hS => ?_)
    clear hK
    replace HC8:=Zz.k (Kd.C_below HC8.out hbb)
    replace BK1:=bl BK1 hbb
    replace HD:=bs HD hbb
    generalize w3.alloc (.cells #[.int .i64 0, .int .i64 0, .int .i64 0, .int .i64 0, .int .i64 0, .int .i64 0, .string (⟨#[]⟩ : ByteArray), .slice none 0 0, .int .i64 0, .int .i64 0, .int .i64 0] 34 (0,0)) = wa at hbox BK1 HD HC8 ⊢
    generalize hgo : w3.heap.size = gbo at hbox NBo1 NBo2 ⊢
    replace GEo:=Zz.k (show wd.heap.size <= gbo by have:=GEo.out; omega)
    clear hgo
    have BKo:=Zz.k hbox
    clear hbox hbb
    refine nm (h := ?_)
    refine ca HT 11 (some 76) 12287 #[.slice (if cS = a then AS else Option.map (fun x => x.add (a * 3)) AS) n (cS - a)] Tryz.func50 (h:=fun K hK => ?_)
    refine (Clone_at HC8.out HK.out HcS.out HAN.out HLE.out n rfl gv HGV.out).mono ?_
    rintro e w4 ⟨v4,rfl,hR,hb⟩
    obtain ⟨AG,cG,rfl⟩:=Kd.R_slice hR
    have HRG:=Zz.k (Kd.R_lower hR (Qam HB8.out (bw HD)).size)
    replace BKo:=bl BKo hb
    replace BK1:=bl BK1 hb
    replace HD:=bs HD hb
    refine ⟨_,rfl, ?_⟩
    refine hK.out _ _ trivial (fun hS => ?_)
    clear hK hb hR HC8
    refine nm (h := ?_)
    refine pu HT 12 77 16383 (h := ?_)
    obtain ⟨_,_,_,_,_,_,_,_,_,_,_,_,_,_,_,_,_,_,_,_,_,_⟩:=kc11 BKo
    refine skL HT 14 32767 (put11 w4 gbo (.int .i64 s) (.int .i64 c1) (.int .i64 1) (.int .i64 0) (.int .i64 0) (.int .i64 0) (.string t) (.slice AG gv.length cG) (.int .i64 0) (.int .i64 0) (.int .i64 0)) (hrun:=by first | (go_simp; done) | (go_simp; rfl)) (h := ?_)
    replace HD:=Zz.k (put11_below HD.out GEo.out (.int .i64 s) (.int .i64 c1) (.int .i64 1) (.int .i64 0) (.int .i64 0) (.int .i64 0) (.string t) (.slice AG gv.length cG) (.int .i64 0) (.int .i64 0) (.int .i64 0))
    replace HRG:=Zz.k (put11_R HRG.out BKo.out (.int .i64 s) (.int .i64 c1) (.int .i64 1) (.int .i64 0) (.int .i64 0) (.int .i64 0) (.string t) (.slice AG gv.length cG) (.int .i64 0) (.int .i64 0) (.int .i64 0))
    replace BK1:=Zz.k (put11_far BK1.out NBo1.out (.int .i64 s) (.int .i64 c1) (.int .i64 1) (.int .i64 0) (.int .i64 0) (.int .i64 0) (.string t) (.slice AG gv.length cG) (.int .i64 0) (.int .i64 0) (.int .i64 0))
    replace BKo:=Zz.k (put11_here BKo.out (.int .i64 s) (.int .i64 c1) (.int .i64 1) (.int .i64 0) (.int .i64 0) (.int .i64 0) (.string t) (.slice AG gv.length cG) (.int .i64 0) (.int .i64 0) (.int .i64 0))
    generalize put11 w4 gbo (.int .i64 s) (.int .i64 c1) (.int .i64 1) (.int .i64 0) (.int .i64 0) (.int .i64 0) (.string t) (.slice AG gv.length cG) (.int .i64 0) (.int .i64 0) (.int .i64 0) = w8 at HD HRG BK1 BKo ⊢
    refine dn HT (h := ?_)
    clear HT HW hS
    generalize (if cS = a then AS else Option.map (fun x => x.add (a * 3)) AS) = AX
    go_wp2
    go_meet
    case rel => exact ⟨gbo,AG,cG,rfl,BKo,HRG,BK1,⟨Qam HB8.out HD.out⟩,⟨Kd.C_below HE8.out HD.out⟩,NBo1,NBo2,⟨Nat.le_trans HB8.out.size GEo.out⟩⟩
   case' o2y =>
    have hbox:=heap_alloc_new wd (.cells #[.int .i64 0, .int .i64 0, .int .i64 0, .int .i64 0, .int .i64 0, .int .i64 0, .string (⟨#[]⟩ : ByteArray), .slice none 0 0, .int .i64 0, .int .i64 0, .int .i64 0] 34 (0,0))
    have hbb:=Qae (Below.refl wd.heap.size wd) (.cells #[.int .i64 0, .int .i64 0, .int .i64 0, .int .i64 0, .int .i64 0, .int .i64 0, .string (⟨#[]⟩ : ByteArray), .slice none 0 0, .int .i64 0, .int .i64 0, .int .i64 0] 34 (0,0))
    have GEo:=Zz.k (show wd.heap.size <= wd.heap.size from Qai (bw HD))
    have NBo1:=bn BK1 (show wd.heap.size = wd.heap.size from rfl)
    have NBo2:=bm BK1 (show wd.heap.size = wd.heap.size from rfl)
    refine exKe hK (.pointer (some ⟨wd.heap.size,0,none⟩)) (wd.alloc (.cells #[.int .i64 0, .int .i64 0, .int .i64 0, .int .i64 0, .int .i64 0, .int .i64 0, .string (⟨#[]⟩ : ByteArray), .slice none 0 0, .int .i64 0, .int .i64 0, .int .i64 0] 34 (0,0))) (hrun:=by first | (go_simp; done) | (go_simp; rfl)) (hS:=trivial) (h:=fun hS => ?_)
    clear hK
    replace HC8:=Zz.k (Kd.C_below HC8.out hbb)
    replace BK1:=bl BK1 hbb
    replace HD:=bs HD hbb
    generalize wd.alloc (.cells #[.int .i64 0, .int .i64 0, .int .i64 0, .int .i64 0, .int .i64 0, .int .i64 0, .string (⟨#[]⟩ : ByteArray), .slice none 0 0, .int .i64 0, .int .i64 0, .int .i64 0] 34 (0,0)) = wa at hbox BK1 HD HC8 ⊢
    generalize hgo : wd.heap.size = gbo at hbox NBo1 NBo2 ⊢
    replace GEo:=Zz.k (show wd.heap.size <= gbo by have:=GEo.out; omega)
    clear hgo
    have BKo:=Zz.k hbox
    clear hbox hbb
    refine nm (h := ?_)
    refine ca HT 3 (some 68) 10239 #[.slice A0 l0.length c0, .int .i64 s] Tryz.func49 (h:=fun K hK => ?_)
    refine (HNext.out _ (Qam HB8.out (bw HD))).mono ?_
    rintro e w3 ⟨rfl,hb⟩
    replace BKo:=bl BKo hb
    replace HC8:=Zz.k (Kd.C_below HC8.out hb)
    replace BK1:=bl BK1 hb
    replace HD:=bs HD hb
    refine ⟨_,rfl, ?_⟩
    refine hK.out _ _ trivial (fun hS => ?_)
    clear hK hb
    refine nm (h := ?_)
    refine ca HT 11 (some 76) 12287 #[.slice (if cS = a then AS else Option.map (fun x => x.add (a * 3)) AS) n (cS - a)] Tryz.func50 (h:=fun K hK => ?_)
    refine (Clone_at HC8.out HK.out HcS.out HAN.out HLE.out n rfl gv HGV.out).mono ?_
    rintro e w4 ⟨v4,rfl,hR,hb⟩
    obtain ⟨AG,cG,rfl⟩:=Kd.R_slice hR
    have HRG:=Zz.k (Kd.R_lower hR (Qam HB8.out (bw HD)).size)
    replace BKo:=bl BKo hb
    replace BK1:=bl BK1 hb
    replace HD:=bs HD hb
    refine ⟨_,rfl, ?_⟩
    refine hK.out _ _ trivial (fun hS => ?_)
    clear hK hb hR HC8
    refine nm (h := ?_)
    refine pu HT 12 77 16383 (h := ?_)
    obtain ⟨_,_,_,_,_,_,_,_,_,_,_,_,_,_,_,_,_,_,_,_,_,_⟩:=kc11 BKo
    refine skL HT 14 32767 (put11 w4 gbo (.int .i64 s) (.int .i64 c1) (.int .i64 1) (.int .i64 0) (.int .i64 0) (.int .i64 0) (.string t) (.slice AG gv.length cG) (.int .i64 0) (.int .i64 0) (.int .i64 0)) (hrun:=by first | (go_simp; done) | (go_simp; rfl)) (h := ?_)
    replace HD:=Zz.k (put11_below HD.out GEo.out (.int .i64 s) (.int .i64 c1) (.int .i64 1) (.int .i64 0) (.int .i64 0) (.int .i64 0) (.string t) (.slice AG gv.length cG) (.int .i64 0) (.int .i64 0) (.int .i64 0))
    replace HRG:=Zz.k (put11_R HRG.out BKo.out (.int .i64 s) (.int .i64 c1) (.int .i64 1) (.int .i64 0) (.int .i64 0) (.int .i64 0) (.string t) (.slice AG gv.length cG) (.int .i64 0) (.int .i64 0) (.int .i64 0))
    replace BK1:=Zz.k (put11_far BK1.out NBo1.out (.int .i64 s) (.int .i64 c1) (.int .i64 1) (.int .i64 0) (.int .i64 0) (.int .i64 0) (.string t) (.slice AG gv.length cG) (.int .i64 0) (.int .i64 0) (.int .i64 0))
    replace BKo:=Zz.k (put11_here BKo.out (.int .i64 s) (.int .i64 c1) (.int .i64 1) (.int .i64 0) (.int .i64 0) (.int .i64 0) (.string t) (.slice AG gv.length cG) (.int .i64 0) (.int .i64 0) (.int .i64 0))
    generalize put11 w4 gbo (.int .i64 s) (.int .i64 c1) (.int .i64 1) (.int .i64 0) (.int .i64 0) (.int .i64 0) (.string t) (.slice AG gv.length cG) (.int .i64 0) (.int .i64 0) (.int .i64 0) = w8 at HD HRG BK1 BKo ⊢
    refine dn HT (h := ?_)
    clear HT HW hS
    generalize (if cS = a then AS else Option.map (fun x => x.add (a * 3)) AS) = AX
    go_wp2
    go_meet
    case rel => exact ⟨gbo,AG,cG,rfl,BKo,HRG,BK1,⟨Qam HB8.out HD.out⟩,⟨Kd.C_below HE8.out HD.out⟩,NBo1,NBo2,⟨Nat.le_trans HB8.out.size GEo.out⟩⟩
  case rest =>
   clear BK1 HB HCS
   obtain ⟨gbo,AG,cG,rfl,BKo,HRG,BK1,HB,HCE,NBo1,NBo2,GEo⟩:=hcut
   obtain ⟨_,_,_,_,_,_,_,_,_,_,_,_,_,_,_,_,_,_,_,_,_,_⟩:=kc11 BKo
   have hCE:=HCE.out
   rcases case_after a t with hA | hA | hA
   case' inl =>
    have hapz : (a : Int) > 0:=by omega
    have hte:=hA.2
    have hwm : wrap64 ((a : Int) - 1) = ((a - 1 : Nat) : Int):=by rw [Qaj (by omega) (by omega)]; omega
    have hi0 : (0 : Int) <= ((a - 1 : Nat) : Int):=by omega
    have hi1 : ((a - 1 : Nat) : Int) < (k : Int):=by omega
    obtain ⟨ad,rfl,y0,y1,y2⟩:=Qbm hCE ((a - 1 : Nat) : Int) hi0 hi1
    simp only [Int.toNat_natCast] at y0 y1 y2
    have hz : Qac (Qak l0) ((a - 1 : Nat) : Int) = repA l0 a t:=by unfold repA; rw [if_pos hA]
    generalize Qac (Qak l0) ((a - 1 : Nat) : Int) = z at y0 y1 y2 hz
    have HZ:=Zz.k hz
    clear hz hA hCE
    go_upto_region 11 with (fail)
    replace HB:=Zz.k (put3_below HB.out GEo.out (.int .i64 z.f0) (.int .i64 z.f1) (.int .i64 z.f2))
    replace HRG:=Zz.k (put3_R HRG.out BKo.out (.int .i64 z.f0) (.int .i64 z.f1) (.int .i64 z.f2))
    replace BK1:=Zz.k (put3_far BK1.out NBo1.out (.int .i64 z.f0) (.int .i64 z.f1) (.int .i64 z.f2))
    replace BKo:=Zz.k (put3_here BKo.out (.int .i64 z.f0) (.int .i64 z.f1) (.int .i64 z.f2))
    generalize ((wc.setCell ⟨gbo,3,none⟩ (.int .i64 z.f0)).setCell ⟨gbo,4,none⟩ (.int .i64 z.f1)).setCell ⟨gbo,5,none⟩ (.int .i64 z.f2) = wt at HB HRG BK1 BKo ⊢
    clear y0 y1 y2 hapz hte hwm hi0 hi1
   case' inr.inl =>
    obtain ⟨z,hz0⟩ : ∃ z : SElem,z = ⟨0,0,0⟩:=⟨_,rfl⟩
    have hz : z = repA l0 a t:=by unfold repA; rw [hz0,if_neg (fun h => by rw [hA] at h; exact absurd h.2 (by decide))]
    replace BKo:=Zz.k (show wc.heap[gbo]? = some (.cells #[.int .i64 s, .int .i64 c1, .int .i64 1, .int .i64 z.f0, .int .i64 z.f1, .int .i64 z.f2, .string t, .slice AG gv.length cG, .int .i64 0, .int .i64 0, .int .i64 0] 34 (0,0)) by rw [hz0]; exact BKo.out)
    have HZ:=Zz.k hz
    clear hz hz0 hCE
    go_upto_region 11 with (fail)
    clear hA
   case' inr.inr =>
    obtain ⟨z,hz0⟩ : ∃ z : SElem,z = ⟨0,0,0⟩:=⟨_,rfl⟩
    have hz : z = repA l0 a t:=by unfold repA; rw [hz0,if_neg (fun h => by have:=hA.2; omega)]
    replace BKo:=Zz.k (show wc.heap[gbo]? = some (.cells #[.int .i64 s, .int .i64 c1, .int .i64 1, .int .i64 z.f0, .int .i64 z.f1, .int .i64 z.f2, .string t, .slice AG gv.length cG, .int .i64 0, .int .i64 0, .int .i64 0] 34 (0,0)) by rw [hz0]; exact BKo.out)
    have HZ:=Zz.k hz
    have hte:=hA.1
    have hapz : ¬ (a : Int) > 0:=by omega
    clear hz hz0 hCE hA
    go_upto_region 11 with (fail)
    clear hapz hte
   all_goals
    have HM:=Zz.k (show mayB (l0 ++ [⟨s,c1,1,⟨z.f0,z.f1,z.f2⟩,t,sortL gv,0,0,0⟩]) = b by have:=HBB.out; unfold repO at this; rw [<- HZ.out,<- HC1.out,HRL.out] at this; exact this)
    have HSN:=Zz.k (HSN0.out ⟨z.f0,z.f1,z.f2⟩)
    clear NBo1 NBo2 HCE
    obtain ⟨_,_,_,_,_,_,_,_,_,_,_,_,_,_,_,_,_,_,_,_,_,_⟩:=kc11 BKo
    cases b
    case' false =>
     go_wp2_with (first | ((with_reducible refine Qab (f:=51) rfl ?_); refine gl (some 92) Tryz.func51 #[.slice AG gv.length cG, .func (.func 52) #[] #[]] (h := ?_); (refine (sort_any HRG.out HGL.out).mono ?_); rintro e w9 ⟨rfl,hR9,row9,hg9,hk9⟩; refine ⟨_,rfl, ?_⟩; replace BK1:=Zz.k (sort_keep HRG.out BK1.out hg9 hk9); replace BKo:=Zz.k (sort_keep HRG.out BKo.out hg9 hk9); replace HB:=Zz.k (Qcd HB.out row9 HB.out.size hg9 (fun k hk => Kd.R_base HRG.out k (hk9 k hk))); replace HRG:=Zz.k hR9; clear hR9 hg9 hk9; obtain ⟨_,_,_,_,_,_,_,_,_,_,_,_,_,_,_,_,_,_,_,_,_,_⟩:=kc11 BKo) | ((with_reducible refine Qab (f:=53) rfl ?_); refine gl (some 95) Tryz.func53 #[.slice A0 l0.length c0, .agg #[.int .i64 s, .int .i64 c1, .int .i64 1, .int .i64 z.f0, .int .i64 z.f1, .int .i64 z.f2, .string t, .slice AG gv.length cG, .int .i64 0, .int .i64 0, .int .i64 0]] (h := ?_); (refine (full_n A0 c0 l0 s c1 1 z.f0 z.f1 z.f2 t (sortL gv) 0 0 0 AG gv.length cG (sort_len _) false _ (Kd.C_below HR0.out HB.out) HC0.out w.heap.size HRG.out HL.out HSN.out HM.out).mono ?_); rintro e w10 ⟨hres,hb⟩; rw [if_neg nft] at hres; obtain rfl:=hres; refine ⟨_,rfl, ?_⟩; replace BK1:=bl BK1 hb; replace HB:=bs HB hb; replace HRG:=rb HRG hb; clear hb; obtain ⟨_,_,_,_,_,_,_,_,_,_,_,_,_,_,_,_,_,_,_,_,_,_⟩:=kc11 BK1))
     refine bodyPost_ret (Qaw rfl _ _ gb1 34 #[.int .i64 0, .int .i64 0, .int .i64 0, .int .i64 0, .int .i64 0, .int .i64 0, .string (⟨#[]⟩ : ByteArray), .slice none 0 0, .int .i64 0, .int .i64 0, .int .i64 0] (0,0) _ rfl (bp11 (kk BK1)) hu32 rfl (by kernel_rfl)) rfl ?_
     unfold RepPost
     refine ⟨.slice none 0 0, ?_,bw HB⟩
     rw [if_neg nft]
     exact ⟨rfl,rfl⟩
    case' true =>
     go_wp2_with (first | ((with_reducible refine Qab (f:=51) rfl ?_); refine gl (some 92) Tryz.func51 #[.slice AG gv.length cG, .func (.func 52) #[] #[]] (h := ?_); (refine (sort_any HRG.out HGL.out).mono ?_); rintro e w9 ⟨rfl,hR9,row9,hg9,hk9⟩; refine ⟨_,rfl, ?_⟩; replace BK1:=Zz.k (sort_keep HRG.out BK1.out hg9 hk9); replace BKo:=Zz.k (sort_keep HRG.out BKo.out hg9 hk9); replace HB:=Zz.k (Qcd HB.out row9 HB.out.size hg9 (fun k hk => Kd.R_base HRG.out k (hk9 k hk))); replace HRG:=Zz.k hR9; clear hR9 hg9 hk9; obtain ⟨_,_,_,_,_,_,_,_,_,_,_,_,_,_,_,_,_,_,_,_,_,_⟩:=kc11 BKo) | ((with_reducible refine Qab (f:=53) rfl ?_); refine gl (some 95) Tryz.func53 #[.slice A0 l0.length c0, .agg #[.int .i64 s, .int .i64 c1, .int .i64 1, .int .i64 z.f0, .int .i64 z.f1, .int .i64 z.f2, .string t, .slice AG gv.length cG, .int .i64 0, .int .i64 0, .int .i64 0]] (h := ?_); (refine (full_n A0 c0 l0 s c1 1 z.f0 z.f1 z.f2 t (sortL gv) 0 0 0 AG gv.length cG (sort_len _) true _ (Kd.C_below HR0.out HB.out) HC0.out w.heap.size HRG.out HL.out HSN.out HM.out).mono ?_); rintro e w10 ⟨hres,hb⟩; rw [if_pos rfl] at hres; obtain rfl:=hres; refine ⟨_,rfl, ?_⟩; replace BK1:=bl BK1 hb; replace HB:=bs HB hb; replace HRG:=rb HRG hb; clear hb; obtain ⟨_,_,_,_,_,_,_,_,_,_,_,_,_,_,_,_,_,_,_,_,_,_⟩:=kc11 BK1))
     refine bodyPost_ret (Qaw rfl _ _ gb1 34 #[.int .i64 s, .int .i64 c1, .int .i64 1, .int .i64 z.f0, .int .i64 z.f1, .int .i64 z.f2, .string t, .slice AG gv.length cG, .int .i64 0, .int .i64 0, .int .i64 0] (0,0) _ rfl (bp11 (kk BK1)) hu32 rfl (by kernel_rfl)) rfl ?_
     unfold RepPost
     refine ⟨.slice AG gv.length cG, ?_,bw HB⟩
     rw [if_pos rfl,<- HZ.out,<- HC1.out,HRL.out]
     exact ⟨rfl,Kd.R_mono (rf11 (Kd.R_types HRG.out BK1.out (by decide))) (fun _ _ => trivial)⟩
end
section
instance (l0 : List SOp) (a n : Int) (t : ByteArray) : Decidable (limB l0 a n t):=by unfold limB; infer_instance
def repV (l0 : List SOp) (s a n : Int) (t : ByteArray) : SOp × Int :=
 if badB l0 s t = true then (⟨0,0,0,⟨0,0,0⟩,⟨#[]⟩,[],0,0,0⟩,1)
 else if limB l0 a n t then (⟨0,0,0,⟨0,0,0⟩,⟨#[]⟩,[],0,0,0⟩,2)
 else if n = 0 /\ t.toList.isEmpty = true then (⟨0,0,0,⟨0,0,0⟩,⟨#[]⟩,[],0,0,0⟩,3)
 else if mayB (l0 ++ [repO l0 s a.toNat n.toNat t]) = true then (repO l0 s a.toNat n.toNat t,0)
 else (⟨0,0,0,⟨0,0,0⟩,⟨#[]⟩,[],0,0,0⟩,6)
def edit_Replace.f (l0 : List (SOp)) (a1 : Int) (a2 : Int) (a3 : Int) (a4 : ByteArray) : Option (Int × Int × Int × Int × Int × Int × ByteArray × (List (SElem)) × Int × Int × Int × Int) :=
 if smalls l0 = true /\ a4.size <= 1000000 then some ((repV l0 a1 a2 a3 a4).1.f0,(repV l0 a1 a2 a3 a4).1.f1,(repV l0 a1 a2 a3 a4).1.f2,(repV l0 a1 a2 a3 a4).1.f3.f0,(repV l0 a1 a2 a3 a4).1.f3.f1,(repV l0 a1 a2 a3 a4).1.f3.f2,(repV l0 a1 a2 a3 a4).1.f4,(repV l0 a1 a2 a3 a4).1.f5,(repV l0 a1 a2 a3 a4).1.f6,(repV l0 a1 a2 a3 a4).1.f7,(repV l0 a1 a2 a3 a4).1.f8,(repV l0 a1 a2 a3 a4).2) else none
theorem Replace_calls (A0 : Option Addr) (c0 : Nat) (l0 : List SOp) (s a n : Int) (t : ByteArray) (w : World) (hr0 : Kd.C kOp w A0 l0.length l0) (hc0 : l0.length <= c0) (hsm : smalls l0 = true) (ht : t.size <= 1000000) (o : SOp) (err : Int) (hv : repV l0 s a n t = (o,err)) :
  Calls Tryz.prog 10 #[.slice A0 l0.length c0, .int .i64 s, .int .i64 a, .int .i64 n, .string t] w fun e w' => ∃ v7 : Value,e = .returned (.tuple #[.agg #[.int .i64 o.f0, .int .i64 o.f1, .int .i64 o.f2, .int .i64 o.f3.f0, .int .i64 o.f3.f1, .int .i64 o.f3.f2, .string o.f4,v7, .int .i64 o.f6, .int .i64 o.f7, .int .i64 o.f8], .int .i64 err]) /\ RE w' w.heap.size v7 o.f5 /\ Below w.heap.size w w':=by
 unfold repV at hv
 by_cases h1 : badB l0 s t = true
 ·rw [if_pos h1] at hv
  obtain ⟨rfl,rfl⟩:=Prod.mk.inj hv
  exact Rep_bad A0 c0 l0 s a n t w hr0 hc0 hsm ht h1
 ·rw [if_neg h1] at hv
  have h1' : badB l0 s t = false:=by cases h : badB l0 s t; rfl; exact absurd h h1
  by_cases h2 : limB l0 a n t
  ·rw [if_pos h2] at hv
   obtain ⟨rfl,rfl⟩:=Prod.mk.inj hv
   exact Rep_lim A0 c0 l0 s a n t w hr0 hc0 hsm ht h1' h2
  ·rw [if_neg h2] at hv
   by_cases h3 : n = 0 /\ t.toList.isEmpty = true
   ·rw [if_pos h3] at hv
    obtain ⟨rfl,rfl⟩:=Prod.mk.inj hv
    obtain ⟨rfl,h4⟩:=h3
    exact Rep_none A0 c0 l0 s a t w hr0 hc0 hsm ht h1' h2 h4
   ·rw [if_neg h3] at hv
    have ha : a = (a.toNat : Int):=by unfold limB at h2; omega
    have hn : n = (n.toNat : Int):=by unfold limB at h2; omega
    have hne : ¬ (n.toNat = 0 /\ t.toList.isEmpty = true):=fun h => h3 ⟨by omega,h.2⟩
    rw [ha,hn] at h2
    have hk:=Rep_ok A0 c0 l0 s a.toNat n.toNat t w hr0 hc0 hsm ht h1' h2 hne _ rfl
    rw [<- ha,<- hn] at hk
    refine hk.mono ?_
    intro e w' hp
    unfold RepPost at hp
    obtain ⟨v7,hq,hb⟩:=hp
    by_cases h5 : mayB (l0 ++ [repO l0 s a.toNat n.toNat t]) = true
    ·rw [if_pos h5] at hv hq
     obtain ⟨rfl,rfl⟩:=Prod.mk.inj hv
     exact ⟨v7,hq.1,hq.2,hb⟩
    ·rw [if_neg h5] at hv hq
     obtain ⟨rfl,rfl⟩:=Prod.mk.inj hv
     obtain ⟨rfl,rfl⟩:=hq
     exact ⟨_,rfl,Kd.R_nil _ _ _ _ _,hb⟩
theorem edit_Replace.calls (A0 : Option Addr) (c0 : Nat) (l0 : List (SOp)) (a1 : Int) (a2 : Int) (a3 : Int) (a4 : ByteArray) (r1 : Int) (r2 : Int) (r3 : Int) (r4 : Int) (r5 : Int) (r6 : Int) (r7 : ByteArray) (r8 : List (SElem)) (r9 : Int) (r10 : Int) (r11 : Int) (r12 : Int) (w : World) (hr0 : Kd.C kOp w A0 l0.length l0) (hc0 : l0.length <= c0) (h : edit_Replace.f l0 a1 a2 a3 a4 = some (r1,r2,r3,r4,r5,r6,r7,r8,r9,r10,r11,r12)) :
  Calls Tryz.prog 10 #[.slice A0 l0.length c0, .int .i64 a1, .int .i64 a2, .int .i64 a3, .string a4] w fun e w' => ∃ v7_ : Value,e = .returned (.tuple #[.agg #[.int .i64 r1, .int .i64 r2, .int .i64 r3, .int .i64 r4, .int .i64 r5, .int .i64 r6, .string r7,v7_, .int .i64 r9, .int .i64 r10, .int .i64 r11], .int .i64 r12]) /\ Kd.R Qav 32 w' w.heap.size (fun _ => True) v7_ r8 /\ Below w.heap.size w w':=by
 unfold edit_Replace.f at h
 split at h
 case isFalse => cases h
 rename_i hq
 have h:=Zo h
 simp only [Prod.mk.injEq] at h
 obtain ⟨rfl,rfl,rfl,rfl,rfl,rfl,rfl,rfl,rfl,rfl,rfl,rfl⟩:=h
 exact Replace_calls A0 c0 l0 a1 a2 a3 a4 w hr0 hc0 hq.1 hq.2 _ _ rfl
end
section
def t_doc_At.T1 : Bool × List (List Nat × List Nat):=(true,[([],[]),([],[]),([],[]),([2],[2]),([],[]),([4],[4]),([1,3,5],[1,3,5]),([0,6],[0,6]),([7],[7]),([8],[8]),([9],[9]),([],[]),([11],[11]),([10,12],[10,12]),([13],[13]),([14,6,0,1,2,3,4,5,6,7,8,9,10,11,12,13,14],[14])])
def t_doc_At.B1 : List Nat:=[0,0,0,4,0,16,62,127,255,511,1023,0,2048,8191,16383,32767]
theorem t_doc_At.tab1 : rtab .any (opsOf Tryz.f89 1) = t_doc_At.T1:=by kernel_rfl
theorem t_doc_At.bits1 : Qax t_doc_At.T1.2 t_doc_At.B1 = true:=by kernel_rfl
end
section
theorem runesFrom_eq (s : ByteArray) : ∀ (n i : Nat) (acc : Array Value),Conv.runesFrom s n i acc = acc ++ ((Qbh s n i).map (Value.int .i32)).toArray
 | 0,i,acc => by simp [Conv.runesFrom,Qbh]
 | n + 1,i,acc => by
  unfold Conv.runesFrom Qbh
  by_cases h : i < s.size
  ·rw [if_pos h,if_pos h]
   refine (runesFrom_eq s n (i + (Utf8.decode s i).2) (acc.push (.int .i32 ((Utf8.decode s i).1 : Int)))).trans ?_
   simp
  ·rw [if_neg h,if_neg h]; simp
theorem runesFrom_all (s : ByteArray) : Conv.runesFrom s s.size 0 #[] = ((Qaq s).map (Value.int .i32)).toArray:=by rw [runesFrom_eq]; simp [Qaq]
def doc_At.f (l0 : List (SOp)) (a1_0 : Int) (a1_1 : Int) (a1_2 : Int) : Option (Int) :=
 if l0.length <= 1000000 /\ 0 <= Qbc l0 a1_0 a1_1 /\ 0 <= a1_2 /\ a1_2 < (Qan (Qah l0 (Qbc l0 a1_0 a1_1)) : Int) /\ Qan (Qah l0 (Qbc l0 a1_0 a1_1)) <= 1000000 then some ((Qaq (Qah l0 (Qbc l0 a1_0 a1_1)).f4).getD a1_2.toNat 0) else none
theorem doc_At.calls (A0 : Option Addr) (c0 : Nat) (l0 : List (SOp)) (a1_0 : Int) (a1_1 : Int) (a1_2 : Int) (r : Int) (w : World) (hr0 : Kd.C kOp w A0 l0.length l0) (hc0 : l0.length <= c0) (h : doc_At.f l0 a1_0 a1_1 a1_2 = some r) :
  Calls Tryz.prog 89 #[.slice A0 l0.length c0, .agg #[.int .i64 a1_0, .int .i64 a1_1, .int .i64 a1_2]] w fun e w' => e = .returned (.int .i32 r) /\ Below w.heap.size w w':=by
 unfold doc_At.f at h
 split at h
 case isFalse => cases h
 rename_i hq
 obtain ⟨hl,hf0,h2,h3,h4⟩:=hq
 obtain rfl:=Zo h
 clear h
 obtain ⟨i,hi,hfi⟩ : ∃ i,i < l0.length /\ Qbc l0 a1_0 a1_1 = (i : Int):=by
  rcases Qbi l0 a1_0 a1_1 with ⟨i,hi,_,_,_,e⟩ | ⟨_,e⟩
  ·exact ⟨i,hi,e⟩
  ·omega
 have hcF:=fun W (hb : Below w.heap.size w W) => tree_Find.calls A0 c0 l0 a1_0 a1_1 (i : Int) W (Kd.C_below hr0 hb) hc0 (by rw [tree_Find_f hl,hfi])
 rw [hfi] at h3 h4 ⊢
 have hi0 : (0 : Int) <= (i : Int):=by omega
 have hi1 : (i : Int) < (l0.length : Int):=by omega
 obtain ⟨ad,A7,c7,rfl,x0,x1,x2,x3,x4,x5,x6,x7,x8,x9,x10,l7,g7⟩:=at_Op hr0 (i : Int) hi0 hi1
 simp only [Int.toNat_natCast] at x6
 generalize Qah l0 (i : Int) = o at x6 h3 h4 ⊢
 clear x0 x1 x2 x3 x4 x5 x7 x8 x9 x10 l7 g7 hr0 hf0 hfi hi hl
 have HF:=Zz.k hcF
 clear hcF
 obtain ⟨j,rfl⟩ : ∃ j : Nat,a1_2 = (j : Int):=⟨a1_2.toNat,by omega⟩
 have hj : j < (Qaq o.f4).length:=by have : Qan o = (Qaq o.f4).length:=rfl; omega
 rw [Int.toNat_natCast]
 generalize hrv : (Qaq o.f4).getD j 0 = rv
 have HRV:=Zz.k hrv
 clear hrv
 have hru:=Tryz.underlying9
 have hrs:=Tryz.underlying48
 have hri:=Tryz.underlying21
 have hal : Below w.heap.size w (w.alloc (.cells #[.int .i64 a1_0, .int .i64 a1_1, .int .i64 (j : Int)] 32)):=Qae (Below.refl _ _) _
 have y6:=Qaa hal x6
 have b0 : (w.alloc (.cells #[.int .i64 a1_0, .int .i64 a1_1, .int .i64 (j : Int)] 32)).cell? ⟨w.heap.size,0,none⟩ = some (.int .i64 a1_0):=by simp
 have b1 : (w.alloc (.cells #[.int .i64 a1_0, .int .i64 a1_1, .int .i64 (j : Int)] 32)).cell? ⟨w.heap.size,1,none⟩ = some (.int .i64 a1_1):=by simp
 have b2 : (w.alloc (.cells #[.int .i64 a1_0, .int .i64 a1_1, .int .i64 (j : Int)] 32)).cell? ⟨w.heap.size,2,none⟩ = some (.int .i64 (j : Int)):=by simp
 have HAL:=Zz.k hal
 have HB3:=Zz.k h3
 have HB4:=Zz.k h4
 clear hal x6 h3 h4 h2
 go_enter Tryz.func89,Tryz.ntmps89
 go_wp2_with fail
 refine stL (S:=fun w' => w'.cell? ⟨w.heap.size,0,none⟩ = some (.int .i64 a1_0) /\ w'.cell? ⟨w.heap.size,1,none⟩ = some (.int .i64 a1_1) /\ w'.cell? ⟨w.heap.size,2,none⟩ = some (.int .i64 (j : Int)) /\ w'.cell? ⟨(ad.add (i * 11)).block,(ad.add (i * 11)).off + 6,none⟩ = some (.string o.f4)) [14] 16 t_doc_At.bits1 t_doc_At.tab1 (hS:=⟨b0,b1,b2,y6⟩) (h:=fun hS HT HW => ?_)
 refine pu HT 0 5 1 (h := ?_)
 refine pu HT 1 6 3 (h := ?_)
 refine pu HT 2 7 7 (h := ?_)
 refine tk HT HW hS 3 8 15 (h := ?_)
 refine pu HT 4 9 31 (h := ?_)
 refine tk HT HW hS 5 10 63 (h := ?_)
 refine pu HT 11 16 2111 (h := ?_)
 refine tk HT HW hS 12 17 6207 (h := ?_)
 refine ca HT 6 (some 11) 6271 #[.slice (some ad) l0.length c0, .int .i64 a1_0, .int .i64 a1_1] Tryz.func125 (h:=fun K hK => ?_)
 refine (HF.out _ (Qaf HAL.out)).mono ?_
 rintro e w3 ⟨rfl,hb3⟩
 refine ⟨_,rfl, ?_⟩
 refine hK.out _ _ ⟨Qaa hb3 b0,Qaa hb3 b1,Qaa hb3 b2,Qaa hb3 y6⟩ (fun hS => ?_)
 have HBW:=Zz.k (Qam (Qaf HAL.out) hb3)
 clear hK hb3 b0 b1 b2 y6 HF
 refine nm (h := ?_)
 refine pu HT 7 12 6399 (h := ?_)
 refine pu HT 8 13 6655 (h := ?_)
 refine tk HT HW hS 9 14 7167 (h := ?_)
 have hcv:=run_runes_of_string (P:=Tryz.prog) w3 9 48 21 o.f4 hru hrs hri (by rw [runesFrom_all]; have hs : Qan o = (Qaq o.f4).length:=rfl; simp; have:=HB4.out; omega)
 rw [runesFrom_all] at hcv
 have hcap:=grownCap_ge w3 ((Qaq o.f4).map (Value.int .i32)).toArray.size 0 21
 generalize hgc : grownCap w3 ((Qaq o.f4).map (Value.int .i32)).toArray.size 0 21 = gc at hcv hcap
 have hsz : ((Qaq o.f4).map (Value.int .i32)).toArray.size = (Qaq o.f4).length:=by simp
 rw [hsz] at hcv hcap
 have hcell : (w3.drew.alloc (.cells (((Qaq o.f4).map (Value.int .i32)).toArray ++ Array.replicate (gc - (Qaq o.f4).length) (.int .i32 0)) 21)).cell? ⟨w3.heap.size,j,none⟩ = some (.int .i32 rv):=by
  rw [<- HRV.out]
  have:=top_cell w3.drew (((Qaq o.f4).map (Value.int .i32)).toArray ++ Array.replicate (gc - (Qaq o.f4).length) (.int .i32 0)) 21 w3.heap.size j rfl
  rw [this,Array.getElem?_append_left (by simp; exact hj)]
  simp [List.getD_eq_getElem?_getD,hj]
 have HBE:=Zz.k (Qam HBW.out (Qae (Qaf (Below.refl w3.heap.size w3)) (.cells (((Qaq o.f4).map (Value.int .i32)).toArray ++ Array.replicate (gc - (Qaq o.f4).length) (.int .i32 0)) 21)))
 have hjz : (j : Int) < ((Qaq o.f4).length : Int):=by omega
 have hj0 : (0 : Int) <= (j : Int):=by omega
 have hbv:=Qae (Qaf (Below.refl w3.heap.size w3)) (.cells (((Qaq o.f4).map (Value.int .i32)).toArray ++ Array.replicate (gc - (Qaq o.f4).length) (.int .i32 0)) 21)
 have s0:=Qaa hbv hS.1
 have s1:=Qaa hbv hS.2.1
 have s2:=Qaa hbv hS.2.2.1
 have s3:=Qaa hbv hS.2.2.2
 clear hbv
 generalize w3.drew.alloc (.cells (((Qaq o.f4).map (Value.int .i32)).toArray ++ Array.replicate (gc - (Qaq o.f4).length) (.int .i32 0)) 21) = w4 at hcv hcell HBE s0 s1 s2 s3
 generalize (Qaq o.f4).length = rl at hcv hjz hcap
 refine exS HT 10 (some 15) 8191 (.slice (some ⟨w3.heap.size,0,none⟩) rl gc) w4 (hrun := ?_) (hS:=⟨s0,s1,s2,s3⟩) (h:=fun hS => ?_)
 ·go_simp
 clear hcv hcap hsz hS
 refine nm (h := ?_)
 refine pu HT 13 18 16383 (h := ?_)
 refine exL HT 14 (some 19) 32767 (.int .i32 rv) w4 (hrun := ?_) (h := ?_)
 ·go_simp
 refine nm (h := ?_)
 refine pu HT 15 4 65535 (h := ?_)
 refine dn HT (h := ?_)
 clear HT HW
 go_wp2
 go_ret
 exact ⟨rfl,HBE.out⟩
end
section
theorem infoI32 : (Tryz.prog.info? 21).map (fun i => (i.zero,i.size,i.bytes)) = some (some (.int .i32 0),1,4):=by kernel_rfl
def atR (l : List SOp) (e : SElem) : Int:=(Qaq (Qah l (Qbc l e.f0 e.f1)).f4).getD e.f2.toNat 0
def plainR (l : List SOp) : ByteArray:=runesBytes ((Qak l).map (atR l))
def doc_Plain.f (l0 : List (SOp)) : Option (ByteArray):=if smalls l0 = true /\ mayB l0 = true then some (plainR l0) else none
theorem At_ok {l : List SOp} (h : RowOk l) {e : SElem} (he : e ∈ ordL l) : doc_At.f l e.f0 e.f1 e.f2 = some (atR l e):=by
 obtain ⟨p,hp,e0,e1,h2,h3⟩:=(Qbx h e).1 he
 obtain ⟨i,hi,ef,ei⟩:=findOp_mem h hp
 rw [e0,e1] at ef
 have hs:=(Qcv (h.oks p hp)).1
 have h40:=h.sums.1
 unfold doc_At.f atR
 rw [ef,Qaz _ _ hi,ei,if_pos ⟨by omega,by omega,h2,h3,by omega⟩]
theorem doc_Plain.calls (A0 : Option Addr) (c0 : Nat) (l0 : List (SOp)) (r : ByteArray) (w : World) (hr0 : Kd.C kOp w A0 l0.length l0) (hc0 : l0.length <= c0) (h : doc_Plain.f l0 = some r) :
  Calls Tryz.prog 56 #[.slice A0 l0.length c0] w fun e w' => e = .returned (.string r) /\ Below w.heap.size w w':=by
 unfold doc_Plain.f at h
 split at h
 case isFalse => cases h
 rename_i hsm
 obtain rfl:=Zo h
 have hrow:=(Qbf l0).1 hsm.2
 have hcS:=doc_Seen.calls A0 c0 l0 (Qak l0) w hr0 hc0 (by unfold doc_Seen.f; rw [if_pos hsm])
 have hru:=Tryz.underlying9
 have hrs:=Tryz.underlying48
 have hri:=Tryz.underlying21
 have HR0:=Zz.k hr0
 have HC0:=Zz.k hc0
 have HS:=Zz.k hcS
 have HROW:=Zz.k hrow
 clear hr0 hc0 h hcS hsm hrow
 go_enter Tryz.func56,Tryz.ntmps56
 go_wp2_with fail
 refine HS.out.mono ?_
 rintro e wS ⟨vS,rfl,hRS,hbS⟩
 obtain ⟨AS,cS,rfl,hcS,hCS⟩:=Kd.R_reads hRS
 have HBS:=Zz.k hbS
 have HCS:=Zz.k hCS
 have hlen : (Qak l0).length <= 200:=Nat.le_trans (List.length_filter_le _ _) (by rw [(Qbs HROW.out).2]; exact HROW.out.sums.2)
 have HLEN:=Zz.k hlen
 clear hRS hbS hCS hcS hlen HS
 go_wp2
 go_loopg [3,9] (Qak l0).length (fun gg s3 s9 w' => ∃ j : Nat,j <= (Qak l0).length /\ (Qak l0).length - j <= gg /\ s9 = .int .i64 j /\ Zz (Below wS.heap.size wS w') /\ Zz (Kd.R (Kd.int .i32) 21 w' wS.heap.size (fun _ => True) s3 (((Qak l0).take j).map (atR l0))))
 case atStart => exact ⟨0,Nat.zero_le _,by omega,rfl,⟨Below.refl _ _⟩,⟨Kd.R_nil _ _ _ _ _⟩⟩
 case round =>
  obtain ⟨j,hj,hgk,rfl,HB,HR⟩:=hrel
  by_cases hjl : j < (Qak l0).length
  ·obtain ⟨g2,rfl⟩ : ∃ g2,gk = g2 + 1:=⟨gk - 1,by omega⟩
   have hjz : (j : Int) < ((Qak l0).length : Int):=by omega
   have hj0 : (0 : Int) <= (j : Int):=by omega
   obtain ⟨ad7,rfl,y0,y1,y2⟩:=Qbm (Kd.C_below HCS.out HB.out) (j : Int) hj0 hjz
   simp only [Int.toNat_natCast,Qar _ _ hjl] at y0 y1 y2
   have hmem : (Qak l0)[j] ∈ ordL l0:=(seen_mem.1 (List.getElem_mem hjl)).1
   have hat:=At_ok HROW.out hmem
   have htk : ((Qak l0).take (j + 1)).map (atR l0) = ((Qak l0).take j).map (atR l0) ++ [atR l0 (Qak l0)[j]]:=by rw [List.take_succ_eq_append_getElem hjl,List.map_append]; rfl
   have HTK:=Zz.k htk
   clear htk
   generalize hxe : (Qak l0)[j] = x at y0 y1 y2 hat HTK
   generalize atR l0 x = rv at hat HTK
   have hal : Below wr.heap.size wr (wr.alloc (.cells #[.int .i64 x.f0, .int .i64 x.f1, .int .i64 x.f2] 32)):=Qae (Below.refl _ _) _
   have hbw : Below wS.heap.size wS (wr.alloc (.cells #[.int .i64 x.f0, .int .i64 x.f1, .int .i64 x.f2] 32)):=Qam HB.out hal
   have HAT:=Zz.k (doc_At.calls A0 c0 l0 x.f0 x.f1 x.f2 rv _ (Kd.C_below HR0.out (Qam HBS.out hbw)) HC0.out hat)
   have HB2:=Zz.k hbw
   have HR2:=Zz.k (Kd.R_below HR.out hal)
   clear hal hbw hat hxe hmem HB HR
   go_wp2_with fail
   refine HAT.out.mono ?_
   rintro e w5 ⟨rfl,hb5⟩
   have HB5:=Zz.k (Qam HB2.out hb5)
   have HR5:=Zz.k (Kd.R_below HR2.out hb5)
   clear hb5 HB2 HR2 HAT
   have hl200 : (((Qak l0).take j).map (atR l0)).length <= 200:=by rw [List.length_map,List.length_take]; have:=HLEN.out; omega
   have hsz5:=HB5.out.size
   have hl2:=HLEN.out
   go_wp2_with (first | ((with_reducible refine Qcw (b:=.append) (xs:=#[.tmp 13, .tmp 17]) rfl ?_); at_builtin; refine Kd.R_append (Kd.int .i32) (w0:=wS) wS.heap.size rfl (.tmp 13) (.tmp 17) 48 21 (.int .i32 0) 4 rfl Tryz.underlying48 infoI32 rfl (by decide) (by omega) u3 (((Qak l0).take j).map (atR l0)) rv [.int .i32 rv] (fun _ => True) (fun _ => False) rfl rfl ?aP (fun _ hk => hk.elim) ?aF ?aO ?aB ?aS ?aL ?_; (case aP => exact rfl); (case aB => exact HB5.out); (case aF => exact (fun _ _ => trivial)); (case aO => exact HR5.out); (case aS => exact hsz5); (case aL => omega); intro v1 w6 ho hb hg hat; have HO:=Zz.k ho; have HBB:=Zz.k hb; clear ho hb hg hat))
   go_roundg g2
   case measure => omega
   case rel => exact ⟨j + 1,by omega,by omega,by go_num,HBB,⟨by rw [HTK.out]; exact HO.out⟩⟩
  ·obtain rfl : j = (Qak l0).length:=by omega
   have hjz : ¬ ((Qak l0).length : Int) < ((Qak l0).length : Int):=by omega
   rw [List.take_length] at HR
   obtain ⟨AR,cR,rfl,hcR,hCR⟩:=Kd.R_reads HR.out
   have hcv : ∀ v,(convert 48 9 (.slice AR ((Qak l0).map (atR l0)).length cR)).run Tryz.prog wr = .ok v wr -> v = .string (plainR l0) -> True:=fun _ _ _ => trivial
   have hcv : (convert 48 9 (.slice AR ((Qak l0).map (atR l0)).length cR)).run Tryz.prog wr = .ok (.string (plainR l0)) wr:=by
    unfold plainR
    cases AR with
    | none =>
     cases hz : (Qak l0).map (atR l0) with
     | nil => exact run_convert_runes_nil wr _ _ 21 _ _ hrs hri hru
     | cons a b =>
      rw [hz] at hCR
      obtain ⟨ad,e,_⟩:=Kd.at_int hCR 0 (Int.le_refl _) (by simp)
      cases e
    | some ad =>
     have:=run_convert_runes (P:=Tryz.prog) wr 48 9 21 ad ((Qak l0).map (atR l0)).length cR ((Qak l0).map (atR l0)) (Nat.le_refl _) hrs hri hru (fun q hq => by
      obtain ⟨ad',e,hc⟩:=Kd.at_int hCR (q : Int) (by omega) (by omega)
      injection e with e
      subst e
      rw [Int.toNat_natCast] at hc
      rw [hc]; unfold rd; rw [Int.toNat_natCast])
     rw [List.take_length] at this
     exact this
   have HBE:=Zz.k (Qam HBS.out HB.out)
   clear hcR hCR HR HB
   generalize ((Qak l0).map (atR l0)).length = nn at hcv
   go_wp2
   go_ret
   exact ⟨rfl,HBE.out⟩
end
section
attribute [local go_sem] Qbz Qbw Qcu Qct Qbk Qbj Qby Qbv
def doc_Text.f (l0 : List (SOp)) : Option (ByteArray × Int):=(tree_May.f l0).bind fun t262 => (if t262 = true then ((doc_Plain.f l0).bind fun t263 => (some (t263,0))) else (some ((⟨#[]⟩ : ByteArray),1)))
theorem doc_Text.calls (A0 : Option Addr) (c0 : Nat) (l0 : List (SOp)) (r1 : ByteArray) (r2 : Int) (w : World) (hr0 : Kd.C kOp w A0 l0.length l0) (hc0 : l0.length <= c0) (h : doc_Text.f l0 = some (r1,r2)) :
  Calls Tryz.prog 17 #[.slice A0 l0.length c0] w fun e w' => e = .returned (.tuple #[.string r1, .int .i64 r2]) /\ Below w.heap.size w w':=by
 have HR0:=Zz.k hr0
 have HC0:=Zz.k hc0
 clear hr0 hc0
 have HB:=Zz.k (Below.refl w.heap.size w)
 unfold doc_Text.f at h; have H:=h
 clear h
 obtain ⟨t262,A2,H⟩:=bE H
 by_cases c3 : t262 = true
 ·subst c3
  rw [if_pos rfl] at H
  obtain ⟨t263,A4,H⟩:=bE H
  simp only [Option.some.injEq,Prod.mk.injEq] at H
  obtain ⟨rfl,rfl⟩:=H
  go_enter Tryz.func17,Tryz.ntmps17
  go_wp2_with (first | ((with_reducible refine Qab (f:=44) rfl ?_); refine gl (some 5) Tryz.func44 #[.slice A0 l0.length c0] (h := ?_); (with_reducible refine (tree_May.calls _ _ l0 true _ ?side1 ?side2 A2.out).mono ?_); (case side1 => repeat (first | exact HR0.out | (with_reducible refine Kd.C_alloc ?_ _) | (with_reducible refine Kd.C_drewN ?_ _) | (with_reducible refine Kd.C_drew ?_))); (case side2 => exact HC0.out); rintro e w5 ⟨rfl,hb⟩; refine ⟨_,rfl, ?_⟩; replace HB:=bs HB hb; clear hb) | ((with_reducible refine Qab (f:=56) rfl ?_); refine gl (some 8) Tryz.func56 #[.slice A0 l0.length c0] (h := ?_); (with_reducible refine (doc_Plain.calls _ _ l0 t263 _ ?side1 ?side2 A4.out).mono ?_); (case side1 => exact cb HR0 HB); (case side2 => exact HC0.out); rintro e w6 ⟨rfl,hb⟩; refine ⟨_,rfl, ?_⟩; replace HB:=bs HB hb; clear hb))
  go_ret2
  exact ⟨re,bw HB⟩
 replace c3:=Zf c3
 subst c3
 rw [if_neg nft] at H
 simp only [Option.some.injEq,Prod.mk.injEq] at H
 obtain ⟨rfl,rfl⟩:=H
 go_enter Tryz.func17,Tryz.ntmps17
 go_wp2_with (first | ((with_reducible refine Qab (f:=44) rfl ?_); refine gl (some 5) Tryz.func44 #[.slice A0 l0.length c0] (h := ?_); (with_reducible refine (tree_May.calls _ _ l0 false _ ?side1 ?side2 A2.out).mono ?_); (case side1 => repeat (first | exact HR0.out | (with_reducible refine Kd.C_alloc ?_ _) | (with_reducible refine Kd.C_drewN ?_ _) | (with_reducible refine Kd.C_drew ?_))); (case side2 => exact HC0.out); rintro e w7 ⟨rfl,hb⟩; refine ⟨_,rfl, ?_⟩; replace HB:=bs HB hb; clear hb))
 go_ret2
 exact ⟨re,bw HB⟩
def edit_Insert.f (l0 : List (SOp)) (a1 : Int) (a2 : Int) (a3 : ByteArray) : Option (Int × Int × Int × Int × Int × Int × ByteArray × (List (SElem)) × Int × Int × Int × Int):=(edit_Replace.f l0 a1 a2 0 a3).bind fun bt265 => (some (bt265.1,bt265.2.1,bt265.2.2.1,bt265.2.2.2.1,bt265.2.2.2.2.1,bt265.2.2.2.2.2.1,bt265.2.2.2.2.2.2.1,bt265.2.2.2.2.2.2.2.1,bt265.2.2.2.2.2.2.2.2.1,bt265.2.2.2.2.2.2.2.2.2.1,bt265.2.2.2.2.2.2.2.2.2.2.1,bt265.2.2.2.2.2.2.2.2.2.2.2))
theorem edit_Insert.calls (A0 : Option Addr) (c0 : Nat) (l0 : List (SOp)) (a1 : Int) (a2 : Int) (a3 : ByteArray) (r1 : Int) (r2 : Int) (r3 : Int) (r4 : Int) (r5 : Int) (r6 : Int) (r7 : ByteArray) (r8 : List (SElem)) (r9 : Int) (r10 : Int) (r11 : Int) (r12 : Int) (w : World) (hr0 : Kd.C kOp w A0 l0.length l0) (hc0 : l0.length <= c0) (h : edit_Insert.f l0 a1 a2 a3 = some (r1,r2,r3,r4,r5,r6,r7,r8,r9,r10,r11,r12)) :
  Calls Tryz.prog 27 #[.slice A0 l0.length c0, .int .i64 a1, .int .i64 a2, .string a3] w fun e w' => ∃ v7_ : Value,e = .returned (.tuple #[.agg #[.int .i64 r1, .int .i64 r2, .int .i64 r3, .int .i64 r4, .int .i64 r5, .int .i64 r6, .string r7,v7_, .int .i64 r9, .int .i64 r10, .int .i64 r11], .int .i64 r12]) /\ Kd.R Qav 32 w' w.heap.size (fun _ => True) v7_ r8 /\ Below w.heap.size w w':=by
 have hu34:=Tryz.underlying34
 have HR0:=Zz.k hr0
 have HC0:=Zz.k hc0
 clear hr0 hc0
 have HB:=Zz.k (Below.refl w.heap.size w)
 unfold edit_Insert.f at h; have H:=h
 clear h
 obtain ⟨⟨t265,t266,t267,t268,t269,t270,t271,t272,t275,t276,t277,t278⟩,A5,H⟩:=bE H
 try dsimp only at H
 simp only [Option.some.injEq,Prod.mk.injEq] at H
 obtain ⟨rfl,rfl,rfl,rfl,rfl,rfl,rfl,rfl,rfl,rfl,rfl,rfl⟩:=H
 go_enter Tryz.func27,Tryz.ntmps27
 go_wp2_with (first | ((with_reducible refine Qad (N:=8) rfl ?_); refine bx 8 #[.int .i64 0, .int .i64 0, .int .i64 0, .int .i64 0, .int .i64 0, .int .i64 0, .string (⟨#[]⟩ : ByteArray), .slice none 0 0, .int .i64 0, .int .i64 0, .int .i64 0] 34 (h := ?_); intro gb264 hg w6 hbox hb; have BK264:=Zz.k (hbox); have GW264:=bz HB hg; have GE264:=bz HB hg; replace HB:=bs HB hb; clear hb hbox hg) | ((with_reducible refine Qab (f:=10) rfl ?_); refine gl (some 14) Tryz.func10 #[.slice A0 l0.length c0, .int .i64 a1, .int .i64 a2, .int .i64 0, .string a3] (h := ?_); (with_reducible refine (edit_Replace.calls _ _ l0 a1 a2 0 a3 t265 t266 t267 t268 t269 t270 t271 t272 t275 t276 t277 t278 _ ?side1 ?side2 A5.out).mono ?_); (case side1 => exact cb HR0 HB); (case side2 => exact HC0.out); rintro e w7 ⟨v273,rfl,ho0,hb⟩; refine ⟨_,rfl, ?_⟩; have HO274:=Zz.k (Kd.R_lower ho0 (Qai (bw HB))); replace BK264:=bl BK264 hb; replace HB:=bs HB hb; clear hb; clear ho0; obtain ⟨_,_,_,_,_,_,_,_,_,_,_,_,_,_,_,_,_,_,_,_,_,_⟩:=kc11 BK264; obtain ⟨Ao9,co9,eo9⟩:=Kd.R_slice HO274.out; subst eo9))
 refine bodyPost_ret (Qaw rfl _ _ gb264 34 #[.int .i64 t265, .int .i64 t266, .int .i64 t267, .int .i64 t268, .int .i64 t269, .int .i64 t270, .string t271, .slice Ao9 t272.length co9, .int .i64 t275, .int .i64 t276, .int .i64 t277] (0,0) _ rfl (bp11 (kk BK264)) Tryz.underlying34 rfl (by kernel_rfl)) rfl ?_
 exact ⟨_,re,by (with_reducible repeat (first | apply Kd.R_alloc | apply Kd.R_drewN | apply Kd.R_drew)); exact Kd.R_mono (rf11 (Kd.R_types HO274.out BK264.out (by decide))) (fun _ hk => trivial),bw HB⟩
end
section
attribute [local go_sem] Qbz Qbw Qcu Qct Qbk Qbj Qby Qbv
def r0_CopyElems.l0 : Nat -> List (SElem) -> List (SElem) -> Int -> Option ((List (SElem)))
 | 0,_,_,_ => none
 | k + 1,x0,x3,x4 => if x4 < (x0.length : Int) then (if 0 <= x4 then (if x3.length < 5864062014805 then (r0_CopyElems.l0 k x0 (x3 ++ [(⟨(Qac x0 x4).f0,(Qac x0 x4).f1,(Qac x0 x4).f2⟩ : SElem)]) (wrap64 (x4 + 1))) else (none)) else (none)) else (some x3)
def r0_CopyElems.f (k : Nat) (l0 : List (SElem)) : Option ((List (SElem))):=r0_CopyElems.l0 k l0 ([] : List (SElem)) 0
theorem r0_CopyElems.calls (k : Nat) (A0 : Option Addr) (c0 : Nat) (l0 : List (SElem)) (r : List (SElem)) (w : World) (hr0 : Kd.C Qav w A0 l0.length l0) (hc0 : l0.length <= c0) (h : r0_CopyElems.f k l0 = some r) :
  Calls Tryz.prog 88 #[.slice A0 l0.length c0] w fun e w' => ∃ v0_ : Value,e = .returned (v0_) /\ Kd.R Qav 32 w' w.heap.size (fun _ => True) v0_ r /\ Below w.heap.size w w':=by
 have hu32:=Tryz.underlying32
 have HR0:=Zz.k hr0
 have HC0:=Zz.k hc0
 clear hr0 hc0
 have HB:=Zz.k (Below.refl w.heap.size w)
 unfold r0_CopyElems.f at h; have H:=h
 clear h
 have H':=Zz.k H
 clear H
 go_enter Tryz.func88,Tryz.ntmps88
 go_wp2
 go_loopg [3,4] k (fun kq v3 v4 w' => ∃ (x3_1 : List (SElem)) (x4_1 : Int),v4 = .int .i64 x4_1 /\ Zz (r0_CopyElems.l0 kq l0 x3_1 x4_1 = some r) /\ Zz (kq <= k) /\ Zz (Kd.R Qav 32 w' w.heap.size (fun _ => True) v3 x3_1) /\ Zz (Below w.heap.size w w'))
 case atStart => exact ⟨(([] : List (SElem))),(0),rf,H',⟨Nat.le_refl _⟩,⟨by first | exact Kd.R_nil _ _ _ _ _ | exact Kd.N_nil _ _ _ _ _ | exact Kd.V_nil _ _ _ _ _ | exact Kd.Q_nil _ _ _ _ _ | exact Kd.S_nil _ _ _ _ _⟩,⟨bw HB⟩⟩
 case round =>
  clear H'
  obtain ⟨x3_1,x4_1,rfl,HA,HK1,HO_3,HB⟩:=hrel
  cases gk with
  | zero => exact absurd HA.out (by simp [r0_CopyElems.l0])
  | succ k1 =>
   have H:=HA.out
   clear HA
   simp only [r0_CopyElems.l0] at H
   by_cases c2 : x4_1 < (l0.length : Int); rotate_left
   ·rw [if_neg c2] at H
    have c2b0:=Ze c2
    clear c2
    obtain rfl:=Zo H
    go_wp2
    go_ret
    exact ⟨_,re,by (with_reducible repeat (first | apply Kd.R_alloc | apply Kd.R_drewN | apply Kd.R_drew)); exact HO_3.out,bw HB⟩
   rw [if_pos c2] at H
   have c2b0:=Zd c2
   clear c2
   by_cases c3 : 0 <= x4_1; rotate_left
   ·rw [if_neg c3] at H
    exact absurd H (by simp)
   rw [if_pos c3] at H
   have c3b0:=Zd c3
   clear c3
   by_cases c4 : x3_1.length < 5864062014805; rotate_left
   ·rw [if_neg c4] at H
    exact absurd H (by simp)
   rw [if_pos c4] at H
   have LMc4:=Zz.k c4
   clear c4
   obtain ⟨y280,hy280⟩ : ∃ y_ : List (SElem),y_ = (x3_1 ++ [(⟨(Qac l0 x4_1).f0,(Qac l0 x4_1).f1,(Qac l0 x4_1).f2⟩ : SElem)]):=⟨_,rfl⟩
   first | rw [Option.bind_some,<- hy280] at H | rw [<- hy280] at H
   have Ny280:=Zz.k hy280
   clear hy280
   have H':=Zz.k H
   clear H
   have p279 : 0 <= (x4_1 : Int):=od
   have q279 : x4_1 < (l0.length : Int):=od
   obtain ⟨ad279,e279,hx279_0,hx279_1,hx279_2⟩:=Qbm HR0.out x4_1 p279 q279
   cases e279
   replace hx279_0:=cl HB hx279_0
   replace hx279_1:=cl HB hx279_1
   replace hx279_2:=cl HB hx279_2
   replace p279:=eq_true p279
   replace q279:=eq_true q279
   go_wp2_with (first | ((with_reducible refine Qcw (b:=.append) (xs:=#[.tmp 11, .tmp 16]) rfl ?_); at_builtin; refine Kd.R_append Qav (w0:=w) w.heap.size rfl (.tmp 11) (.tmp 16) 23 32 (.agg #[(.int .i64 0),(.int .i64 0),(.int .i64 0)]) 24 rfl Tryz.underlying23 info32 rfl (by decide) (by omega) u3 x3_1 (⟨(Qac l0 x4_1).f0,(Qac l0 x4_1).f1,(Qac l0 x4_1).f2⟩ : SElem) [.int .i64 ((Qac l0 x4_1).f0), .int .i64 ((Qac l0 x4_1).f1), .int .i64 ((Qac l0 x4_1).f2)] (fun _ => True) (fun _ => False) rfl rfl ?aP (fun _ hk => hk.elim) ?aF ?aO ?aB ?aS ?aL ?_; (case aP => exact Qdb _ _ _ (⟨(Qac l0 x4_1).f0,(Qac l0 x4_1).f1,(Qac l0 x4_1).f2⟩ : SElem)); (case aB => exact (bw HB)); (case aF => exact (fun _ _ => trivial)); (case aO => exact (rk HO_3)); (case aS => exact (Qai (bw HB))); (case aL => have:=LMc4.out; omega); intro v281 w5 ho hb hg hat; rw [<- Ny280.out] at ho; have n0_:=Zz.k (hb); have n1_:=Zz.k (ho); clear HB; clear HO_3; have HB:=n0_; have HO282:=n1_; clear n0_ n1_; clear ho hb hg hat))
   go_roundg k1
   case measure => have:=HK1.out; omega
   case rel => exact ⟨(y280),(wrap64 (x4_1 + 1)),rf,H',⟨by have:=HK1.out; omega⟩,⟨rk HO282⟩,⟨bw HB⟩⟩
def r0_CopyOp.f (k : Nat) (a0_0 : Int) (a0_1 : Int) (a0_2 : Int) (a0_3 : Int) (a0_4 : Int) (a0_5 : Int) (a0_6 : ByteArray) (l0_7 : List (SElem)) (a0_8 : Int) (a0_9 : Int) (a0_10 : Int) : Option (Int × Int × Int × Int × Int × Int × ByteArray × (List (SElem)) × Int × Int × Int):=(r0_CopyElems.f k l0_7).bind fun t286 => (some (a0_0,a0_1,a0_2,a0_3,a0_4,a0_5,a0_6,t286,a0_8,a0_9,a0_10))
theorem r0_CopyOp.calls (k : Nat) (a0_0 : Int) (a0_1 : Int) (a0_2 : Int) (a0_3 : Int) (a0_4 : Int) (a0_5 : Int) (a0_6 : ByteArray) (A0_7 : Option Addr) (c0_7 : Nat) (l0_7 : List (SElem)) (a0_8 : Int) (a0_9 : Int) (a0_10 : Int) (r1 : Int) (r2 : Int) (r3 : Int) (r4 : Int) (r5 : Int) (r6 : Int) (r7 : ByteArray) (r8 : List (SElem)) (r9 : Int) (r10 : Int) (r11 : Int) (w : World) (hr0_7 : Kd.C Qav w A0_7 l0_7.length l0_7) (hc0_7 : l0_7.length <= c0_7) (h : r0_CopyOp.f k a0_0 a0_1 a0_2 a0_3 a0_4 a0_5 a0_6 l0_7 a0_8 a0_9 a0_10 = some (r1,r2,r3,r4,r5,r6,r7,r8,r9,r10,r11)) :
  Calls Tryz.prog 54 #[.agg #[.int .i64 a0_0, .int .i64 a0_1, .int .i64 a0_2, .int .i64 a0_3, .int .i64 a0_4, .int .i64 a0_5, .string a0_6, .slice A0_7 l0_7.length c0_7, .int .i64 a0_8, .int .i64 a0_9, .int .i64 a0_10]] w fun e w' => ∃ v7_ : Value,e = .returned (.agg #[.int .i64 r1, .int .i64 r2, .int .i64 r3, .int .i64 r4, .int .i64 r5, .int .i64 r6, .string r7,v7_, .int .i64 r9, .int .i64 r10, .int .i64 r11]) /\ Kd.R Qav 32 w' w.heap.size (fun _ => True) v7_ r8 /\ Below w.heap.size w w':=by
 have hu34:=Tryz.underlying34
 have HR0_7:=Zz.k hr0_7
 have HC0_7:=Zz.k hc0_7
 clear hr0_7 hc0_7
 have HB:=Zz.k (Below.refl w.heap.size w)
 unfold r0_CopyOp.f at h; have H:=h
 clear h
 obtain ⟨t286,A2,H⟩:=bE H
 simp only [Option.some.injEq,Prod.mk.injEq] at H
 obtain ⟨rfl,rfl,rfl,rfl,rfl,rfl,rfl,rfl,rfl,rfl,rfl⟩:=H
 go_enter Tryz.func54,Tryz.ntmps54
 go_wp2_with (first | ((with_reducible refine Qad (N:=1) rfl ?_); refine bx 1 #[.int .i64 a0_0, .int .i64 a0_1, .int .i64 a0_2, .int .i64 a0_3, .int .i64 a0_4, .int .i64 a0_5, .string a0_6, .slice A0_7 l0_7.length c0_7, .int .i64 a0_8, .int .i64 a0_9, .int .i64 a0_10] 34 (h := ?_); intro gb283 hg w3 hbox hb; have BK283:=Zz.k (hbox); have GW283:=bz HB hg; have GE283:=bz HB hg; replace HB:=bs HB hb; clear hb hbox hg) | ((with_reducible refine Qad (N:=2) rfl ?_); refine bx 2 #[.int .i64 0, .int .i64 0, .int .i64 0, .int .i64 0, .int .i64 0, .int .i64 0, .string (⟨#[]⟩ : ByteArray), .slice none 0 0, .int .i64 0, .int .i64 0, .int .i64 0] 34 (h := ?_); intro gb284 hg w4 hbox hb; have BK284:=Zz.k (hbox); have GW284:=bz HB hg; have GE284:=bz HB hg; have NB283_284:=bn BK283 hg; have NB284_283:=bm BK283 hg; replace BK283:=bl BK283 hb; replace HB:=bs HB hb; clear hb hbox hg; have hnb5:=NB283_284.out; have hnc5:=NB284_283.out; obtain ⟨_,_,_,_,_,_,_,_,_,_,_,_,_,_,_,_,_,_,_,_,_,_⟩:=kc11 BK283) | ((with_reducible refine Qad (N:=3) rfl ?_); refine bx 3 #[.int .i64 0, .int .i64 0, .int .i64 0, .int .i64 0, .int .i64 0, .int .i64 0, .string (⟨#[]⟩ : ByteArray), .slice none 0 0, .int .i64 0, .int .i64 0, .int .i64 0] 34 (h := ?_); intro gb285 hg w7 hbox hb; have BK285:=Zz.k (hbox); have GW285:=bz HB hg; have GE285:=bz HB hg; have NB283_285:=bn BK283 hg; have NB285_283:=bm BK283 hg; have NB284_285:=bn BK284 hg; have NB285_284:=bm BK284 hg; replace BK283:=bl BK283 hb; replace BK284:=bl BK284 hb; replace HB:=bs HB hb; clear hb hbox hg; have hnb8:=NB285_283.out; have hnc8:=NB283_285.out; have hnb9:=NB285_284.out; have hnc9:=NB284_285.out; obtain ⟨_,_,_,_,_,_,_,_,_,_,_,_,_,_,_,_,_,_,_,_,_,_⟩:=kc11 BK285; obtain ⟨_,_,_,_,_,_,_,_,_,_,_,_,_,_,_,_,_,_,_,_,_,_⟩:=kc11 BK283) | ((with_reducible refine Qab (f:=88) rfl ?_); refine gl (some 7) Tryz.func88 #[.slice A0_7 l0_7.length c0_7] (h := ?_); (with_reducible refine (r0_CopyElems.calls k _ _ l0_7 t286 _ ?side1 ?side2 A2.out).mono ?_); (case side1 => exact Kd.C_below HR0_7.out (bw HB)); (case side2 => exact HC0_7.out); rintro e w12 ⟨v287,rfl,ho0,hb⟩; refine ⟨_,rfl, ?_⟩; have HO288:=Zz.k (Kd.R_lower ho0 (Qai (bw HB))); replace BK283:=bl BK283 hb; replace BK284:=bl BK284 hb; replace BK285:=Zz.k (Qbn (bp11 (kk BK285)) hb); replace HB:=bs HB hb; clear hb; clear ho0; obtain ⟨Ao13,co13,eo13⟩:=Kd.R_slice HO288.out; subst eo13; obtain ⟨_,_,_,_,_,_,_,_,_,_,_,_,_,_,_,_,_,_,_,_,_,_⟩:=kc11 BK285; obtain ⟨_,_,_,_,_,_,_,_,_,_,_,_,_,_,_,_,_,_,_,_,_,_⟩:=kc11 BK284))
 refine bodyPost_ret (results_cell_row rfl _ _ gb284 34 #[.int .i64 a0_0, .int .i64 a0_1, .int .i64 a0_2, .int .i64 a0_3, .int .i64 a0_4, .int .i64 a0_5, .string a0_6, .slice Ao13 t286.length co13, .int .i64 a0_8, .int .i64 a0_9, .int .i64 a0_10] (0,0) _ rfl (by (with_reducible repeat (first | refine Qbe ?_ _ | refine Qat ?_ | refine blk_alloc ?_ _)); refine Qbl (cs:=#[.int .i64 a0_0, .int .i64 a0_1, .int .i64 a0_2, .int .i64 a0_3, .int .i64 a0_4, .int .i64 a0_5, .string a0_6, .slice Ao13 t286.length co13, .int .i64 a0_8, .int .i64 a0_9, .int .i64 0]) ?_ 10 _ rfl; (with_reducible repeat (first | refine Qbe ?_ _ | refine Qat ?_ | refine blk_alloc ?_ _)); refine Qbl (cs:=#[.int .i64 a0_0, .int .i64 a0_1, .int .i64 a0_2, .int .i64 a0_3, .int .i64 a0_4, .int .i64 a0_5, .string a0_6, .slice Ao13 t286.length co13, .int .i64 a0_8, .int .i64 0, .int .i64 0]) ?_ 9 _ rfl; (with_reducible repeat (first | refine Qbe ?_ _ | refine Qat ?_ | refine blk_alloc ?_ _)); refine Qbl (cs:=#[.int .i64 a0_0, .int .i64 a0_1, .int .i64 a0_2, .int .i64 a0_3, .int .i64 a0_4, .int .i64 a0_5, .string a0_6, .slice Ao13 t286.length co13, .int .i64 0, .int .i64 0, .int .i64 0]) ?_ 8 _ rfl; (with_reducible repeat (first | refine Qbe ?_ _ | refine Qat ?_ | refine blk_alloc ?_ _)); refine Qbl (cs:=#[.int .i64 a0_0, .int .i64 a0_1, .int .i64 a0_2, .int .i64 a0_3, .int .i64 a0_4, .int .i64 a0_5, .string a0_6, .slice none 0 0, .int .i64 0, .int .i64 0, .int .i64 0]) ?_ 7 _ rfl; (with_reducible repeat (first | refine Qbe ?_ _ | refine Qat ?_ | refine blk_alloc ?_ _)); refine Qbl (cs:=#[.int .i64 a0_0, .int .i64 a0_1, .int .i64 a0_2, .int .i64 a0_3, .int .i64 a0_4, .int .i64 a0_5, .string (⟨#[]⟩ : ByteArray), .slice none 0 0, .int .i64 0, .int .i64 0, .int .i64 0]) ?_ 6 _ rfl; (with_reducible repeat (first | refine Qbe ?_ _ | refine Qat ?_ | refine blk_alloc ?_ _)); refine Qbl (cs:=#[.int .i64 a0_0, .int .i64 a0_1, .int .i64 a0_2, .int .i64 a0_3, .int .i64 a0_4, .int .i64 0, .string (⟨#[]⟩ : ByteArray), .slice none 0 0, .int .i64 0, .int .i64 0, .int .i64 0]) ?_ 5 _ rfl; (with_reducible repeat (first | refine Qbe ?_ _ | refine Qat ?_ | refine blk_alloc ?_ _)); refine Qbl (cs:=#[.int .i64 a0_0, .int .i64 a0_1, .int .i64 a0_2, .int .i64 a0_3, .int .i64 0, .int .i64 0, .string (⟨#[]⟩ : ByteArray), .slice none 0 0, .int .i64 0, .int .i64 0, .int .i64 0]) ?_ 4 _ rfl; (with_reducible repeat (first | refine Qbe ?_ _ | refine Qat ?_ | refine blk_alloc ?_ _)); refine Qbl (cs:=#[.int .i64 a0_0, .int .i64 a0_1, .int .i64 a0_2, .int .i64 0, .int .i64 0, .int .i64 0, .string (⟨#[]⟩ : ByteArray), .slice none 0 0, .int .i64 0, .int .i64 0, .int .i64 0]) ?_ 3 _ rfl; (with_reducible repeat (first | refine Qbe ?_ _ | refine Qat ?_ | refine blk_alloc ?_ _)); refine Qbl (cs:=#[.int .i64 a0_0, .int .i64 a0_1, .int .i64 0, .int .i64 0, .int .i64 0, .int .i64 0, .string (⟨#[]⟩ : ByteArray), .slice none 0 0, .int .i64 0, .int .i64 0, .int .i64 0]) ?_ 2 _ rfl; (with_reducible repeat (first | refine Qbe ?_ _ | refine Qat ?_ | refine blk_alloc ?_ _)); refine Qbl (cs:=#[.int .i64 a0_0, .int .i64 0, .int .i64 0, .int .i64 0, .int .i64 0, .int .i64 0, .string (⟨#[]⟩ : ByteArray), .slice none 0 0, .int .i64 0, .int .i64 0, .int .i64 0]) ?_ 1 _ rfl; (with_reducible repeat (first | refine Qbe ?_ _ | refine Qat ?_ | refine blk_alloc ?_ _)); refine Qbl (cs:=#[.int .i64 0, .int .i64 0, .int .i64 0, .int .i64 0, .int .i64 0, .int .i64 0, .string (⟨#[]⟩ : ByteArray), .slice none 0 0, .int .i64 0, .int .i64 0, .int .i64 0]) ?_ 0 _ rfl; (with_reducible repeat (first | refine Qbe ?_ _ | refine Qat ?_ | refine blk_alloc ?_ _)); refine Qcb ?_ NB284_285.out _; (with_reducible repeat (first | refine Qbe ?_ _ | refine Qat ?_ | refine blk_alloc ?_ _)); exact BK284.out) Tryz.underlying34 rfl (by kernel_rfl)) rfl ?_
 exact ⟨_,re,by (with_reducible repeat (first | apply Kd.R_alloc | apply Kd.R_drewN | apply Kd.R_drew)); exact Kd.R_mono (rf11 (Kd.R_far (p:=⟨gb285,7,none⟩) (Kd.R_types (Kd.R_types HO288.out BK285.out (by decide)) BK284.out (by decide)) (fun _ hk => hk.1.2) (.slice Ao13 t286.length co13))) (fun _ hk => trivial),bw HB⟩
def r0_CopyOps.l0 : Nat -> List (SOp) -> List (SOp) -> Int -> Option ((List (SOp)))
 | 0,_,_,_ => none
 | k + 1,x0,x3,x4 => if x4 < (x0.length : Int) then (if 0 <= x4 then ((r0_CopyOp.f k ((Qah x0 x4).f0) ((Qah x0 x4).f1) ((Qah x0 x4).f2) ((Qah x0 x4).f3.f0) ((Qah x0 x4).f3.f1) ((Qah x0 x4).f3.f2) ((Qah x0 x4).f4) ((Qah x0 x4).f5) ((Qah x0 x4).f6) ((Qah x0 x4).f7) ((Qah x0 x4).f8)).bind fun bt290 => (if x3.length < 1256584717458 then (r0_CopyOps.l0 k x0 (x3 ++ [(⟨bt290.1,bt290.2.1,bt290.2.2.1,(⟨bt290.2.2.2.1,bt290.2.2.2.2.1,bt290.2.2.2.2.2.1⟩ : SElem),bt290.2.2.2.2.2.2.1,bt290.2.2.2.2.2.2.2.1,bt290.2.2.2.2.2.2.2.2.1,bt290.2.2.2.2.2.2.2.2.2.1,bt290.2.2.2.2.2.2.2.2.2.2⟩ : SOp)]) (wrap64 (x4 + 1))) else (none))) else (none)) else (some x3)
def r0_CopyOps.f (k : Nat) (l0 : List (SOp)) : Option ((List (SOp))):=r0_CopyOps.l0 k l0 ([] : List (SOp)) 0
theorem r0_CopyOps.calls (k : Nat) (A0 : Option Addr) (c0 : Nat) (l0 : List (SOp)) (r : List (SOp)) (w : World) (hr0 : Kd.C kOp w A0 l0.length l0) (hc0 : l0.length <= c0) (h : r0_CopyOps.f k l0 = some r) :
  Calls Tryz.prog 20 #[.slice A0 l0.length c0] w fun e w' => ∃ v0_ : Value,e = .returned (v0_) /\ Kd.S kOp 34 w' w.heap.size (fun _ => True) v0_ r /\ Below w.heap.size w w':=by
 have hu34:=Tryz.underlying34
 have HR0:=Zz.k hr0
 have HC0:=Zz.k hc0
 clear hr0 hc0
 have HB:=Zz.k (Below.refl w.heap.size w)
 unfold r0_CopyOps.f at h; have H:=h
 clear h
 have H':=Zz.k H
 clear H
 go_enter Tryz.func20,Tryz.ntmps20
 go_wp2
 go_loopg [3,4] k (fun kq v3 v4 w' => ∃ (x3_1 : List (SOp)) (x4_1 : Int),v4 = .int .i64 x4_1 /\ Zz (r0_CopyOps.l0 kq l0 x3_1 x4_1 = some r) /\ Zz (kq <= k) /\ Zz (Kd.S kOp 34 w' w.heap.size (fun _ => True) v3 x3_1) /\ Zz (Below w.heap.size w w'))
 case atStart => exact ⟨(([] : List (SOp))),(0),rf,H',⟨Nat.le_refl _⟩,⟨by first | exact Kd.S_nil _ _ _ _ _ | exact Kd.N_nil _ _ _ _ _ | exact Kd.V_nil _ _ _ _ _ | exact Kd.Q_nil _ _ _ _ _ | exact Kd.R_nil _ _ _ _ _⟩,⟨bw HB⟩⟩
 case round =>
  clear H'
  obtain ⟨x3_1,x4_1,rfl,HA,HK1,HO_3,HB⟩:=hrel
  cases gk with
  | zero => exact absurd HA.out (by simp [r0_CopyOps.l0])
  | succ k1 =>
   have H:=HA.out
   clear HA
   simp only [r0_CopyOps.l0] at H
   by_cases c2 : x4_1 < (l0.length : Int); rotate_left
   ·rw [if_neg c2] at H
    have c2b0:=Ze c2
    clear c2
    obtain rfl:=Zo H
    go_wp2
    go_ret
    exact ⟨_,re,by (with_reducible repeat (first | apply Kd.S_alloc | apply Kd.S_drewN | apply Kd.S_drew)); exact HO_3.out,bw HB⟩
   rw [if_pos c2] at H
   have c2b0:=Zd c2
   clear c2
   by_cases c3 : 0 <= x4_1; rotate_left
   ·rw [if_neg c3] at H
    exact absurd H (by simp)
   rw [if_pos c3] at H
   have c3b0:=Zd c3
   clear c3
   obtain ⟨⟨t290,t291,t292,t293,t294,t295,t296,t297,t300,t301,t302⟩,A4,H⟩:=bE H
   try dsimp only at H
   by_cases c5 : x3_1.length < 1256584717458; rotate_left
   ·rw [if_neg c5] at H
    exact absurd H (by simp)
   rw [if_pos c5] at H
   have LMc5:=Zz.k c5
   clear c5
   obtain ⟨y303,hy303⟩ : ∃ y_ : List (SOp),y_ = (x3_1 ++ [(⟨t290,t291,t292,(⟨t293,t294,t295⟩ : SElem),t296,t297,t300,t301,t302⟩ : SOp)]):=⟨_,rfl⟩
   first | rw [Option.bind_some,<- hy303] at H | rw [<- hy303] at H
   have Ny303:=Zz.k hy303
   clear hy303
   have H':=Zz.k H
   clear H
   have p289 : 0 <= (x4_1 : Int):=od
   have q289 : x4_1 < (l0.length : Int):=od
   obtain ⟨ad289,A289_7,c289_7,e289,hx289_0,hx289_1,hx289_2,hx289_3,hx289_4,hx289_5,hx289_6,hx289_7,hx289_8,hx289_9,hx289_10,hl289_7,hi289_7⟩:=at_Op HR0.out x4_1 p289 q289
   cases e289
   replace hx289_0:=cl HB hx289_0
   replace hx289_1:=cl HB hx289_1
   replace hx289_2:=cl HB hx289_2
   replace hx289_3:=cl HB hx289_3
   replace hx289_4:=cl HB hx289_4
   replace hx289_5:=cl HB hx289_5
   replace hx289_6:=cl HB hx289_6
   replace hx289_7:=cl HB hx289_7
   replace hx289_8:=cl HB hx289_8
   replace hx289_9:=cl HB hx289_9
   replace hx289_10:=cl HB hx289_10
   have HR289_7:=Zz.k hi289_7
   have HC289_7:=Zz.k hl289_7
   clear hi289_7 hl289_7
   replace p289:=eq_true p289
   replace q289:=eq_true q289
   go_wp2_with (first | ((with_reducible refine Qab (f:=54) rfl ?_); refine gl (some 16) Tryz.func54 #[.agg #[.int .i64 ((Qah l0 x4_1).f0), .int .i64 ((Qah l0 x4_1).f1), .int .i64 ((Qah l0 x4_1).f2), .int .i64 ((Qah l0 x4_1).f3.f0), .int .i64 ((Qah l0 x4_1).f3.f1), .int .i64 ((Qah l0 x4_1).f3.f2), .string ((Qah l0 x4_1).f4), .slice A289_7 ((Qah l0 x4_1).f5).length c289_7, .int .i64 ((Qah l0 x4_1).f6), .int .i64 ((Qah l0 x4_1).f7), .int .i64 ((Qah l0 x4_1).f8)]] (h := ?_); (with_reducible refine (r0_CopyOp.calls k1 ((Qah l0 x4_1).f0) ((Qah l0 x4_1).f1) ((Qah l0 x4_1).f2) ((Qah l0 x4_1).f3.f0) ((Qah l0 x4_1).f3.f1) ((Qah l0 x4_1).f3.f2) ((Qah l0 x4_1).f4) _ _ ((Qah l0 x4_1).f5) ((Qah l0 x4_1).f6) ((Qah l0 x4_1).f7) ((Qah l0 x4_1).f8) t290 t291 t292 t293 t294 t295 t296 t297 t300 t301 t302 _ ?side1 ?side2 A4.out).mono ?_); (case side1 => exact cb HR289_7 HB); (case side2 => exact HC289_7.out); rintro e w6 ⟨v298,rfl,ho0,hb⟩; refine ⟨_,rfl, ?_⟩; have HO299:=Zz.k (Kd.R_lower ho0 (Qai (bw HB))); replace HO_3:=Zz.k (Kd.S_elder' (sk HO_3) (Kd.R_base ho0) hb); replace HB:=bs HB hb; clear hb; clear ho0; obtain ⟨Ao8,co8,eo8⟩:=Kd.R_slice HO299.out; subst eo8) | ((with_reducible refine Qcw (b:=.append) (xs:=#[.tmp 11, .tmp 17]) rfl ?_); at_builtin; refine Kd.S_append kOp (w0:=w) w.heap.size rfl (.tmp 11) (.tmp 17) 24 34 (.agg #[(.int .i64 0),(.int .i64 0),(.int .i64 0),(.int .i64 0),(.int .i64 0),(.int .i64 0),(.string ⟨#[]⟩),(.slice none 0 0),(.int .i64 0),(.int .i64 0),(.int .i64 0)]) 112 rfl Tryz.underlying24 info34 rfl (by decide) (by omega) u3 x3_1 (⟨t290,t291,t292,(⟨t293,t294,t295⟩ : SElem),t296,t297,t300,t301,t302⟩ : SOp) [.int .i64 t290, .int .i64 t291, .int .i64 t292, .int .i64 t293, .int .i64 t294, .int .i64 t295, .string t296, .slice Ao8 t297.length co8, .int .i64 t300, .int .i64 t301, .int .i64 t302] (fun _ => True) (fun k_ => some k_ = (.slice Ao8 t297.length co8 : Value).ownBlock) rfl rfl ?aP (fun k_ hk_ => ((Kd.R_mono (ok':=fun k_ => ((fun _ => True)) k_ /\ some k_ ≠ (u3 : Value).ownBlock) (Kd.R_apart' (HO299.out) (Kd.S_typed HO_3.out) (by decide)) (fun k_ hk => ⟨trivial,hk.2⟩))).1 k_ hk_.symm) ?aF ?aO ?aB ?aS ?aL ?_; (case aP => exact kOp_mkM _ _ _ (⟨t290,t291,t292,(⟨t293,t294,t295⟩ : SElem),t296,t297,t300,t301,t302⟩ : SOp) (Kd.R_mono (Kd.R_tight rfl (Kd.R_mono (ok':=fun k_ => ((fun _ => True)) k_ /\ some k_ ≠ (u3 : Value).ownBlock) (Kd.R_apart' (HO299.out) (Kd.S_typed HO_3.out) (by decide)) (fun k_ hk => ⟨trivial,hk.2⟩))) (fun _ h_ => h_))); (case aB => exact (bw HB)); (case aF => exact (fun _ _ => trivial)); (case aO => exact (by (with_reducible repeat (first | apply Kd.S_alloc | apply Kd.S_drewN | apply Kd.S_drew)); exact Kd.S_mono HO_3.out (fun k_ hk => ⟨trivial,fun e_ => hk.2 e_⟩))); (case aS => exact (Qai (bw HB))); (case aL => have:=LMc5.out; omega); intro v304 w7 ho hb hg hat; rw [<- Ny303.out] at ho; have n0_:=Zz.k (hb); have n1_:=Zz.k (ho); clear HB; clear HO_3; clear HO299; have HB:=n0_; have HO305:=n1_; clear n0_ n1_; clear ho hb hg hat))
   go_roundg k1
   case measure => have:=HK1.out; omega
   case rel => exact ⟨(y303),(wrap64 (x4_1 + 1)),rf,H',⟨by have:=HK1.out; omega⟩,⟨sk HO305⟩,⟨bw HB⟩⟩
end
section
attribute [local go_sem] Qbz Qbw Qcu Qct Qbk Qbj Qby Qbv
attribute [local go_sem high] eqAElem
def w11_num.f (a0 : Int) : Option (Int):=some a0
theorem w11_num.calls (a0 : Int) (r : Int) (w : World) (h : w11_num.f a0 = some r) :
  Calls Tryz.prog 32 #[.int .i64 a0] w fun e w' => e = .returned (.int .i64 r) /\ Drawn0 w w':=by
 unfold w11_num.f at h; have H:=h
 clear h
 obtain rfl:=Zo H
 go_enter Tryz.func32,Tryz.ntmps32
 go_wp2
 go_ret
 exact ⟨rf,by repeat (first | exact Drawn0.refl _ | apply Drawn0.step)⟩
def caret_Set.j0 : Nat -> Int -> List (SElem) -> Bool -> Option (Int × Int × Int × Int)
 | 0,_,_,_ => none
 | k + 1,x1,x6,x13 => if x13 = true then (some (0,0,0,2)) else (if x1 = 0 then (some (0,0,0,0)) else (if 0 <= (wrap64 (x1 - 1)) then (if (wrap64 (x1 - 1)) < (x6.length : Int) then (some ((Qac x6 (wrap64 (x1 - 1))).f0,(Qac x6 (wrap64 (x1 - 1))).f1,(Qac x6 (wrap64 (x1 - 1))).f2,0)) else (none)) else (none)))
def caret_Set.f (k : Nat) (l0 : List (SOp)) (a1 : Int) : Option (Int × Int × Int × Int):=(tree_May.f l0).bind fun t689 => (if t689 = true then ((doc_Seen.f l0).bind fun t690 => (if a1 < 0 then (caret_Set.j0 k a1 t690 true) else (caret_Set.j0 k a1 t690 (decide (a1 > (t690.length : Int)))))) else (some (0,0,0,1)))
theorem caret_Set.mono_l : ∀ k,(∀ y0 y1 y2,LeO (caret_Set.j0 k y0 y1 y2) (caret_Set.j0 (k + 1) y0 y1 y2))
 | 0 => fun _ _ _ r h => by simp [caret_Set.j0] at h
 | k + 1 => by
  have ih0:=caret_Set.mono_l k
  ·intro y0 y1 y2
   unfold caret_Set.j0
   repeat' first
   | (with_reducible exact ih0 _ _ _)
   | (with_reducible exact LeO.refl _)
   | (with_reducible exact LeO.none _)
   | (with_reducible refine LeO.ite ?_ ?_)
   | (with_reducible refine LeO.bind ?_ (fun _ => ?_))
   | exact ih0 _ _ _
   | exact LeO.none _
   | refine LeO.ite ?_ ?_
   | refine LeO.bind ?_ (fun _ => ?_)
theorem caret_Set.mono : ∀ a0 a1 k,LeO (caret_Set.f k a0 a1) (caret_Set.f (k + 1) a0 a1):=by
 intro a0 a1 k
 have ih0:=caret_Set.mono_l k
 unfold caret_Set.f
 repeat' first
   | (with_reducible exact ih0 _ _ _)
   | (with_reducible exact LeO.refl _)
   | (with_reducible exact LeO.none _)
   | (with_reducible refine LeO.ite ?_ ?_)
   | (with_reducible refine LeO.bind ?_ (fun _ => ?_))
   | exact ih0 _ _ _
   | exact LeO.none _
   | refine LeO.ite ?_ ?_
   | refine LeO.bind ?_ (fun _ => ?_)
theorem caret_Set.calls (k : Nat) (A0 : Option Addr) (c0 : Nat) (l0 : List (SOp)) (a1 : Int) (r1 : Int) (r2 : Int) (r3 : Int) (r4 : Int) (w : World) (hr0 : Kd.C kOp w A0 l0.length l0) (hc0 : l0.length <= c0) (h : caret_Set.f k l0 a1 = some (r1,r2,r3,r4)) :
  Calls Tryz.prog 33 #[.slice A0 l0.length c0, .int .i64 a1] w fun e w' => e = .returned (.tuple #[.agg #[.int .i64 r1, .int .i64 r2, .int .i64 r3], .int .i64 r4]) /\ Below w.heap.size w w':=by
 have hu32:=Tryz.underlying32
 have HR0:=Zz.k hr0
 have HC0:=Zz.k hc0
 clear hr0 hc0
 have HB:=Zz.k (Below.refl w.heap.size w)
 unfold caret_Set.f at h; have H:=h
 clear h
 obtain ⟨t689,A3,H⟩:=bE H
 by_cases c4 : t689 = true; rotate_left
 ·replace c4:=Zf c4
  subst c4
  rw [if_neg nft] at H
  simp only [Option.some.injEq,Prod.mk.injEq] at H
  obtain ⟨rfl,rfl,rfl,rfl⟩:=H
  go_enter Tryz.func33,Tryz.ntmps33
  go_wp2_with (first | ((with_reducible refine Qad (N:=4) rfl ?_); (try (refine Qal (by rfl) ?_; dsimp only)); refine bx 4 #[.int .i64 0, .int .i64 0, .int .i64 0] 32 (h := ?_); intro gb688 hg w21 hbox hb; have BK688:=Zz.k (hbox); have GW688:=bz HB hg; have GE688:=bz HB hg; replace HB:=bs HB hb; clear hb hbox hg) | ((with_reducible refine Qab (f:=44) rfl ?_); refine gl (some 8) Tryz.func44 #[.slice A0 l0.length c0] (h := ?_); (with_reducible refine (tree_May.calls _ _ l0 false _ ?side1 ?side2 A3.out).mono ?_); (case side1 => exact cb HR0 HB); (case side2 => exact HC0.out); rintro e w22 ⟨rfl,hb⟩; refine ⟨_,rfl, ?_⟩; replace BK688:=bl BK688 hb; replace HB:=bs HB hb; clear hb; obtain ⟨_,_,_,_,_,_⟩:=kc3 BK688))
  refine bodyPost_ret (Qaw rfl _ _ gb688 32 #[.int .i64 0, .int .i64 0, .int .i64 0] (0,0) _ rfl (bp (bp (bp (kk BK688) 0) 1) 2) Tryz.underlying32 rfl (by kernel_rfl)) rfl ?_
  exact ⟨re,bw HB⟩
 subst c4
 rw [if_pos rfl] at H
 obtain ⟨t690,A5,H⟩:=bE H
 have HC6:=Zz.k H
 clear H
 go_enter Tryz.func33,Tryz.ntmps33
 go_upto_region 4 with (first | ((with_reducible refine Qad (N:=4) rfl ?_); (try (refine Qal (by rfl) ?_; dsimp only)); refine bx 4 #[.int .i64 0, .int .i64 0, .int .i64 0] 32 (h := ?_); intro gb688 hg w7 hbox hb; have BK688:=Zz.k (hbox); have GW688:=bz HB hg; have GE688:=bz HB hg; replace HB:=bs HB hb; clear hb hbox hg) | ((with_reducible refine Qab (f:=44) rfl ?_); refine gl (some 8) Tryz.func44 #[.slice A0 l0.length c0] (h := ?_); (with_reducible refine (tree_May.calls _ _ l0 true _ ?side1 ?side2 A3.out).mono ?_); (case side1 => exact cb HR0 HB); (case side2 => exact HC0.out); rintro e w8 ⟨rfl,hb⟩; refine ⟨_,rfl, ?_⟩; replace BK688:=bl BK688 hb; replace HB:=bs HB hb; clear hb) | ((with_reducible refine Qab (f:=47) rfl ?_); refine gl (some 12) Tryz.func47 #[.slice A0 l0.length c0] (h := ?_); (with_reducible refine (doc_Seen.calls _ _ l0 t690 _ ?side1 ?side2 A5.out).mono ?_); (case side1 => exact cb HR0 HB); (case side2 => exact HC0.out); rintro e w9 ⟨v691,rfl,ho0,hb⟩; refine ⟨_,rfl, ?_⟩; have HO692:=Zz.k (Kd.R_lower (Kd.R_newB ho0 (kk BK688)) (Qai (bw HB))); replace BK688:=bl BK688 hb; replace HB:=bs HB hb; clear hb; clear ho0))
 (try simp only [Act.put,List.setIfInBounds_toArray,List.set_cons_zero,List.set_cons_succ])
 go_cut [13] (fun v13 wc => ∃ (kq : Nat) (x13_5 : Bool),v13 = .bool x13_5 /\ Zz (caret_Set.j0 kq a1 t690 x13_5 = some (r1,r2,r3,r4)) /\ Zz (kq <= k) /\ Zz (Kd.R Qav 32 wc w.heap.size (fun k_ => k_ ≠ gb688) v691 t690) /\ Zz (wc.heap[gb688]? = some (.cells #[.int .i64 0, .int .i64 0, .int .i64 0] 32 (0,0))) /\ Zz (Below w.heap.size w wc))
 case first =>
  have H:=HC6.out
  clear HC6
  by_cases c10 : a1 < 0
  ·rw [if_pos c10] at H
   have c10b0:=Zd c10
   clear c10
   (first | rw [c10b0] | (simp only [i64_w,i32_w]; rw [c10b0]) | skip)
   have H':=Zz.k H
   clear H
   go_wp2
   go_meet
   case rel => exact ⟨_,(true),rf,H',⟨by first | omega | exact Nat.le_refl _⟩,⟨by (with_reducible repeat (first | apply Kd.R_alloc | apply Kd.R_drewN | apply Kd.R_drew)); exact Kd.R_mono HO692.out (fun _ hk => hk.2)⟩,⟨kk BK688⟩,⟨bw HB⟩⟩
  rw [if_neg c10] at H
  have c10b0:=Ze c10
  clear c10
  (first | rw [c10b0] | (simp only [i64_w,i32_w]; rw [c10b0]) | skip)
  have H':=Zz.k H
  clear H
  obtain ⟨Ao11,co11,eo11⟩:=Kd.R_slice HO692.out
  subst eo11
  go_wp2
  go_meet
  case rel => exact ⟨_,(decide (a1 > (t690.length : Int))),rf,H',⟨by first | omega | exact Nat.le_refl _⟩,⟨by (with_reducible repeat (first | apply Kd.R_alloc | apply Kd.R_drewN | apply Kd.R_drew)); exact Kd.R_mono HO692.out (fun _ hk => hk.2)⟩,⟨kk BK688⟩,⟨bw HB⟩⟩
 case rest =>
  clear HC6
  try clear c4
  obtain ⟨kq,x13_5,rfl,HA,HJ5,HO_6,BK688,HB⟩:=hcut
  cases kq with
  | zero => exact absurd HA.out (by simp [caret_Set.j0])
  | succ kj5 =>
   have H:=HA.out
   clear HA
   simp only [caret_Set.j0] at H
   by_cases c12 : x13_5 = true
   ·subst c12
    rw [if_pos rfl] at H
    simp only [Option.some.injEq,Prod.mk.injEq] at H
    obtain ⟨rfl,rfl,rfl,rfl⟩:=H
    obtain ⟨_,_,_,_,_,_⟩:=kc3 BK688
    go_wp2
    refine bodyPost_ret (Qaw rfl _ _ gb688 32 #[.int .i64 0, .int .i64 0, .int .i64 0] (0,0) _ rfl (bp (bp (bp (kk BK688) 0) 1) 2) Tryz.underlying32 rfl (by kernel_rfl)) rfl ?_
    exact ⟨re,bw HB⟩
   replace c12:=Zf c12
   subst c12
   rw [if_neg nft] at H
   by_cases c14 : a1 = 0
   ·rw [if_pos c14] at H
    obtain ⟨c14b0,c14b1⟩:=bT c14
    clear c14
    simp only [Option.some.injEq,Prod.mk.injEq] at H
    obtain ⟨rfl,rfl,rfl,rfl⟩:=H
    obtain ⟨_,_,_,_,_,_⟩:=kc3 BK688
    go_wp2
    refine bodyPost_ret (Qaw rfl _ _ gb688 32 #[.int .i64 0, .int .i64 0, .int .i64 0] (0,0) _ rfl (bp (bp (bp (kk BK688) 0) 1) 2) Tryz.underlying32 rfl (by kernel_rfl)) rfl ?_
    exact ⟨re,bw HB⟩
   rw [if_neg c14] at H
   obtain ⟨c14b0,c14b1⟩:=bF c14
   obtain ⟨ji16,hji16⟩ : ∃ j_ : Int,(wrap64 (a1 - 1)) = j_:=⟨_,rfl⟩
   replace H : (if 0 <= (ji16) then (if (ji16) < (t690.length : Int) then (some ((Qac t690 (ji16)).f0,(Qac t690 (ji16)).f1,(Qac t690 (ji16)).f2,0)) else (none)) else (none)) = some (r1,r2,r3,r4):=by first | (rw [hji16] at H; exact H) | (simp only [hji16] at H ⊢; exact H)
   have hji16w : (IntKind.i64.wrap (a1 - 1)) = ji16:=(i64_w _).trans hji16
   by_cases c17 : 0 <= (ji16); rotate_left
   ·rw [if_neg c17] at H
    exact absurd H (by simp)
   rw [if_pos c17] at H
   have c17b0:=Zd c17
   clear c17
   by_cases c18 : (ji16) < (t690.length : Int); rotate_left
   ·rw [if_neg c18] at H
    exact absurd H (by simp)
   rw [if_pos c18] at H
   have c18b0:=Zd c18
   clear c18
   simp only [Option.some.injEq,Prod.mk.injEq] at H
   obtain ⟨rfl,rfl,rfl,rfl⟩:=H
   obtain ⟨Ao19,co19,eo19⟩:=Kd.R_slice HO_6.out
   subst eo19
   have p693 : 0 <= ((ji16) : Int):=od
   have q693 : (ji16) < (t690.length : Int):=od
   obtain ⟨ad693,e693,hx693_0,hx693_1,hx693_2⟩:=Qbm (Kd.R_reads' HO_6.out).2.2 (ji16) p693 q693
   cases e693
   replace p693:=eq_true p693
   replace q693:=eq_true q693
   obtain ⟨_,_,_,_,_,_⟩:=kc3 BK688
   go_wp2
   refine bodyPost_ret (Qaw rfl _ _ gb688 32 #[.int .i64 ((Qac t690 (ji16)).f0), .int .i64 ((Qac t690 (ji16)).f1), .int .i64 ((Qac t690 (ji16)).f2)] (0,0) _ rfl (bp (bp (bp (kk BK688) 0) 1) 2) Tryz.underlying32 rfl (by kernel_rfl)) rfl ?_
   exact ⟨by first | rfl | (simp [Qcj,Qci] <;> rfl) | (simp only [<- hji16]; first | rfl | (simp [Qcj,Qci] <;> rfl)) | (simp [*,Qcj,Qci] <;> rfl),bw HB⟩
def tree_Written.f (l0 : List (SOp)) (a1_0 : Int) (a1_1 : Int) (a1_2 : Int) : Option (Bool):=(tree_Find.f l0 a1_0 a1_1).bind fun t695 => (if t695 >= 0 then (if a1_2 >= 0 then (if 0 <= t695 then (if t695 < (l0.length : Int) then ((op_Size.f ((Qah l0 t695).f0) ((Qah l0 t695).f1) ((Qah l0 t695).f2) ((Qah l0 t695).f3.f0) ((Qah l0 t695).f3.f1) ((Qah l0 t695).f3.f2) ((Qah l0 t695).f4) ((Qah l0 t695).f5) ((Qah l0 t695).f6) ((Qah l0 t695).f7) ((Qah l0 t695).f8)).bind fun t697 => (some (decide (a1_2 < t697)))) else (none)) else (none)) else (some false)) else (some false))
def tree_Written.T2 : Bool × List (List Nat × List Nat):=(true,[([],[]),([0],[0]),([1],[1]),([2],[2]),([3,2],[2,3]),([4,2],[2,4]),([2,5],[2,5]),([6,2],[6]),([7],[7]),([8,7],[7,8]),([7],[7]),([7],[7]),([10,11,7],[7,10,11]),([12,7],[7,12]),([13,7,7],[7,13]),([9,14,7],[7,9,14]),([7,15],[7,15]),([16,14,0,1,2,3,4,5,6,7,8,9,10,11,12,13,14,15,16],[16])])
def tree_Written.B2 : List Nat:=[0,1,3,7,15,31,63,127,255,511,255,255,3327,7423,15615,32767,65535,131071]
theorem tree_Written.tab2 : rtab .any (opsOf Tryz.f94 2) = tree_Written.T2:=by kernel_rfl
theorem tree_Written.bits2 : Qax tree_Written.T2.2 tree_Written.B2 = true:=by kernel_rfl
theorem tree_Written.calls (A0 : Option Addr) (c0 : Nat) (l0 : List (SOp)) (a1_0 : Int) (a1_1 : Int) (a1_2 : Int) (r : Bool) (w : World) (hr0 : Kd.C kOp w A0 l0.length l0) (hc0 : l0.length <= c0) (h : tree_Written.f l0 a1_0 a1_1 a1_2 = some r) :
  Calls Tryz.prog 94 #[.slice A0 l0.length c0, .agg #[.int .i64 a1_0, .int .i64 a1_1, .int .i64 a1_2]] w fun e w' => e = .returned (.bool r) /\ Below w.heap.size w w':=by
 have hu32:=Tryz.underlying32
 have hu34:=Tryz.underlying34
 have HR0:=Zz.k hr0
 have HC0:=Zz.k hc0
 clear hr0 hc0
 have HB:=Zz.k (Below.refl w.heap.size w)
 unfold tree_Written.f at h; have H:=h
 clear h
 obtain ⟨t695,A3,H⟩:=bE H
 by_cases c4 : t695 >= 0; rotate_left
 ·rw [if_neg c4] at H
  have c4b0:=Ze c4
  clear c4
  obtain rfl:=Zo H
  go_enter Tryz.func94,Tryz.ntmps94
  try go_wp2_with (first | ((with_reducible refine Qad (N:=3) rfl ?_); refine bx 3 #[.int .i64 a1_0, .int .i64 a1_1, .int .i64 a1_2] 32 (h := ?_); intro gb694 hg w18 hbox hb; have BK694:=Zz.k (hbox); have GW694:=bz HB hg; have GE694:=bz HB hg; replace HB:=bs HB hb; clear hb hbox hg; obtain ⟨_,_,_,_,_,_⟩:=kc3 BK694) | ((with_reducible refine Qab (f:=125) rfl ?_); refine gl (some 11) Tryz.func125 #[.slice A0 l0.length c0, .int .i64 a1_0, .int .i64 a1_1] (h := ?_); (with_reducible refine (tree_Find.calls _ _ l0 a1_0 a1_1 t695 _ ?side1 ?side2 A3.out).mono ?_); (case side1 => exact cb HR0 HB); (case side2 => exact HC0.out); rintro e w20 ⟨rfl,hb⟩; refine ⟨_,rfl, ?_⟩; replace BK694:=bl BK694 hb; replace HB:=bs HB hb; clear hb))
  have n0_:=Zz.k (Qat BK694.out)
  have n1_:=Zz.k (Qaf HB.out)
  clear BK694
  clear HB
  have BK694:=n0_
  have HB:=n1_
  clear n0_ n1_
  refine stP (fun w' => True) 18 trivial (h:=fun hHeld => ?_); refine Qbr tree_Written.tab2 tree_Written.bits2 (fun HT_ HW_ => ?_)
  generalize w20.drew = w21 at BK694 HB hHeld ⊢
  refine pu HT_ 0 12 1 (h := ?_)
  refine pu HT_ 1 13 3 (h := ?_)
  refine pu HT_ 2 14 7 (h := ?_)
  refine off HT_ 3 15 15 (h := ?_)
  refine off HT_ 4 16 31 (h := ?_)
  refine off HT_ 5 17 63 (h := ?_)
  refine pu HT_ 6 18 127 (h := ?_)
  refine pu HT_ 7 19 255 (h := ?_)
  refine off HT_ 8 20 511 (h := ?_)
  refine off HT_ 9 21 1023 (h := ?_)
  refine off HT_ 10 22 2047 (h := ?_)
  refine off HT_ 11 23 4095 (h := ?_)
  refine off HT_ 12 24 8191 (h := ?_)
  refine off HT_ 13 25 16383 (h := ?_)
  refine off HT_ 14 26 32767 (h := ?_)
  refine off HT_ 15 27 65535 (h := ?_)
  refine pu HT_ 16 28 131071 (h := ?_)
  refine pu HT_ 17 4 262143 (h := ?_)
  refine dn HT_ (h := ?_)
  try go_wp2
  go_ret
  exact ⟨re,bw HB⟩
 rw [if_pos c4] at H
 have c4b0:=Zd c4
 clear c4
 by_cases c5 : a1_2 >= 0; rotate_left
 ·rw [if_neg c5] at H
  have c5b0:=Ze c5
  clear c5
  obtain rfl:=Zo H
  go_enter Tryz.func94,Tryz.ntmps94
  try go_wp2_with (first | ((with_reducible refine Qad (N:=3) rfl ?_); refine bx 3 #[.int .i64 a1_0, .int .i64 a1_1, .int .i64 a1_2] 32 (h := ?_); intro gb694 hg w14 hbox hb; have BK694:=Zz.k (hbox); have GW694:=bz HB hg; have GE694:=bz HB hg; replace HB:=bs HB hb; clear hb hbox hg; obtain ⟨_,_,_,_,_,_⟩:=kc3 BK694) | ((with_reducible refine Qab (f:=125) rfl ?_); refine gl (some 11) Tryz.func125 #[.slice A0 l0.length c0, .int .i64 a1_0, .int .i64 a1_1] (h := ?_); (with_reducible refine (tree_Find.calls _ _ l0 a1_0 a1_1 t695 _ ?side1 ?side2 A3.out).mono ?_); (case side1 => exact cb HR0 HB); (case side2 => exact HC0.out); rintro e w16 ⟨rfl,hb⟩; refine ⟨_,rfl, ?_⟩; replace BK694:=bl BK694 hb; replace HB:=bs HB hb; clear hb))
  have n0_:=Zz.k (Qat BK694.out)
  have n1_:=Zz.k (Qaf HB.out)
  clear BK694
  clear HB
  have BK694:=n0_
  have HB:=n1_
  clear n0_ n1_
  refine stP (fun w' => E3 w' gb694 (.int .i64 a1_0) (.int .i64 a1_1) (.int .i64 a1_2)) 18 (e3 BK694) (h:=fun hHeld => ?_); refine Qbr tree_Written.tab2 tree_Written.bits2 (fun HT_ HW_ => ?_)
  generalize w16.drew = w17 at BK694 HB hHeld ⊢
  refine pu HT_ 0 12 1 (h := ?_)
  refine pu HT_ 1 13 3 (h := ?_)
  refine pu HT_ 2 14 7 (h := ?_)
  refine pu HT_ 3 15 15 (h := ?_)
  refine tk HT_ HW_ hHeld 4 16 31 (h := ?_)
  refine pu HT_ 5 17 63 (h := ?_)
  refine pu HT_ 6 18 127 (h := ?_)
  refine pu HT_ 7 19 255 (h := ?_)
  refine off HT_ 8 20 511 (h := ?_)
  refine off HT_ 9 21 1023 (h := ?_)
  refine off HT_ 10 22 2047 (h := ?_)
  refine off HT_ 11 23 4095 (h := ?_)
  refine off HT_ 12 24 8191 (h := ?_)
  refine off HT_ 13 25 16383 (h := ?_)
  refine off HT_ 14 26 32767 (h := ?_)
  refine off HT_ 15 27 65535 (h := ?_)
  refine pu HT_ 16 28 131071 (h := ?_)
  refine pu HT_ 17 4 262143 (h := ?_)
  refine dn HT_ (h := ?_)
  try go_wp2
  go_ret
  exact ⟨re,bw HB⟩
 rw [if_pos c5] at H
 have c5b0:=Zd c5
 clear c5
 by_cases c6 : 0 <= t695; rotate_left
 ·rw [if_neg c6] at H
  exact absurd H (by simp)
 rw [if_pos c6] at H
 have c6b0:=Zd c6
 clear c6
 by_cases c7 : t695 < (l0.length : Int); rotate_left
 ·rw [if_neg c7] at H
  exact absurd H (by simp)
 rw [if_pos c7] at H
 have c7b0:=Zd c7
 clear c7
 obtain ⟨t697,A8,H⟩:=bE H
 obtain rfl:=Zo H
 go_enter Tryz.func94,Tryz.ntmps94
 try go_wp2_with (first | ((with_reducible refine Qad (N:=3) rfl ?_); refine bx 3 #[.int .i64 a1_0, .int .i64 a1_1, .int .i64 a1_2] 32 (h := ?_); intro gb694 hg w9 hbox hb; have BK694:=Zz.k (hbox); have GW694:=bz HB hg; have GE694:=bz HB hg; replace HB:=bs HB hb; clear hb hbox hg; obtain ⟨_,_,_,_,_,_⟩:=kc3 BK694) | ((with_reducible refine Qab (f:=125) rfl ?_); refine gl (some 11) Tryz.func125 #[.slice A0 l0.length c0, .int .i64 a1_0, .int .i64 a1_1] (h := ?_); (with_reducible refine (tree_Find.calls _ _ l0 a1_0 a1_1 t695 _ ?side1 ?side2 A3.out).mono ?_); (case side1 => exact cb HR0 HB); (case side2 => exact HC0.out); rintro e w11 ⟨rfl,hb⟩; refine ⟨_,rfl, ?_⟩; replace BK694:=bl BK694 hb; replace HB:=bs HB hb; clear hb))
 have n0_:=Zz.k (Qat BK694.out)
 have n1_:=Zz.k (Qaf HB.out)
 clear BK694
 clear HB
 have BK694:=n0_
 have HB:=n1_
 clear n0_ n1_
 have p696 : 0 <= (t695 : Int):=od
 have q696 : t695 < (l0.length : Int):=od
 obtain ⟨ad696,A696_7,c696_7,e696,hx696_0,hx696_1,hx696_2,hx696_3,hx696_4,hx696_5,hx696_6,hx696_7,hx696_8,hx696_9,hx696_10,hl696_7,hi696_7⟩:=at_Op HR0.out t695 p696 q696
 have hw696_10:=hx696_10
 have hw696_9:=hx696_9
 have hw696_8:=hx696_8
 have hw696_7:=hx696_7
 have hw696_6:=hx696_6
 have hw696_5:=hx696_5
 have hw696_4:=hx696_4
 have hw696_3:=hx696_3
 have hw696_2:=hx696_2
 have hw696_1:=hx696_1
 have hw696_0:=hx696_0
 cases e696
 replace hx696_0:=cl HB hx696_0
 replace hx696_1:=cl HB hx696_1
 replace hx696_2:=cl HB hx696_2
 replace hx696_3:=cl HB hx696_3
 replace hx696_4:=cl HB hx696_4
 replace hx696_5:=cl HB hx696_5
 replace hx696_6:=cl HB hx696_6
 replace hx696_7:=cl HB hx696_7
 replace hx696_8:=cl HB hx696_8
 replace hx696_9:=cl HB hx696_9
 replace hx696_10:=cl HB hx696_10
 have HR696_7:=Zz.k hi696_7
 have HC696_7:=Zz.k hl696_7
 clear hi696_7 hl696_7
 replace p696:=eq_true p696
 replace q696:=eq_true q696
 refine stP (fun w' => B3 w' gb694 (.int .i64 a1_0) (.int .i64 a1_1) (.int .i64 a1_2) (Q11 w' (ad696.add ((t695).toNat * 11)) (Qah l0 t695) A696_7 c696_7)) 18 (b3 BK694 ⟨(cW HB hw696_0),(cW HB hw696_1),(cW HB hw696_2),(cW HB hw696_3),(cW HB hw696_4),(cW HB hw696_5),(cW HB hw696_6),(cW HB hw696_7),(cW HB hw696_8),(cW HB hw696_9),(cW HB hw696_10)⟩) (h:=fun hHeld => ?_); refine Qbr tree_Written.tab2 tree_Written.bits2 (fun HT_ HW_ => ?_)
 generalize w11.drew = w12 at BK694 HB HR696_7 hx696_0 hx696_1 hx696_10 hx696_2 hx696_3 hx696_4 hx696_5 hx696_6 hx696_7 hx696_8 hx696_9 hHeld ⊢
 refine pu HT_ 0 12 1 (h := ?_)
 refine pu HT_ 1 13 3 (h := ?_)
 refine pu HT_ 2 14 7 (h := ?_)
 refine pu HT_ 3 15 15 (h := ?_)
 refine tk HT_ HW_ hHeld 4 16 31 (h := ?_)
 refine pu HT_ 5 17 63 (h := ?_)
 refine pu HT_ 6 18 127 (h := ?_)
 refine pu HT_ 7 19 255 (h := ?_)
 refine pu HT_ 8 20 511 (h := ?_)
 refine pu HT_ 10 22 1535 (h := ?_)
 refine pu HT_ 11 23 3583 (h := ?_)
 refine pu HT_ 12 24 7679 (h := ?_)
 refine tk HT_ HW_ hHeld 9 21 8191 (h := ?_)
 refine tk HT_ HW_ hHeld 13 25 16383 (h := ?_)
 refine on HT_ 14 (some 26) 32767 (h:=fun K hK => ?_)
 refine gS Tryz.func106 #[.agg #[.int .i64 ((Qah l0 t695).f0), .int .i64 ((Qah l0 t695).f1), .int .i64 ((Qah l0 t695).f2), .int .i64 ((Qah l0 t695).f3.f0), .int .i64 ((Qah l0 t695).f3.f1), .int .i64 ((Qah l0 t695).f3.f2), .string ((Qah l0 t695).f4), .slice A696_7 ((Qah l0 t695).f5).length c696_7, .int .i64 ((Qah l0 t695).f6), .int .i64 ((Qah l0 t695).f7), .int .i64 ((Qah l0 t695).f8)]] (h := ?_)
 with_reducible refine (op_Size.calls ((Qah l0 t695).f0) ((Qah l0 t695).f1) ((Qah l0 t695).f2) ((Qah l0 t695).f3.f0) ((Qah l0 t695).f3.f1) ((Qah l0 t695).f3.f2) ((Qah l0 t695).f4) _ _ ((Qah l0 t695).f5) ((Qah l0 t695).f6) ((Qah l0 t695).f7) ((Qah l0 t695).f8) t697 _ ?side1 ?side2 A8.out).mono ?_
 (case side1 => exact cb HR696_7 HB)
 (case side2 => exact HC696_7.out)
 rintro e w13 ⟨rfl,hb⟩
 refine ⟨_,rfl, ?_⟩
 have n0_:=bl BK694 hb
 have n1_:=bs HB hb
 clear BK694
 clear HB
 have BK694:=n0_
 have HB:=n1_
 clear n0_ n1_
 (try clear hb)
 (try clear hb2)
 (try clear hk)
 (try clear hi)
 refine hK.out _ _ (b3 BK694 ⟨(cW HB hw696_0),(cW HB hw696_1),(cW HB hw696_2),(cW HB hw696_3),(cW HB hw696_4),(cW HB hw696_5),(cW HB hw696_6),(cW HB hw696_7),(cW HB hw696_8),(cW HB hw696_9),(cW HB hw696_10)⟩) (fun hHeld => ?_)
 clear hK K
 refine nn 26 (h := ?_)
 refine pu HT_ 15 27 65535 (h := ?_)
 refine pu HT_ 16 28 131071 (h := ?_)
 refine pu HT_ 17 4 262143 (h := ?_)
 refine dn HT_ (h := ?_)
 try go_wp2
 go_ret
 exact ⟨re,bw HB⟩
def caret_asked.f (l0 : List (SOp)) (a1_0 : Int) (a1_1 : Int) (a1_2 : Int) : Option (Int):=(tree_May.f l0).bind fun t699 => (if t699 = true then (if (!(a1_0 == 0) || (!(a1_1 == 0) || (!(a1_2 == 0)))) = true then ((tree_Written.f l0 a1_0 a1_1 a1_2).bind fun t700 => (if t700 = true then (some 0) else (some 3))) else (some 0)) else (some 1))
theorem caret_asked.calls (A0 : Option Addr) (c0 : Nat) (l0 : List (SOp)) (a1_0 : Int) (a1_1 : Int) (a1_2 : Int) (r : Int) (w : World) (hr0 : Kd.C kOp w A0 l0.length l0) (hc0 : l0.length <= c0) (h : caret_asked.f l0 a1_0 a1_1 a1_2 = some r) :
  Calls Tryz.prog 66 #[.slice A0 l0.length c0, .agg #[.int .i64 a1_0, .int .i64 a1_1, .int .i64 a1_2]] w fun e w' => e = .returned (.int .i64 r) /\ Below w.heap.size w w':=by
 have hu32:=Tryz.underlying32
 have HR0:=Zz.k hr0
 have HC0:=Zz.k hc0
 clear hr0 hc0
 have HB:=Zz.k (Below.refl w.heap.size w)
 unfold caret_asked.f at h; have H:=h
 clear h
 obtain ⟨t699,A3,H⟩:=bE H
 by_cases c4 : t699 = true; rotate_left
 ·replace c4:=Zf c4
  subst c4
  rw [if_neg nft] at H
  obtain rfl:=Zo H
  go_enter Tryz.func66,Tryz.ntmps66
  go_wp2_with (first | ((with_reducible refine Qad (N:=3) rfl ?_); refine bx 3 #[.int .i64 a1_0, .int .i64 a1_1, .int .i64 a1_2] 32 (h := ?_); intro gb698 hg w19 hbox hb; have BK698:=Zz.k (hbox); have GW698:=bz HB hg; have GE698:=bz HB hg; replace HB:=bs HB hb; clear hb hbox hg) | ((with_reducible refine Qab (f:=44) rfl ?_); refine gl (some 7) Tryz.func44 #[.slice A0 l0.length c0] (h := ?_); (with_reducible refine (tree_May.calls _ _ l0 false _ ?side1 ?side2 A3.out).mono ?_); (case side1 => exact cb HR0 HB); (case side2 => exact HC0.out); rintro e w20 ⟨rfl,hb⟩; refine ⟨_,rfl, ?_⟩; replace BK698:=bl BK698 hb; replace HB:=bs HB hb; clear hb))
  go_ret
  exact ⟨re,bw HB⟩
 subst c4
 rw [if_pos rfl] at H
 by_cases c5 : (!(a1_0 == 0) || (!(a1_1 == 0) || (!(a1_2 == 0)))) = true; rotate_left
 ·rw [if_neg c5] at H
  have c5b0 : (!(a1_0 == 0) || (!(a1_1 == 0) || (!(a1_2 == 0)))) = false:=by simpa using c5
  clear c5
  obtain rfl:=Zo H
  go_enter Tryz.func66,Tryz.ntmps66
  go_wp2_with (first | ((with_reducible refine Qad (N:=3) rfl ?_); refine bx 3 #[.int .i64 a1_0, .int .i64 a1_1, .int .i64 a1_2] 32 (h := ?_); intro gb698 hg w16 hbox hb; have BK698:=Zz.k (hbox); have GW698:=bz HB hg; have GE698:=bz HB hg; replace HB:=bs HB hb; clear hb hbox hg) | ((with_reducible refine Qab (f:=44) rfl ?_); refine gl (some 7) Tryz.func44 #[.slice A0 l0.length c0] (h := ?_); (with_reducible refine (tree_May.calls _ _ l0 true _ ?side1 ?side2 A3.out).mono ?_); (case side1 => exact cb HR0 HB); (case side2 => exact HC0.out); rintro e w17 ⟨rfl,hb⟩; refine ⟨_,rfl, ?_⟩; replace BK698:=bl BK698 hb; replace HB:=bs HB hb; clear hb; obtain ⟨_,_,_,_,_,_⟩:=kc3 BK698))
  go_ret
  exact ⟨re,bw HB⟩
 rw [if_pos c5] at H
 have c5b0 : (!(a1_0 == 0) || (!(a1_1 == 0) || (!(a1_2 == 0)))) = true:=c5
 clear c5
 obtain ⟨t700,A6,H⟩:=bE H
 by_cases c7 : t700 = true
 ·subst c7
  rw [if_pos rfl] at H
  obtain rfl:=Zo H
  go_enter Tryz.func66,Tryz.ntmps66
  go_wp2_with (first | ((with_reducible refine Qad (N:=3) rfl ?_); refine bx 3 #[.int .i64 a1_0, .int .i64 a1_1, .int .i64 a1_2] 32 (h := ?_); intro gb698 hg w8 hbox hb; have BK698:=Zz.k (hbox); have GW698:=bz HB hg; have GE698:=bz HB hg; replace HB:=bs HB hb; clear hb hbox hg) | ((with_reducible refine Qab (f:=44) rfl ?_); refine gl (some 7) Tryz.func44 #[.slice A0 l0.length c0] (h := ?_); (with_reducible refine (tree_May.calls _ _ l0 true _ ?side1 ?side2 A3.out).mono ?_); (case side1 => exact cb HR0 HB); (case side2 => exact HC0.out); rintro e w9 ⟨rfl,hb⟩; refine ⟨_,rfl, ?_⟩; replace BK698:=bl BK698 hb; replace HB:=bs HB hb; clear hb; obtain ⟨_,_,_,_,_,_⟩:=kc3 BK698) | (go_at_call 94; (with_reducible refine (tree_Written.calls _ _ l0 a1_0 a1_1 a1_2 true _ ?side1 ?side2 A6.out).mono ?_); (case side1 => exact cb HR0 HB); (case side2 => exact HC0.out); rintro e w11 ⟨rfl,hb⟩; replace BK698:=bl BK698 hb; replace HB:=bs HB hb; clear hb))
  go_ret
  exact ⟨re,bw HB⟩
 replace c7:=Zf c7
 subst c7
 rw [if_neg nft] at H
 obtain rfl:=Zo H
 go_enter Tryz.func66,Tryz.ntmps66
 go_wp2_with (first | ((with_reducible refine Qad (N:=3) rfl ?_); refine bx 3 #[.int .i64 a1_0, .int .i64 a1_1, .int .i64 a1_2] 32 (h := ?_); intro gb698 hg w12 hbox hb; have BK698:=Zz.k (hbox); have GW698:=bz HB hg; have GE698:=bz HB hg; replace HB:=bs HB hb; clear hb hbox hg) | ((with_reducible refine Qab (f:=44) rfl ?_); refine gl (some 7) Tryz.func44 #[.slice A0 l0.length c0] (h := ?_); (with_reducible refine (tree_May.calls _ _ l0 true _ ?side1 ?side2 A3.out).mono ?_); (case side1 => exact cb HR0 HB); (case side2 => exact HC0.out); rintro e w13 ⟨rfl,hb⟩; refine ⟨_,rfl, ?_⟩; replace BK698:=bl BK698 hb; replace HB:=bs HB hb; clear hb; obtain ⟨_,_,_,_,_,_⟩:=kc3 BK698) | (go_at_call 94; (with_reducible refine (tree_Written.calls _ _ l0 a1_0 a1_1 a1_2 false _ ?side1 ?side2 A6.out).mono ?_); (case side1 => exact cb HR0 HB); (case side2 => exact HC0.out); rintro e w15 ⟨rfl,hb⟩; replace BK698:=bl BK698 hb; replace HB:=bs HB hb; clear hb))
 go_ret
 exact ⟨re,bw HB⟩
end
section
def idxE (l : List SElem) (e : SElem) : Int:=Qba (fun i => decide (Qac l (i : Int) = e)) l.length l.length 0
theorem eqE_iff (x : SElem) (a b c : Int) : (x.f0 == a && (x.f1 == b && (x.f2 == c))) = decide (x = ⟨a,b,c⟩):=by
 rw [Bool.eq_iff_iff]
 simp only [Bool.and_eq_true,beq_iff_eq,decide_eq_true_eq]
 exact ⟨fun h => SElem.ext3 h.1 h.2.1 h.2.2,fun h => by subst h; exact ⟨rfl,rfl,rfl⟩⟩
theorem idxE_cases (l : List SElem) (e : SElem) : (∃ i,∃ h : i < l.length,l[i] = e /\ (∀ j (hj : j < i),l[j]'(by omega) ≠ e) /\ idxE l e = (i : Int)) \/ (e ∉ l /\ idxE l e = -1):=by
 unfold idxE
 rcases firstAt_cases (fun i => decide (Qac l (i : Int) = e)) l.length with ⟨i,h1,h2,h3,h4⟩ | ⟨h1,h2⟩
 ·refine .inl ⟨i,h1, ?_,fun j hj => ?_,h4⟩
  ·rw [Qar _ _ h1] at h2; simpa using h2
  ·have:=h3 j hj
   rw [Qar _ _ (by omega)] at this; simpa using this
 ·refine .inr ⟨fun hm => ?_,h2⟩
  obtain ⟨i,hi,rfl⟩:=List.getElem_of_mem hm
  have:=h1 i hi
  rw [Qar _ _ hi] at this; simp at this
theorem idxE_nonneg (l : List SElem) (e : SElem) : 0 <= idxE l e ↔ e ∈ l:=by
 rcases idxE_cases l e with ⟨i,h,rfl,_,e'⟩ | ⟨hn,e'⟩
 ·rw [e']; exact ⟨fun _ => List.getElem_mem h,fun _ => by omega⟩
 ·rw [e']; exact ⟨fun h => by omega,fun h => absurd h hn⟩
end
section
def Qcz (l : List SOp) (e : SElem) : List SElem:=(Qak l).filter fun x => decide (x ∈ (ordL l).take (idxE (ordL l) e + 1).toNat)
theorem take_idx {l : List SElem} {i : Nat} (hi : i < l.length) (hn : l.Nodup) : idxE l l[i] = (i : Int):=by
 rcases idxE_cases l l[i] with ⟨j,hj,he,_,e⟩ | ⟨hno,_⟩
 ·rw [e]; have:=(List.getElem_inj hn).1 he; omega
 ·exact absurd (List.getElem_mem hi) hno
theorem filter_upto (O : List SElem) (hn : O.Nodup) (p : SElem -> Bool) {j : Nat} (hj : j < (O.filter p).length) :
  (O.filter p).filter (fun x => decide (x ∈ O.take (idxE O (O.filter p)[j] + 1).toNat)) = (O.filter p).take (j + 1):=by
 have hm:=List.getElem_mem hj
 have hx:=(List.mem_filter.1 hm)
 obtain ⟨i,hi,ex⟩:=List.getElem_of_mem hx.1
 generalize hxe : (O.filter p)[j] = x at hm hx ex ⊢
 have e1 : (idxE O x + 1).toNat = i + 1:=by rw [<- ex,take_idx hi hn]; omega
 rw [e1]
 have hO : O = O.take (i + 1) ++ O.drop (i + 1):=(List.take_append_drop _ _).symm
 have ht : O.take (i + 1) = O.take i ++ [x]:=by rw [List.take_succ_eq_append_getElem hi,ex]
 have hnd:=hn
 rw [hO] at hnd
 have hdis:=(List.nodup_append.1 hnd).2.2
 have hf : O.filter p = (O.take (i + 1)).filter p ++ (O.drop (i + 1)).filter p:=by rw [<- List.filter_append,<- hO]
 have hlen : ((O.take (i + 1)).filter p).length = j + 1:=by
  have h1 : (O.take (i + 1)).filter p = (O.take i).filter p ++ [x]:=by rw [ht,List.filter_append]; congr 1; rw [List.filter_cons,if_pos hx.2]; rfl
  have h2 : ((O.take i).filter p).length < (O.filter p).length:=by rw [hf,h1,List.length_append,List.length_append,List.length_singleton]; omega
  have h3 : (O.filter p)[((O.take i).filter p).length] = x:=by
   have : (O.filter p)[((O.take i).filter p).length]? = some x:=by rw [hf,h1,List.append_assoc,List.getElem?_append_right (Nat.le_refl _),Nat.sub_self]; rfl
   rw [List.getElem?_eq_getElem h2] at this
   exact Zo this
  have h4:=(List.getElem_inj (hn.filter p)).1 (h3.trans hxe.symm)
  rw [h1,List.length_append,List.length_singleton,h4]
 have ha : ((O.take (i + 1)).filter p).filter (fun y => decide (y ∈ O.take (i + 1))) = (O.take (i + 1)).filter p:=List.filter_eq_self.2 fun y hy => Zd ((List.mem_filter.1 hy).1)
 have hb : ((O.drop (i + 1)).filter p).filter (fun y => decide (y ∈ O.take (i + 1))) = []:=List.filter_eq_nil_iff.2 fun y hy => by
  rw [decide_eq_true_eq]
  exact fun hy2 => hdis y hy2 y ((List.mem_filter.1 hy).1) rfl
 rw [hf,List.filter_append,ha,hb,List.append_nil,<- hlen,List.take_append_of_le_length (Nat.le_refl _),List.take_length]
theorem upto_at {L : List SOp} (h : RowOk L) {j : Nat} (hj : j < (Qak L).length) : Qcz L (Qak L)[j] = (Qak L).take (j + 1):=filter_upto (ordL L) (Qbs h).1 _ hj
theorem begin_not {L : List SOp} (h : RowOk L) {e : SElem} (he : Qao e = true) : e ∉ ordL L:=by
 intro hm
 obtain ⟨p,hp,e0,_,_,_⟩:=(Qbx h e).1 hm
 have:=(opOk_pos (h.oks p hp)).1
 unfold Qao at he
 simp only [Bool.and_eq_true,beq_iff_eq] at he
 omega
theorem upto_none {L : List SOp} {e : SElem} (he : e ∉ ordL L) : Qcz L e = []:=by
 unfold Qcz
 rcases idxE_cases (ordL L) e with ⟨i,hi,hh,_,_⟩ | ⟨_,e1⟩
 ·exact absurd (by rw [<- hh]; exact List.getElem_mem hi) he
 ·rw [e1]
  show List.filter (fun x => decide (x ∈ (ordL L).take 0)) _ = _
  simp
end
section
theorem Index_loop (l : List SElem) (hl : l.length <= 1000000000) (a b c : Int) : ∀ d i,i + d = l.length -> Ev (fun k => api_Elem_95.l0 k l (l.length : Int) (i : Int) a b c) (Qba (fun i => decide (Qac l (i : Int) = ⟨a,b,c⟩)) l.length d i)
 | 0,i,h => Ev.step (f:=fun _ => some (-1)) (fun k => by simp only [api_Elem_95.l0]; rw [if_neg (by omega)]) (Ev.now _)
 | d + 1,i,h => by
  have ih:=Index_loop l hl a b c d (i + 1) (by omega)
  have hq : (a == (Qac l (i : Int)).f0 && (b == (Qac l (i : Int)).f1 && (c == (Qac l (i : Int)).f2))) = decide (Qac l (i : Int) = ⟨a,b,c⟩):=by
   rw [<- eqE_iff,Bool.beq_comm,Bool.beq_comm (a:=b),Bool.beq_comm (a:=c)]
  unfold Qba
  rw [if_pos (show i < l.length by omega)]
  by_cases he : Qac l (i : Int) = ⟨a,b,c⟩
  ·rw [if_pos (by simp [he])]
   refine Ev.step (f:=fun _ => some (i : Int)) (fun k => ?_) (Ev.now _)
   simp only [api_Elem_95.l0,hq]
   rw [if_pos (by omega),if_pos (by omega),if_pos (by omega),if_pos (by simp [he])]
  ·rw [if_neg (by simp [he])]
   refine Ev.step (fun k => ?_) ih
   simp only [api_Elem_95.l0,hq]
   rw [if_pos (by omega),if_pos (by omega),if_pos (by omega),if_neg (by simp [he]),wrapS (show i < l.length by omega) (by omega)]
theorem Index_ev (l : List SElem) (hl : l.length <= 1000000000) (e : SElem) : Ev (fun k => api_Elem_95.f k l e.f0 e.f1 e.f2) (idxE l e):=Index_loop l hl e.f0 e.f1 e.f2 l.length 0 (Nat.zero_add _)
end
end Go.Proofs.YtlllghajjamdpaaGreatDoor.L
end
