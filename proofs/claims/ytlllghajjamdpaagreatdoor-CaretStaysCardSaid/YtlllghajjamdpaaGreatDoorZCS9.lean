/- Part 9 of the proof that for every argument the law CaretStays answers true: a caret set at a place is there; what is near it has its place; what is written ahead of it moves it by so much, what is written right at it, or behind, does not -/
import Derived.Test.YtlllghajjamdpaaGreatDoorZCS8
section
namespace Go.Proofs.YtlllghajjamdpaaGreatDoor.L
open Go.RowKit Go.Proofs.YtlllghajjamdpaaGreatDoorW.PrintWords Go.Proofs.YtlllghajjamdpaaGreatDoorW.PrintLast Go.Proofs.YtlllghajjamdpaaGreatDoorW.PrintMore
set_option linter.unusedVariables false
set_option linter.unusedSimpArgs false
set_option maxHeartbeats 40000000
set_option maxRecDepth 1000000
section
theorem index_calls (A : Option Addr) (c : Nat) (l : List SElem) (e : SElem) (w : World) (hl : l.length <= 1000000000) (hr : Kd.C Qav w A l.length l) (hc : l.length <= c) :
  Calls Tryz.prog 95 #[.slice A l.length c,elV e] w fun r w' => r = .returned (.int .i64 (idxE l e)) /\ Below w.heap.size w w':=by
 obtain ⟨k,hk⟩:=Ev.rounds (Index_ev l hl e)
 exact api_Elem_95.calls k A c l e.f0 e.f1 e.f2 (idxE l e) w hr hc hk
theorem contains_calls (A : Option Addr) (c : Nat) (l : List SElem) (e : SElem) (w : World) (hl : l.length <= 1000000000) (hr : Kd.C Qav w A l.length l) (hc : l.length <= c) :
  Calls Tryz.prog 97 #[.slice A l.length c,elV e] w fun r w' => r = .returned (.bool (decide (e ∈ l))) /\ Below w.heap.size w w':=by
 have hd : decide (e ∈ l) = decide (idxE l e >= 0):=by
  rw [Bool.eq_iff_iff,decide_eq_true_eq,decide_eq_true_eq]; exact (idxE_nonneg l e).symm
 rw [hd]
 obtain ⟨k,hk⟩:=Ev.rounds (Index_ev l hl e)
 exact api_Elem_97.calls k A c l e.f0 e.f1 e.f2 (decide (idxE l e >= 0)) w hr hc (by
  unfold api_Elem_97.f
  rw [show api_Elem_95.f k l e.f0 e.f1 e.f2 = some (idxE l e) from hk]; rfl)
theorem upto1_calls (g : Nat) (A : Option Addr) (n c : Nat) (l : List SElem) (x : SElem) (W : World) (h1 : W.cell? ⟨g,0,none⟩ = some (.slice A n c)) (hn : l.length = n) (hl : n <= 1000000000) (hr : Kd.C Qav W A n l) (hc : n <= c) :
  Calls Tryz.prog 96 #[elV x, .pointer (some ⟨g,0,none⟩)] W fun e w' => e = .returned (.bool (!decide (x ∈ l))) /\ Below W.heap.size W w':=by
 subst hn
 have hal : Below W.heap.size W (W.alloc (.cells #[.int .i64 x.f0, .int .i64 x.f1, .int .i64 x.f2] 32)):=Qae (Below.refl _ _) _
 have HCT:=Zz.k (contains_calls A c l x _ hl (Kd.C_below hr hal) hc)
 have HAL:=Zz.k hal
 have d1:=Qaa hal h1
 unfold elV at HCT ⊢
 clear hr hc hl hal h1
 go_enter Tryz.func96,Tryz.ntmps96
 go_wp2_with fail
 refine HCT.out.mono ?_
 rintro e w2 ⟨rfl,hb2⟩
 have HB2:=Zz.k (Qam HAL.out hb2)
 clear HCT hb2
 go_wp2
 go_ret
 exact ⟨rfl,HB2.out⟩
def caret_Upto.f (l0 : List (SOp)) (a1_0 : Int) (a1_1 : Int) (a1_2 : Int) : Option (List SElem):=if smalls l0 = true /\ mayB l0 = true then some (Qcz l0 ⟨a1_0,a1_1,a1_2⟩) else none
theorem caret_Upto.calls (A0 : Option Addr) (c0 : Nat) (l0 : List (SOp)) (a1_0 : Int) (a1_1 : Int) (a1_2 : Int) (r : List (SElem)) (w : World) (hr0 : Kd.C kOp w A0 l0.length l0) (hc0 : l0.length <= c0) (h : caret_Upto.f l0 a1_0 a1_1 a1_2 = some r) :
  Calls Tryz.prog 67 #[.slice A0 l0.length c0, .agg #[.int .i64 a1_0, .int .i64 a1_1, .int .i64 a1_2]] w fun e w' => ∃ v0_ : Value,e = .returned (v0_) /\ Kd.R Qav 32 w' w.heap.size (fun _ => True) v0_ r /\ Below w.heap.size w w':=by
 unfold caret_Upto.f at h
 split at h
 case isFalse => cases h
 rename_i hsm
 obtain ⟨hs,hm⟩:=hsm
 obtain rfl:=Zo h
 have hrow:=(Qbf l0).1 hm
 have hal : Below w.heap.size w (w.alloc (.cells #[.int .i64 a1_0, .int .i64 a1_1, .int .i64 a1_2] 32)):=Qae (Below.refl _ _) _
 have HBX:=Zz.k hal
 have hb0 : (w.alloc (.cells #[.int .i64 a1_0, .int .i64 a1_1, .int .i64 a1_2] 32)).cell? ⟨w.heap.size,0,none⟩ = some (.int .i64 a1_0):=by simp
 have hb1 : (w.alloc (.cells #[.int .i64 a1_0, .int .i64 a1_1, .int .i64 a1_2] 32)).cell? ⟨w.heap.size,1,none⟩ = some (.int .i64 a1_1):=by simp
 have hb2 : (w.alloc (.cells #[.int .i64 a1_0, .int .i64 a1_1, .int .i64 a1_2] 32)).cell? ⟨w.heap.size,2,none⟩ = some (.int .i64 a1_2):=by simp
 have HSZ:=Zz.k (show (w.alloc (.cells #[.int .i64 a1_0, .int .i64 a1_1, .int .i64 a1_2] 32)).heap.size = w.heap.size + 1 by simp)
 have HALL:=Zz.k (tree_All.calls A0 c0 l0 (ordL l0) _ (Kd.C_below hr0 hal) hc0 (tree_All_f hs hrow))
 have HSEEN:=Zz.k (fun (W : World) (hb : Below w.heap.size w W) => doc_Seen.calls A0 c0 l0 (Qak l0) W (Kd.C_below hr0 hb) hc0 (doc_Seen_f hs hrow))
 have HROW:=Zz.k hrow
 have hlen : (ordL l0).length <= 200:=by rw [(Qbs hrow).2]; exact hrow.sums.2
 have HUP:=Zz.k (show Qcz l0 ⟨a1_0,a1_1,a1_2⟩ = (Qak l0).filter fun x => !!decide (x ∈ (ordL l0).take (idxE (ordL l0) ⟨a1_0,a1_1,a1_2⟩ + 1).toNat) by unfold Qcz; simp)
 have HIX:=Zz.k (idxE_cases (ordL l0) ⟨a1_0,a1_1,a1_2⟩)
 have HLEN:=Zz.k hlen
 have hslen:=Nat.le_trans (List.length_filter_le _ _ : (Qak l0).length <= (ordL l0).length) hlen
 have HSL:=Zz.k hslen
 clear hr0 hc0 h hm hs hrow hlen hslen hal
 go_enter Tryz.func67,Tryz.ntmps67
 go_wp2_with fail
 refine HALL.out.mono ?_
 rintro e wA ⟨vA,rfl,hRA,hbA⟩
 obtain ⟨AA,cA,rfl⟩:=Kd.R_slice hRA
 obtain ⟨_,hcA,hCA⟩:=Kd.R_reads' hRA
 replace hb0:=Qaa hbA hb0
 replace hb1:=Qaa hbA hb1
 replace hb2:=Qaa hbA hb2
 have HIC:=Zz.k (index_calls AA cA (ordL l0) ⟨a1_0,a1_1,a1_2⟩ wA (by have:=HLEN.out; omega) hCA hcA)
 have HCA:=Zz.k hCA
 have HBA:=Zz.k (Qam HBX.out hbA)
 have HRA:=Zz.k (Kd.R_mono (Kd.R_bound hRA) (ok':=fun k => k < wA.heap.size) (fun k hk => hk.2.2.1))
 clear hRA hbA hCA HALL
 simp only [elV] at HIC
 generalize hix : idxE (ordL l0) ⟨a1_0,a1_1,a1_2⟩ = ix at HIC HUP HIX
 go_wp2_with fail
 refine HIC.out.mono ?_
 rintro e wI ⟨rfl,hbI⟩
 have HBI:=Zz.k (Qam HBA.out hbI)
 have HAI:=Zz.k hbI
 obtain ⟨n,hn,hw,hnt⟩ : ∃ n : Nat,n <= (ordL l0).length /\ wrap64 (ix + 1) = (n : Int) /\ (ix + 1).toNat = n:=by
  have:=HLEN.out
  rcases HIX.out with ⟨i,hi,_,_,e⟩ | ⟨_,e⟩
  ·rw [e]; exact ⟨i + 1,by omega,by rw [Qaj (by omega) (by omega)]; omega,by omega⟩
  ·rw [e]; exact ⟨0,by omega,by rw [Qaj (by omega) (by omega)]; rfl,rfl⟩
 rw [hnt] at HUP
 clear HIC HIX hbI hix hb0 hb1 hb2 hnt
 have hn0 : (0 : Int) <= (n : Int):=by omega
 have hnc : (n : Int) <= (cA : Int):=by omega
 have hnc' : ¬ (cA : Int) < (n : Int):=by omega
 rcases AA with _ | ad
 ·have hz : (ordL l0).length = 0:=by
   rcases Nat.eq_zero_or_pos (ordL l0).length with h | h
   ·exact h
   ·obtain ⟨_,h',_⟩:=HCA.out.2.2 h
    cases h'
  obtain rfl : n = 0:=by omega
  have hO : ordL l0 = []:=List.eq_nil_of_length_eq_zero hz
  have HUP2:=HUP.out
  rw [hO,List.take_zero] at HUP2
  have HUP2:=Zz.k HUP2
  have hal2 : Below wI.heap.size wI (wI.alloc (.cells #[.slice none 0 cA] 23)):=Qae (Below.refl _ _) _
  have HAL2:=Zz.k hal2
  have HBW:=Zz.k (Qam HBI.out hal2)
  have HC:=Zz.k (show (wI.alloc (.cells #[.slice none 0 cA] 23)).cell? ⟨wI.heap.size,0,none⟩ = some (.slice none 0 cA) by simp)
  have HZ:=Zz.k (show (wI.alloc (.cells #[.slice none 0 cA] 23)).heap.size = wI.heap.size + 1 by simp)
  clear hal2
  go_wp2_with fail
  generalize (wI.alloc (.cells #[.slice none 0 cA] 23)) = wJ at HAL2 HBW HC HZ ⊢
  refine (HSEEN.out _ HBW.out).mono ?_
  rintro e wS ⟨vS,rfl,hRS,hbS⟩
  obtain ⟨AS,cS,rfl⟩:=Kd.R_slice hRS
  have hown:=Kd.R_base hRS
  have hszI:=HAI.out.size
  have hszJ:=HZ.out
  have hszS:=hbS.size
  have hls : (Qak l0).length <= 1000000000:=by have:=HSL.out; unfold Qak; omega
  have hD:=DeleteFuncElem 96 #[.pointer (some ⟨wI.heap.size,0,none⟩)] wJ.heap.size cS AS (Qak l0) (fun x => !decide (x ∈ ([] : List SElem))) wS
   (enters_at Tryz.func96 (by kernel_rfl) rfl) hls hRS (fun W x hx hg => by
    have k1:=Qau hg (fun e => by have:=hown _ e.symm; simp only at this; omega) (Qaa hbS HC.out)
    exact upto1_calls _ none 0 cA ([] : List SElem) x W k1 rfl (by omega) ⟨rfl,Nat.zero_le _,fun h => absurd h (by decide)⟩ (Nat.zero_le _))
  have HD:=Zz.k hD
  have HBA2:=Zz.k (Qam HBW.out hbS)
  have HOWN:=Zz.k hown
  have HS1:=Zz.k (And.intro hszI (And.intro hszJ hszS))
  clear hD hRS hbS hown hszI hszJ hszS
  go_wp2_with fail
  refine HD.out.mono ?_
  rintro e w2 ⟨v,rfl,hRv,hgv⟩
  have HRV:=Zz.k hRv
  have HGV:=Zz.k hgv
  clear hRv hgv
  go_wp2
  go_ret
  have hz:=HBW.out.size
  refine ⟨_,rfl,by rw [HUP2.out]; exact Kd.R_lower HRV.out hz,Qcd HBA2.out _ HBA2.out.size HGV.out (fun k hk => by have:=HOWN.out k hk; omega)⟩
 ·have hal2 : Below wI.heap.size wI (wI.alloc (.cells #[.slice (some ad) n cA] 23)):=Qae (Below.refl _ _) _
  have HAL2:=Zz.k hal2
  have HBW:=Zz.k (Qam HBI.out hal2)
  have HC:=Zz.k (show (wI.alloc (.cells #[.slice (some ad) n cA] 23)).cell? ⟨wI.heap.size,0,none⟩ = some (.slice (some ad) n cA) by simp)
  have HZ:=Zz.k (show (wI.alloc (.cells #[.slice (some ad) n cA] 23)).heap.size = wI.heap.size + 1 by simp)
  clear hal2
  go_wp2_with fail
  generalize (wI.alloc (.cells #[.slice (some ad) n cA] 23)) = wJ at HAL2 HBW HC HZ ⊢
  refine (HSEEN.out _ HBW.out).mono ?_
  rintro e wS ⟨vS,rfl,hRS,hbS⟩
  obtain ⟨AS,cS,rfl⟩:=Kd.R_slice hRS
  have hown:=Kd.R_base hRS
  have hszI:=HAI.out.size
  have hszJ:=HZ.out
  have hszS:=hbS.size
  have hls : (Qak l0).length <= 1000000000:=by have:=HSL.out; unfold Qak; omega
  have hD:=DeleteFuncElem 96 #[.pointer (some ⟨wI.heap.size,0,none⟩)] wJ.heap.size cS AS (Qak l0) (fun x => !decide (x ∈ (ordL l0).take n)) wS
   (enters_at Tryz.func96 (by kernel_rfl) rfl) hls hRS (fun W x hx hg => by
    have k1:=Qau hg (fun e => by have:=hown _ e.symm; simp only at this; omega) (Qaa hbS HC.out)
    have hRW:=Kd.R_step HRA.out (w1:=W) (fun k ho hlt => ((hg.block k (by omega) (fun e => by have:=hown _ e.symm; omega)).trans (hbS.block k (by omega))).trans ((HAL2.out.block k (by omega)).trans (HAI.out.block k hlt)))
    have hln : ((ordL l0).take n).length = n:=by rw [List.length_take]; omega
    have hC:=Kd.C_take (Kd.R_reads' hRW).2.2 hn
    rw [hln] at hC
    exact upto1_calls _ _ n _ _ x W k1 hln (by have:=HLEN.out; omega) hC (by omega))
  have HD:=Zz.k hD
  have HBA2:=Zz.k (Qam HBW.out hbS)
  have HOWN:=Zz.k hown
  have HS1:=Zz.k (And.intro hszI (And.intro hszJ hszS))
  clear hD hRS hbS hown hszI hszJ hszS
  go_wp2_with fail
  refine HD.out.mono ?_
  rintro e w2 ⟨v,rfl,hRv,hgv⟩
  have HRV:=Zz.k hRv
  have HGV:=Zz.k hgv
  clear hRv hgv
  go_wp2
  go_ret
  have hz:=HBW.out.size
  refine ⟨_,rfl,by rw [HUP.out]; exact Kd.R_lower HRV.out hz,Qcd HBA2.out _ HBA2.out.size HGV.out (fun k hk => by have:=HOWN.out k hk; omega)⟩
end
section
attribute [local go_sem] Qbz Qbw Qcu Qct Qbk Qbj Qby Qbv
attribute [local go_sem high] eqAElem
def caret_Place.f (l0 : List (SOp)) (a1_0 : Int) (a1_1 : Int) (a1_2 : Int) : Option (Int × Int):=(caret_asked.f l0 a1_0 a1_1 a1_2).bind fun t702 => (if t702 = 0 then ((caret_Upto.f l0 a1_0 a1_1 a1_2).bind fun t703 => (some ((t703.length : Int),0))) else (some (0,t702)))
theorem caret_Place.calls (A0 : Option Addr) (c0 : Nat) (l0 : List (SOp)) (a1_0 : Int) (a1_1 : Int) (a1_2 : Int) (r1 : Int) (r2 : Int) (w : World) (hr0 : Kd.C kOp w A0 l0.length l0) (hc0 : l0.length <= c0) (h : caret_Place.f l0 a1_0 a1_1 a1_2 = some (r1,r2)) :
  Calls Tryz.prog 34 #[.slice A0 l0.length c0, .agg #[.int .i64 a1_0, .int .i64 a1_1, .int .i64 a1_2]] w fun e w' => e = .returned (.tuple #[.int .i64 r1, .int .i64 r2]) /\ Below w.heap.size w w':=by
 have hu32:=Tryz.underlying32
 have HR0:=Zz.k hr0
 have HC0:=Zz.k hc0
 clear hr0 hc0
 have HB:=Zz.k (Below.refl w.heap.size w)
 unfold caret_Place.f at h; have H:=h
 clear h
 obtain ⟨t702,A3,H⟩:=bE H
 by_cases c4 : t702 = 0; rotate_left
 ·rw [if_neg c4] at H
  obtain ⟨c4b0,c4b1⟩:=bF c4
  simp only [Option.some.injEq,Prod.mk.injEq] at H
  obtain ⟨rfl,rfl⟩:=H
  go_enter Tryz.func34,Tryz.ntmps34
  go_wp2_with (first | ((with_reducible refine Qad (N:=3) rfl ?_); refine bx 3 #[.int .i64 a1_0, .int .i64 a1_1, .int .i64 a1_2] 32 (h := ?_); intro gb701 hg w12 hbox hb; have BK701:=Zz.k (hbox); have GW701:=bz HB hg; have GE701:=bz HB hg; replace HB:=bs HB hb; clear hb hbox hg; obtain ⟨_,_,_,_,_,_⟩:=kc3 BK701) | ((with_reducible refine Qab (f:=66) rfl ?_); refine gl (some 9) Tryz.func66 #[.slice A0 l0.length c0, .agg #[.int .i64 a1_0, .int .i64 a1_1, .int .i64 a1_2]] (h := ?_); (with_reducible refine (caret_asked.calls _ _ l0 a1_0 a1_1 a1_2 t702 _ ?side1 ?side2 A3.out).mono ?_); (case side1 => exact cb HR0 HB); (case side2 => exact HC0.out); rintro e w14 ⟨rfl,hb⟩; refine ⟨_,rfl, ?_⟩; replace BK701:=bl BK701 hb; replace HB:=bs HB hb; clear hb))
  go_ret2
  exact ⟨re,bw HB⟩
 rw [if_pos c4] at H
 obtain ⟨c4b0,c4b1⟩:=bT c4
 clear c4
 obtain ⟨t703,A5,H⟩:=bE H
 simp only [Option.some.injEq,Prod.mk.injEq] at H
 obtain ⟨rfl,rfl⟩:=H
 go_enter Tryz.func34,Tryz.ntmps34
 go_wp2_with (first | ((with_reducible refine Qad (N:=3) rfl ?_); refine bx 3 #[.int .i64 a1_0, .int .i64 a1_1, .int .i64 a1_2] 32 (h := ?_); intro gb701 hg w6 hbox hb; have BK701:=Zz.k (hbox); have GW701:=bz HB hg; have GE701:=bz HB hg; replace HB:=bs HB hb; clear hb hbox hg; obtain ⟨_,_,_,_,_,_⟩:=kc3 BK701) | ((with_reducible refine Qab (f:=66) rfl ?_); refine gl (some 9) Tryz.func66 #[.slice A0 l0.length c0, .agg #[.int .i64 a1_0, .int .i64 a1_1, .int .i64 a1_2]] (h := ?_); (with_reducible refine (caret_asked.calls _ _ l0 a1_0 a1_1 a1_2 t702 _ ?side1 ?side2 A3.out).mono ?_); (case side1 => exact cb HR0 HB); (case side2 => exact HC0.out); rintro e w8 ⟨rfl,hb⟩; refine ⟨_,rfl, ?_⟩; replace BK701:=bl BK701 hb; replace HB:=bs HB hb; clear hb; obtain ⟨_,_,_,_,_,_⟩:=kc3 BK701) | ((with_reducible refine Qab (f:=67) rfl ?_); refine gl (some 15) Tryz.func67 #[.slice A0 l0.length c0, .agg #[.int .i64 a1_0, .int .i64 a1_1, .int .i64 a1_2]] (h := ?_); (with_reducible refine (caret_Upto.calls _ _ l0 a1_0 a1_1 a1_2 t703 _ ?side1 ?side2 A5.out).mono ?_); (case side1 => exact cb HR0 HB); (case side2 => exact HC0.out); rintro e w10 ⟨v704,rfl,ho0,hb⟩; refine ⟨_,rfl, ?_⟩; have HO705:=Zz.k (Kd.R_lower (Kd.R_newB ho0 (kk BK701)) (Qai (bw HB))); replace BK701:=bl BK701 hb; replace HB:=bs HB hb; clear hb; clear ho0; obtain ⟨Ao11,co11,eo11⟩:=Kd.R_slice HO705.out; subst eo11))
 go_ret2
 exact ⟨re,bw HB⟩
mutual
def w5_Elems.j0 : Nat -> List (SOp) -> List (SElem) -> Option ((List (SElem)))
 | 0,_,_ => none
 | k + 1,x1,x5 => w5_Elems.l0 k x1 x5 0
def w5_Elems.l0 : Nat -> List (SOp) -> List (SElem) -> Int -> Option ((List (SElem)))
 | 0,_,_,_ => none
 | k + 1,x1,x5,x6 => if x6 < (x1.length : Int) then (if x6 < 40 then (if 0 <= x6 then (if x5.length < 5864062014805 then (w5_Elems.l0 k x1 (x5 ++ [(⟨(Qah x1 x6).f0,(Qah x1 x6).f1,Int.tmod x6 3⟩ : SElem)]) (wrap64 (x6 + 1))) else (none)) else (none)) else (some x5)) else (some x5)
end
def w5_Elems.f (k : Nat) (l0_0 : List (List (SOp))) (l0_1 : List (SElem)) (l0_2 : List (SOp)) (l0_3 : List Int) (l1 : List (SOp)) : Option ((List (SElem))):=(some (([(⟨0,0,0⟩ : SElem)] : List (SElem)) : List (SElem))).bind fun y707 => (if y707.length + l0_1.length < 5864062014805 then ((some (y707 ++ l0_1 : List (SElem))).bind fun y710 => (if (y710.length : Int) > 6 then (if 6 <= (y710.length : Int) then (w5_Elems.j0 k l1 (y710.take (6 : Int).toNat)) else (none)) else (w5_Elems.j0 k l1 y710))) else (none))
def w5_Elems.T7 : Bool × List (List Nat × List Nat):=(true,[([],[]),([],[]),([],[]),([1,2],[1,2]),([3],[3]),([4],[4]),([],[]),([],[]),([6,7],[6,7]),([8],[8]),([9],[9]),([],[]),([11],[11]),([5,10,12],[5,10,12]),([13],[13]),([0,14],[0,14]),([15,15,0,1,2,3,4,5,6,7,8,9,10,11,12,13,14,15],[0,15])])
def w5_Elems.B7 : List Nat:=[0,0,0,6,14,30,0,0,192,448,960,0,2048,8190,16382,32767,65535]
theorem w5_Elems.tab7 : rtab .any (opsOf Tryz.f35 7) = w5_Elems.T7:=by kernel_rfl
theorem w5_Elems.bits7 : Qax w5_Elems.T7.2 w5_Elems.B7 = true:=by kernel_rfl
theorem w5_Elems.calls (k : Nat) (A0_0 : Option Addr) (c0_0 : Nat) (l0_0 : List (List (SOp))) (A0_1 : Option Addr) (c0_1 : Nat) (l0_1 : List (SElem)) (A0_2 : Option Addr) (c0_2 : Nat) (l0_2 : List (SOp)) (A0_3 : Option Addr) (c0_3 : Nat) (l0_3 : List Int) (A1 : Option Addr) (c1 : Nat) (l1 : List (SOp)) (r : List (SElem)) (w : World) (hr0_0 : Kd.C (Kd.slice 34 kOp) w A0_0 l0_0.length l0_0) (hc0_0 : l0_0.length <= c0_0) (hr0_1 : Kd.C Qav w A0_1 l0_1.length l0_1) (hc0_1 : l0_1.length <= c0_1) (hr0_2 : Kd.C kOp w A0_2 l0_2.length l0_2) (hc0_2 : l0_2.length <= c0_2) (hr0_3 : Kd.C (Kd.int .i64) w A0_3 l0_3.length l0_3) (hc0_3 : l0_3.length <= c0_3) (hr1 : Kd.C kOp w A1 l1.length l1) (hc1 : l1.length <= c1) (h : w5_Elems.f k l0_0 l0_1 l0_2 l0_3 l1 = some r) :
  Calls Tryz.prog 35 #[.agg #[.slice A0_0 l0_0.length c0_0, .slice A0_1 l0_1.length c0_1, .slice A0_2 l0_2.length c0_2, .slice A0_3 l0_3.length c0_3], .slice A1 l1.length c1] w fun e w' => ∃ v0_ : Value,e = .returned (v0_) /\ Kd.R Qav 32 w' w.heap.size (fun _ => True) v0_ r /\ Below w.heap.size w w':=by
 have hu27:=Tryz.underlying27
 have hu32:=Tryz.underlying32
 have HR0_0:=Zz.k hr0_0
 have HC0_0:=Zz.k hc0_0
 clear hr0_0 hc0_0
 have HR0_1:=Zz.k hr0_1
 have HC0_1:=Zz.k hc0_1
 clear hr0_1 hc0_1
 have HR0_2:=Zz.k hr0_2
 have HC0_2:=Zz.k hc0_2
 clear hr0_2 hc0_2
 have HR0_3:=Zz.k hr0_3
 have HC0_3:=Zz.k hc0_3
 clear hr0_3 hc0_3
 have HR1:=Zz.k hr1
 have HC1:=Zz.k hc1
 clear hr1 hc1
 have HB:=Zz.k (Below.refl w.heap.size w)
 unfold w5_Elems.f at h; have H:=h
 clear h
 obtain ⟨y707,hy707⟩ : ∃ y_ : List (SElem),y_ = (([(⟨0,0,0⟩ : SElem)] : List (SElem))):=⟨_,rfl⟩
 first | rw [Option.bind_some,<- hy707] at H | rw [<- hy707] at H
 have Ny707:=Zz.k hy707
 clear hy707
 by_cases c3 : y707.length + l0_1.length < 5864062014805; rotate_left
 ·rw [if_neg c3] at H
  exact absurd H (by simp)
 rw [if_pos c3] at H
 have LMc3:=Zz.k c3
 clear c3
 obtain ⟨y710,hy710⟩ : ∃ y_ : List (SElem),y_ = (y707 ++ l0_1):=⟨_,rfl⟩
 first | rw [Option.bind_some,<- hy710] at H | rw [<- hy710] at H
 have Ny710:=Zz.k hy710
 clear hy710
 have HC4:=Zz.k H
 clear H
 go_enter Tryz.func35,Tryz.ntmps35
 go_upto_if 14 with (first | ((with_reducible refine Qad (N:=2) rfl ?_); refine bx 2 #[.slice A0_0 l0_0.length c0_0, .slice A0_1 l0_1.length c0_1, .slice A0_2 l0_2.length c0_2, .slice A0_3 l0_3.length c0_3] 27 (h := ?_); intro gb706 hg w5 hbox hb; have BK706:=Zz.k (hbox); have GW706:=bz HB hg; have GE706:=bz HB hg; replace HB:=bs HB hb; clear hb hbox hg) | ((with_reducible refine Qad (N:=8) rfl ?_); refine Kd.R_lit Qav _ 32 ?hg (N:=8) ?hd (xs:=([(⟨0,0,0⟩ : SElem)] : List (SElem))) (inner:=[.int .i64 0, .int .i64 0, .int .i64 0]) (ok:=fun _ => True) (okp:=fun _ => True) ?hr ?hp (fun _ hk => hk) trivial (Below.refl _ _) (Nat.le_refl _) (by simp) ?_; (case hd => rfl); (case hg => rfl); (case hr => first | (go_simp; done) | (go_simp; rfl)); (case hp => exact (Reps.c3 (show Kd.M Qav _ _ _ (⟨0,0,0⟩ : SElem) [.int .i64 0, .int .i64 0, .int .i64 0] from (Qdb _ _ _ (⟨0,0,0⟩ : SElem) )) (Reps.none _ _))); intro v708 w6 ho7 hb hg_ hnew_; clear hg_ hnew_; (first | rw [<- Ny707.out] at ho7 | (simp only [Int.reduceToNat] at ho7; rw [<- Ny707.out] at ho7)); have HO709:=Zz.k (Kd.R_lower ho7 (Qai (bw HB))); replace BK706:=bl BK706 hb; replace HB:=bs HB hb; clear hb ho7; obtain ⟨_,_,_,_,_,_,_,_⟩:=kc4 BK706) | ((with_reducible refine Qcw (b:=.append) (xs:=#[.tmp 8, .tmp 10]) rfl ?_); at_builtin; refine Kd.R_append_rows Qav (w0:=w) w.heap.size rfl (.tmp 8) (.tmp 10) 23 32 (.agg #[(.int .i64 0),(.int .i64 0),(.int .i64 0)]) 24 rfl Tryz.underlying23 info32 rfl (by decide) (by omega) v708 y707 l0_1 _ _ _ (fun _ => True) (fun _ => False) rfl rfl ?aO ?aR (fun _ _ h => h) (fun _ h => h.elim) ?aF ?aB ?aS ?aL ?_; (case aR => exact cb HR0_1 HB); (case aB => exact (bw HB)); (case aF => exact (fun _ _ => trivial)); (case aO => exact (rk HO709)); (case aS => exact (Qai (bw HB))); (case aL => have:=LMc3.out; omega); intro v711 w9 ho hb hg hat; rw [<- Ny710.out] at ho; have n0_:=Zz.k (Qdc (kk BK706) hg (Kd.R_ne HO709.out BK706.out (by decide))); have n1_:=Zz.k (hb); have n2_:=Zz.k (ho); clear BK706; clear HB; clear HO709; have BK706:=n0_; have HB:=n1_; have HO712:=n2_; clear n0_ n1_ n2_; clear ho hb hg hat; obtain ⟨Ao10,co10,eo10⟩:=Kd.R_slice HO712.out; subst eo10))
 (try simp only [Act.put,List.setIfInBounds_toArray,List.set_cons_zero,List.set_cons_succ])
 go_cut [5] (fun v5 wc => ∃ (kq : Nat) (x5_3 : List (SElem)),Zz (w5_Elems.j0 kq l1 x5_3 = some r) /\ Zz (kq <= k) /\ Zz (Kd.R Qav 32 wc w.heap.size (fun _ => True) v5 x5_3) /\ Zz (wc.heap[gb706]? = some (.cells #[(.slice A0_0 l0_0.length c0_0),(.slice A0_1 l0_1.length c0_1),(.slice A0_2 l0_2.length c0_2),(.slice A0_3 l0_3.length c0_3)] 27 (0,0))) /\ Zz (Below w.heap.size w wc))
 case first =>
  have H:=HC4.out
  clear HC4
  by_cases c11 : (y710.length : Int) > 6; rotate_left
  ·rw [if_neg c11] at H
   have c11b0:=Ze c11
   have c11b1 : decide (6 < y710.length) = false:=Ze (by omega)
   clear c11
   (first | rw [c11b0] | (simp only [i64_w,i32_w]; rw [c11b0]) | skip)
   have H':=Zz.k H
   clear H
   go_wp2
   go_meet
   case rel => exact ⟨_,(y710),H',⟨by first | omega | exact Nat.le_refl _⟩,⟨rk HO712⟩,⟨kk BK706⟩,⟨bw HB⟩⟩
  rw [if_pos c11] at H
  have c11b0:=Zd c11
  have c11b1 : decide (6 < y710.length) = true:=Zd (by omega)
  clear c11
  (first | rw [c11b0] | (simp only [i64_w,i32_w]; rw [c11b0]) | skip)
  by_cases c12 : 6 <= (y710.length : Int); rotate_left
  ·rw [if_neg c12] at H
   exact absurd H (by simp)
  rw [if_pos c12] at H
  have c12b0:=eq_true c12
  have c12b1:=Zd c12
  clear c12
  obtain ⟨y713,hy713⟩ : ∃ y_ : List (SElem),y_ = (y710.take (6 : Int).toNat):=⟨_,rfl⟩
  first | rw [Option.bind_some,<- hy713] at H | rw [<- hy713] at H
  have Ny713:=Zz.k hy713
  clear hy713
  have H':=Zz.k H
  clear H
  have q13 : (6 : Int) <= ((y710.length : Int) : Int):=od
  obtain ⟨i013,hi013,_,hsz13,_⟩:=info_parts info32
  have hcut13:=cut_to (P:=Tryz.prog) 23 32 .i64 Tryz.underlying23 hi013 Ao10 y710.length co10 6 (by omega) q13 (Kd.R_reads' HO712.out).2.1
  have hr13:=Kd.R_take (m:=(6 : Int).toNat) HO712.out (by omega)
  have hy13 : y713.length = (6 : Int).toNat:=(by rw [Ny713.out,List.length_take]; omega)
  rw [<- Ny713.out] at hr13
  rw [<- hy13] at hr13 hcut13
  clear hy13 hi013 hsz13 HO712
  have HO715:=Zz.k hr13
  clear hr13
  replace q13:=eq_true q13
  go_wp2
  go_meet
  case rel => exact ⟨_,(y713),H',⟨by first | omega | exact Nat.le_refl _⟩,⟨rk HO715⟩,⟨kk BK706⟩,⟨bw HB⟩⟩
 case rest =>
  clear HC4
  try clear c1
  obtain ⟨kq,x5_3,HA,HJ3,HO_5,BK706,HB⟩:=hcut
  cases kq with
  | zero => exact absurd HA.out (by simp [w5_Elems.j0])
  | succ kj3 =>
   have H:=HA.out
   clear HA
   simp only [w5_Elems.j0] at H
   have H':=Zz.k H
   clear H
   go_wp2
   go_loopg [5,6] kj3 (fun kq v5 v6 w' => ∃ (x5_2 : List (SElem)) (x6_2 : Int),v6 = .int .i64 x6_2 /\ Zz (w5_Elems.l0 kq l1 x5_2 x6_2 = some r) /\ Zz (kq <= kj3) /\ Zz (Kd.R Qav 32 w' w.heap.size (fun _ => True) v5 x5_2) /\ Zz (w'.heap[gb706]? = some (.cells #[(.slice A0_0 l0_0.length c0_0),(.slice A0_1 l0_1.length c0_1),(.slice A0_2 l0_2.length c0_2),(.slice A0_3 l0_3.length c0_3)] 27 (0,0))) /\ Zz (Below w.heap.size w w'))
   case atStart => exact ⟨(x5_3),(0),rf,H',⟨Nat.le_refl _⟩,⟨rk HO_5⟩,⟨kk BK706⟩,⟨bw HB⟩⟩
   case round =>
    clear H'
    obtain ⟨x5_2,x6_2,rfl,HA,HK2,HO_5,BK706,HB⟩:=hrel
    cases gk with
    | zero => exact absurd HA.out (by simp [w5_Elems.l0])
    | succ k2 =>
     have H:=HA.out
     clear HA
     simp only [w5_Elems.l0] at H
     by_cases c14 : x6_2 < (l1.length : Int); rotate_left
     ·rw [if_neg c14] at H
      have c14b0:=Ze c14
      clear c14
      obtain rfl:=Zo H
      go_wp2
      go_ret
      exact ⟨_,re,by (with_reducible repeat (first | apply Kd.R_alloc | apply Kd.R_drewN | apply Kd.R_drew)); exact HO_5.out,bw HB⟩
     rw [if_pos c14] at H
     have c14b0:=Zd c14
     clear c14
     by_cases c15 : x6_2 < 40; rotate_left
     ·rw [if_neg c15] at H
      have c15b0:=Ze c15
      clear c15
      obtain rfl:=Zo H
      go_wp2
      go_ret
      exact ⟨_,re,by (with_reducible repeat (first | apply Kd.R_alloc | apply Kd.R_drewN | apply Kd.R_drew)); exact HO_5.out,bw HB⟩
     rw [if_pos c15] at H
     have c15b0:=Zd c15
     clear c15
     by_cases c16 : 0 <= x6_2; rotate_left
     ·rw [if_neg c16] at H
      exact absurd H (by simp)
     rw [if_pos c16] at H
     have c16b0:=Zd c16
     clear c16
     by_cases c17 : x5_2.length < 5864062014805; rotate_left
     ·rw [if_neg c17] at H
      exact absurd H (by simp)
     rw [if_pos c17] at H
     have LMc17:=Zz.k c17
     clear c17
     obtain ⟨y718,hy718⟩ : ∃ y_ : List (SElem),y_ = (x5_2 ++ [(⟨(Qah l1 x6_2).f0,(Qah l1 x6_2).f1,Int.tmod x6_2 3⟩ : SElem)]):=⟨_,rfl⟩
     first | rw [Option.bind_some,<- hy718] at H | rw [<- hy718] at H
     have Ny718:=Zz.k hy718
     clear hy718
     have H':=Zz.k H
     clear H
     try go_wp2
     have n0_:=Zz.k (Kd.R_drew HO_5.out)
     have n1_:=Zz.k (Qat BK706.out)
     have n2_:=Zz.k (Qaf HB.out)
     clear HO_5
     clear BK706
     clear HB
     have HO_5:=n0_
     have BK706:=n1_
     have HB:=n2_
     clear n0_ n1_ n2_
     have p716 : 0 <= (x6_2 : Int):=od
     have q716 : x6_2 < (l1.length : Int):=od
     obtain ⟨ad716,A716_7,c716_7,e716,hx716_0,hx716_1,hx716_2,hx716_3,hx716_4,hx716_5,hx716_6,hx716_7,hx716_8,hx716_9,hx716_10,hl716_7,hi716_7⟩:=at_Op HR1.out x6_2 p716 q716
     have hw716_10:=hx716_10
     have hw716_9:=hx716_9
     have hw716_8:=hx716_8
     have hw716_7:=hx716_7
     have hw716_6:=hx716_6
     have hw716_5:=hx716_5
     have hw716_4:=hx716_4
     have hw716_3:=hx716_3
     have hw716_2:=hx716_2
     have hw716_1:=hx716_1
     have hw716_0:=hx716_0
     cases e716
     replace hx716_0:=cl HB hx716_0
     replace hx716_1:=cl HB hx716_1
     replace hx716_2:=cl HB hx716_2
     replace hx716_3:=cl HB hx716_3
     replace hx716_4:=cl HB hx716_4
     replace hx716_5:=cl HB hx716_5
     replace hx716_6:=cl HB hx716_6
     replace hx716_7:=cl HB hx716_7
     replace hx716_8:=cl HB hx716_8
     replace hx716_9:=cl HB hx716_9
     replace hx716_10:=cl HB hx716_10
     have HR716_7:=Zz.k hi716_7
     have HC716_7:=Zz.k hl716_7
     clear hi716_7 hl716_7
     replace p716:=eq_true p716
     replace q716:=eq_true q716
     refine stP (fun w' => Q11 w' (ad716.add ((x6_2).toNat * 11)) (Qah l1 x6_2) A716_7 c716_7) 17 ⟨(cW HB hw716_0),(cW HB hw716_1),(cW HB hw716_2),(cW HB hw716_3),(cW HB hw716_4),(cW HB hw716_5),(cW HB hw716_6),(cW HB hw716_7),(cW HB hw716_8),(cW HB hw716_9),(cW HB hw716_10)⟩ (h:=fun hHeld => ?_); refine Qbr w5_Elems.tab7 w5_Elems.bits7 (fun HT_ HW_ => ?_)
     generalize wr.drew = w18 at HO_5 BK706 HB HR716_7 HR716_7 hx716_0 hx716_1 hx716_10 hx716_2 hx716_3 hx716_4 hx716_5 hx716_6 hx716_7 hx716_8 hx716_9 hx716_0 hx716_1 hx716_10 hx716_2 hx716_3 hx716_4 hx716_5 hx716_6 hx716_7 hx716_8 hx716_9 hHeld ⊢
     refine pu HT_ 0 27 1 (h := ?_)
     refine pu HT_ 1 28 3 (h := ?_)
     refine pu HT_ 2 29 7 (h := ?_)
     refine pu HT_ 3 30 15 (h := ?_)
     refine pu HT_ 4 31 31 (h := ?_)
     refine pu HT_ 6 33 95 (h := ?_)
     refine pu HT_ 7 34 223 (h := ?_)
     refine pu HT_ 8 35 479 (h := ?_)
     refine pu HT_ 9 36 991 (h := ?_)
     refine pu HT_ 11 38 3039 (h := ?_)
     refine pu HT_ 12 39 7135 (h := ?_)
     refine tk HT_ HW_ hHeld 5 32 7167 (h := ?_)
     refine tk HT_ HW_ hHeld 10 37 8191 (h := ?_)
     refine pu HT_ 13 40 16383 (h := ?_)
     refine on HT_ 14 (some 41) 32767 (h:=fun K hK => ?_)
     refine value_ (w1 := ?_) (v := ?_) (by rfl) rfl ?_ ?_
     rotate_left 2
     ·go_simp
      constructor
      ·rfl
      rfl
     refine hK.out _ _ ⟨(World.cell?_alloc_lt _ _ _ (World.block_lt_of_cell? _ _ ((cW HB hw716_0)))).trans ((cW HB hw716_0)),(World.cell?_alloc_lt _ _ _ (World.block_lt_of_cell? _ _ ((cW HB hw716_1)))).trans ((cW HB hw716_1)),(World.cell?_alloc_lt _ _ _ (World.block_lt_of_cell? _ _ ((cW HB hw716_2)))).trans ((cW HB hw716_2)),(World.cell?_alloc_lt _ _ _ (World.block_lt_of_cell? _ _ ((cW HB hw716_3)))).trans ((cW HB hw716_3)),(World.cell?_alloc_lt _ _ _ (World.block_lt_of_cell? _ _ ((cW HB hw716_4)))).trans ((cW HB hw716_4)),(World.cell?_alloc_lt _ _ _ (World.block_lt_of_cell? _ _ ((cW HB hw716_5)))).trans ((cW HB hw716_5)),(World.cell?_alloc_lt _ _ _ (World.block_lt_of_cell? _ _ ((cW HB hw716_6)))).trans ((cW HB hw716_6)),(World.cell?_alloc_lt _ _ _ (World.block_lt_of_cell? _ _ ((cW HB hw716_7)))).trans ((cW HB hw716_7)),(World.cell?_alloc_lt _ _ _ (World.block_lt_of_cell? _ _ ((cW HB hw716_8)))).trans ((cW HB hw716_8)),(World.cell?_alloc_lt _ _ _ (World.block_lt_of_cell? _ _ ((cW HB hw716_9)))).trans ((cW HB hw716_9)),(World.cell?_alloc_lt _ _ _ (World.block_lt_of_cell? _ _ ((cW HB hw716_10)))).trans ((cW HB hw716_10))⟩ (fun hHeld => ?_)
     clear hK K
     refine nn 41 (h := ?_)
     refine on HT_ 15 (some 42) 65535 (h:=fun K hK => ?_)
     refine Kd.R_append_step Qav (w0:=w) w.heap.size (by rfl) (.tmp 27) (.tmp 41) 23 32 (.agg #[(.int .i64 0),(.int .i64 0),(.int .i64 0)]) 24 rfl Tryz.underlying23 info32 rfl (by decide) (by omega) u5 x5_2 (⟨(Qah l1 x6_2).f0,(Qah l1 x6_2).f1,Int.tmod x6_2 3⟩ : SElem) [.int .i64 ((Qah l1 x6_2).f0), .int .i64 ((Qah l1 x6_2).f1), .int .i64 (Int.tmod x6_2 3)] (fun _ => True) (fun _ => False) rfl rfl ?aP (fun _ hk => hk.elim) ?aF ?aO ?aB ?aS ?aL ?_
     (case aP => exact Qdb _ _ _ (⟨(Qah l1 x6_2).f0,(Qah l1 x6_2).f1,Int.tmod x6_2 3⟩ : SElem))
     (case aB => exact (bw HB))
     (case aF => exact (fun _ _ => trivial))
     (case aO => exact (rk HO_5))
     (case aS => exact (Qai (bw HB)))
     (case aL => have:=LMc17.out; omega)
     intro v719 w19 ho hb hg hat
     rw [<- Ny718.out] at ho
     have n0_:=Zz.k (Qdc (kk BK706) hg (Kd.R_ne HO_5.out BK706.out (by decide)))
     have n1_:=Zz.k (hb)
     have n2_:=Zz.k (ho)
     clear BK706
     clear HB
     clear HO_5
     have BK706:=n0_
     have HB:=n1_
     have HO720:=n2_
     clear n0_ n1_ n2_
     clear ho hb hg hat
     refine hK.out _ _ ⟨(cW HB hw716_0),(cW HB hw716_1),(cW HB hw716_2),(cW HB hw716_3),(cW HB hw716_4),(cW HB hw716_5),(cW HB hw716_6),(cW HB hw716_7),(cW HB hw716_8),(cW HB hw716_9),(cW HB hw716_10)⟩ (fun hHeld => ?_)
     clear hK K
     refine nn 42 (h := ?_)
     refine pu HT_ 16 5 131071 (h := ?_)
     refine dn HT_ (h := ?_)
     try go_wp2
     go_roundg k2
     case measure => have:=HJ3.out; have:=HK2.out; omega
     case rel => exact ⟨(y718),(wrap64 (x6_2 + 1)),rf,H',⟨by have:=HJ3.out; have:=HK2.out; omega⟩,⟨rk HO720⟩,⟨kk BK706⟩,⟨bw HB⟩⟩
def caret_Near.f (l0 : List (SOp)) (a1_0 : Int) (a1_1 : Int) (a1_2 : Int) : Option (Int × Int × Int × Int):=(caret_asked.f l0 a1_0 a1_1 a1_2).bind fun t723 => (if t723 = 0 then ((caret_Upto.f l0 a1_0 a1_1 a1_2).bind fun t724 => (if (t724.length : Int) = 0 then (some (0,0,0,0)) else (if 0 <= (wrap64 ((t724.length : Int) - 1)) then (if (wrap64 ((t724.length : Int) - 1)) < (t724.length : Int) then (some ((Qac t724 (wrap64 ((t724.length : Int) - 1))).f0,(Qac t724 (wrap64 ((t724.length : Int) - 1))).f1,(Qac t724 (wrap64 ((t724.length : Int) - 1))).f2,0)) else (none)) else (none)))) else (some (0,0,0,t723)))
theorem caret_Near.calls (A0 : Option Addr) (c0 : Nat) (l0 : List (SOp)) (a1_0 : Int) (a1_1 : Int) (a1_2 : Int) (r1 : Int) (r2 : Int) (r3 : Int) (r4 : Int) (w : World) (hr0 : Kd.C kOp w A0 l0.length l0) (hc0 : l0.length <= c0) (h : caret_Near.f l0 a1_0 a1_1 a1_2 = some (r1,r2,r3,r4)) :
  Calls Tryz.prog 36 #[.slice A0 l0.length c0, .agg #[.int .i64 a1_0, .int .i64 a1_1, .int .i64 a1_2]] w fun e w' => e = .returned (.tuple #[.agg #[.int .i64 r1, .int .i64 r2, .int .i64 r3], .int .i64 r4]) /\ Below w.heap.size w w':=by
 have hu32:=Tryz.underlying32
 have HR0:=Zz.k hr0
 have HC0:=Zz.k hc0
 clear hr0 hc0
 have HB:=Zz.k (Below.refl w.heap.size w)
 unfold caret_Near.f at h; have H:=h
 clear h
 obtain ⟨t723,A3,H⟩:=bE H
 by_cases c4 : t723 = 0; rotate_left
 ·rw [if_neg c4] at H
  obtain ⟨c4b0,c4b1⟩:=bF c4
  simp only [Option.some.injEq,Prod.mk.injEq] at H
  obtain ⟨rfl,rfl,rfl,rfl⟩:=H
  go_enter Tryz.func36,Tryz.ntmps36
  go_wp2_with (first | ((with_reducible refine Qad (N:=3) rfl ?_); refine bx 3 #[.int .i64 a1_0, .int .i64 a1_1, .int .i64 a1_2] 32 (h := ?_); intro gb721 hg w28 hbox hb; have BK721:=Zz.k (hbox); have GW721:=bz HB hg; have GE721:=bz HB hg; replace HB:=bs HB hb; clear hb hbox hg) | ((with_reducible refine Qad (N:=4) rfl ?_); refine bx 4 #[.int .i64 0, .int .i64 0, .int .i64 0] 32 (h := ?_); intro gb722 hg w29 hbox hb; have BK722:=Zz.k (hbox); have GW722:=bz HB hg; have GE722:=bz HB hg; have NB721_722:=bn BK721 hg; have NB722_721:=bm BK721 hg; replace BK721:=bl BK721 hb; replace HB:=bs HB hb; clear hb hbox hg; have hnb30:=NB721_722.out; have hnc30:=NB722_721.out; obtain ⟨_,_,_,_,_,_⟩:=kc3 BK721) | ((with_reducible refine Qab (f:=66) rfl ?_); refine gl (some 10) Tryz.func66 #[.slice A0 l0.length c0, .agg #[.int .i64 a1_0, .int .i64 a1_1, .int .i64 a1_2]] (h := ?_); (with_reducible refine (caret_asked.calls _ _ l0 a1_0 a1_1 a1_2 t723 _ ?side1 ?side2 A3.out).mono ?_); (case side1 => exact cb HR0 HB); (case side2 => exact HC0.out); rintro e w32 ⟨rfl,hb⟩; refine ⟨_,rfl, ?_⟩; replace BK721:=bl BK721 hb; replace BK722:=bl BK722 hb; replace HB:=bs HB hb; clear hb; obtain ⟨_,_,_,_,_,_⟩:=kc3 BK722))
  refine bodyPost_ret (Qaw rfl _ _ gb722 32 #[.int .i64 0, .int .i64 0, .int .i64 0] (0,0) _ rfl (bp (bp (bp (kk BK722) 0) 1) 2) Tryz.underlying32 rfl (by kernel_rfl)) rfl ?_
  exact ⟨re,bw HB⟩
 rw [if_pos c4] at H
 obtain ⟨c4b0,c4b1⟩:=bT c4
 clear c4
 obtain ⟨t724,A5,H⟩:=bE H
 by_cases c6 : (t724.length : Int) = 0
 ·rw [if_pos c6] at H
  obtain ⟨c6b0,c6b1⟩:=bT c6
  clear c6
  simp only [Option.some.injEq,Prod.mk.injEq] at H
  obtain ⟨rfl,rfl,rfl,rfl⟩:=H
  go_enter Tryz.func36,Tryz.ntmps36
  go_wp2_with (first | ((with_reducible refine Qad (N:=3) rfl ?_); refine bx 3 #[.int .i64 a1_0, .int .i64 a1_1, .int .i64 a1_2] 32 (h := ?_); intro gb721 hg w7 hbox hb; have BK721:=Zz.k (hbox); have GW721:=bz HB hg; have GE721:=bz HB hg; replace HB:=bs HB hb; clear hb hbox hg) | ((with_reducible refine Qad (N:=4) rfl ?_); refine bx 4 #[.int .i64 0, .int .i64 0, .int .i64 0] 32 (h := ?_); intro gb722 hg w8 hbox hb; have BK722:=Zz.k (hbox); have GW722:=bz HB hg; have GE722:=bz HB hg; have NB721_722:=bn BK721 hg; have NB722_721:=bm BK721 hg; replace BK721:=bl BK721 hb; replace HB:=bs HB hb; clear hb hbox hg; have hnb9:=NB721_722.out; have hnc9:=NB722_721.out; obtain ⟨_,_,_,_,_,_⟩:=kc3 BK721) | ((with_reducible refine Qab (f:=66) rfl ?_); refine gl (some 10) Tryz.func66 #[.slice A0 l0.length c0, .agg #[.int .i64 a1_0, .int .i64 a1_1, .int .i64 a1_2]] (h := ?_); (with_reducible refine (caret_asked.calls _ _ l0 a1_0 a1_1 a1_2 t723 _ ?side1 ?side2 A3.out).mono ?_); (case side1 => exact cb HR0 HB); (case side2 => exact HC0.out); rintro e w11 ⟨rfl,hb⟩; refine ⟨_,rfl, ?_⟩; replace BK721:=bl BK721 hb; replace BK722:=bl BK722 hb; replace HB:=bs HB hb; clear hb; obtain ⟨_,_,_,_,_,_⟩:=kc3 BK721) | ((with_reducible refine Qab (f:=67) rfl ?_); refine gl (some 17) Tryz.func67 #[.slice A0 l0.length c0, .agg #[.int .i64 a1_0, .int .i64 a1_1, .int .i64 a1_2]] (h := ?_); (with_reducible refine (caret_Upto.calls _ _ l0 a1_0 a1_1 a1_2 t724 _ ?side1 ?side2 A5.out).mono ?_); (case side1 => exact cb HR0 HB); (case side2 => exact HC0.out); rintro e w13 ⟨v725,rfl,ho0,hb⟩; refine ⟨_,rfl, ?_⟩; have HO726:=Zz.k (Kd.R_lower (Kd.R_newB (Kd.R_newB ho0 (kk BK721)) (kk BK722)) (Qai (bw HB))); replace BK721:=bl BK721 hb; replace BK722:=bl BK722 hb; replace HB:=bs HB hb; clear hb; clear ho0; obtain ⟨Ao14,co14,eo14⟩:=Kd.R_slice HO726.out; subst eo14; obtain ⟨_,_,_,_,_,_⟩:=kc3 BK722))
  refine bodyPost_ret (Qaw rfl _ _ gb722 32 #[.int .i64 0, .int .i64 0, .int .i64 0] (0,0) _ rfl (bp (bp (bp (kk BK722) 0) 1) 2) Tryz.underlying32 rfl (by kernel_rfl)) rfl ?_
  exact ⟨re,bw HB⟩
 rw [if_neg c6] at H
 obtain ⟨c6b0,c6b1⟩:=bF c6
 have c6b2 : ¬ (t724 = []):=fun h_ => c6 (by rw [h_]; rfl)
 obtain ⟨ji16,hji16⟩ : ∃ j_ : Int,(wrap64 ((t724.length : Int) - 1)) = j_:=⟨_,rfl⟩
 replace H : (if 0 <= (ji16) then (if (ji16) < (t724.length : Int) then (some ((Qac t724 (ji16)).f0,(Qac t724 (ji16)).f1,(Qac t724 (ji16)).f2,0)) else (none)) else (none)) = some (r1,r2,r3,r4):=by first | (rw [hji16] at H; exact H) | (simp only [hji16] at H ⊢; exact H)
 (try rw [hji16] at A3)
 (try rw [hji16] at A5)
 have hji16w : (IntKind.i64.wrap ((t724.length : Int) - 1)) = ji16:=(i64_w _).trans hji16
 by_cases c17 : 0 <= (ji16); rotate_left
 ·rw [if_neg c17] at H
  exact absurd H (by simp)
 rw [if_pos c17] at H
 have c17b0:=Zd c17
 clear c17
 by_cases c18 : (ji16) < (t724.length : Int); rotate_left
 ·rw [if_neg c18] at H
  exact absurd H (by simp)
 rw [if_pos c18] at H
 have c18b0:=Zd c18
 clear c18
 simp only [Option.some.injEq,Prod.mk.injEq] at H
 obtain ⟨rfl,rfl,rfl,rfl⟩:=H
 go_enter Tryz.func36,Tryz.ntmps36
 go_wp2_with (first | ((with_reducible refine Qad (N:=3) rfl ?_); refine bx 3 #[.int .i64 a1_0, .int .i64 a1_1, .int .i64 a1_2] 32 (h := ?_); intro gb721 hg w19 hbox hb; have BK721:=Zz.k (hbox); have GW721:=bz HB hg; have GE721:=bz HB hg; replace HB:=bs HB hb; clear hb hbox hg) | ((with_reducible refine Qad (N:=4) rfl ?_); refine bx 4 #[.int .i64 0, .int .i64 0, .int .i64 0] 32 (h := ?_); intro gb722 hg w20 hbox hb; have BK722:=Zz.k (hbox); have GW722:=bz HB hg; have GE722:=bz HB hg; have NB721_722:=bn BK721 hg; have NB722_721:=bm BK721 hg; replace BK721:=bl BK721 hb; replace HB:=bs HB hb; clear hb hbox hg; have hnb21:=NB721_722.out; have hnc21:=NB722_721.out; obtain ⟨_,_,_,_,_,_⟩:=kc3 BK721) | ((with_reducible refine Qab (f:=66) rfl ?_); refine gl (some 10) Tryz.func66 #[.slice A0 l0.length c0, .agg #[.int .i64 a1_0, .int .i64 a1_1, .int .i64 a1_2]] (h := ?_); (with_reducible refine (caret_asked.calls _ _ l0 a1_0 a1_1 a1_2 t723 _ ?side1 ?side2 A3.out).mono ?_); (case side1 => exact cb HR0 HB); (case side2 => exact HC0.out); rintro e w23 ⟨rfl,hb⟩; refine ⟨_,rfl, ?_⟩; replace BK721:=bl BK721 hb; replace BK722:=bl BK722 hb; replace HB:=bs HB hb; clear hb; obtain ⟨_,_,_,_,_,_⟩:=kc3 BK721) | ((with_reducible refine Qab (f:=67) rfl ?_); refine gl (some 17) Tryz.func67 #[.slice A0 l0.length c0, .agg #[.int .i64 a1_0, .int .i64 a1_1, .int .i64 a1_2]] (h := ?_); (with_reducible refine (caret_Upto.calls _ _ l0 a1_0 a1_1 a1_2 t724 _ ?side1 ?side2 A5.out).mono ?_); (case side1 => exact cb HR0 HB); (case side2 => exact HC0.out); rintro e w25 ⟨v725,rfl,ho0,hb⟩; refine ⟨_,rfl, ?_⟩; have HO726:=Zz.k (Kd.R_lower (Kd.R_newB (Kd.R_newB ho0 (kk BK721)) (kk BK722)) (Qai (bw HB))); replace BK721:=bl BK721 hb; replace BK722:=bl BK722 hb; replace HB:=bs HB hb; clear hb; clear ho0; obtain ⟨Ao26,co26,eo26⟩:=Kd.R_slice HO726.out; subst eo26; have p727 : 0 <= ((ji16) : Int):=od; have q727 : (ji16) < (t724.length : Int):=od; obtain ⟨ad727,e727,hx727_0,hx727_1,hx727_2⟩:=Qbm (Kd.R_reads' HO726.out).2.2 (ji16) p727 q727; cases e727; replace p727:=eq_true p727; replace q727:=eq_true q727; obtain ⟨_,_,_,_,_,_⟩:=kc3 BK722))
 refine bodyPost_ret (Qaw rfl _ _ gb722 32 #[.int .i64 ((Qac t724 (ji16)).f0), .int .i64 ((Qac t724 (ji16)).f1), .int .i64 ((Qac t724 (ji16)).f2)] (0,0) _ rfl (bp (bp (bp (kk BK722) 0) 1) 2) Tryz.underlying32 rfl (by kernel_rfl)) rfl ?_
 exact ⟨by first | rfl | (simp [Qcj,Qci] <;> rfl) | (simp only [<- hji16]; first | rfl | (simp [Qcj,Qci] <;> rfl)) | (simp [*,Qcj,Qci] <;> rfl),bw HB⟩
def w11_wakes.f (k : Nat)  : Option (Bool):=(some (([(⟨1,1,1,(⟨0,0,0⟩ : SElem),(⟨#[97,98]⟩ : ByteArray),([] : List (SElem)),0,0,0⟩ : SOp)] : List (SOp)) : List (SOp))).bind fun y728 => ((caret_Set.f k y728 0).bind fun bt731 => ((caret_Place.f y728 1 1 1).bind fun bt736 => ((w11_num.f bt731.2.2.2).bind fun t738 => (if t738 = 0 then ((w11_num.f bt736.2).bind fun t739 => (if t739 = 0 then (if (bt731.1 == 0 && (bt731.2.1 == 0 && (bt731.2.2.1 == 0))) = true then (some (bt736.1 == 2)) else (some false)) else (some false))) else (some false)))))
theorem w11_wakes.mono : ∀ k,LeO (w11_wakes.f k ) (w11_wakes.f (k + 1) ):=by
 intro  k
 unfold w11_wakes.f
 repeat' first
   | (with_reducible exact caret_Set.mono _ _ _)
   | (with_reducible exact LeO.refl _)
   | (with_reducible exact LeO.none _)
   | (with_reducible refine LeO.ite ?_ ?_)
   | (with_reducible refine LeO.bind ?_ (fun _ => ?_))
   | exact caret_Set.mono _ _ _
   | exact LeO.none _
   | refine LeO.ite ?_ ?_
   | refine LeO.bind ?_ (fun _ => ?_)
theorem w11_wakes.calls (k : Nat)  (r : Bool) (w : World) (h : w11_wakes.f k  = some r) :
  Calls Tryz.prog 37 #[] w fun e w' => e = .returned (.bool r) /\ Below w.heap.size w w':=by
 have hu34:=Tryz.underlying34
 have hu32:=Tryz.underlying32
 have HB:=Zz.k (Below.refl w.heap.size w)
 unfold w11_wakes.f at h; have H:=h
 clear h
 obtain ⟨y728,hy728⟩ : ∃ y_ : List (SOp),y_ = (([(⟨1,1,1,(⟨0,0,0⟩ : SElem),(⟨#[97,98]⟩ : ByteArray),([] : List (SElem)),0,0,0⟩ : SOp)] : List (SOp))):=⟨_,rfl⟩
 first | rw [Option.bind_some,<- hy728] at H | rw [<- hy728] at H
 have Ny728:=Zz.k hy728
 clear hy728
 obtain ⟨⟨t731,t732,t733,t734⟩,A1,H⟩:=bE H
 try dsimp only at H
 obtain ⟨⟨t736,t737⟩,A2,H⟩:=bE H
 try dsimp only at H
 obtain ⟨t738,A3,H⟩:=bE H
 by_cases c4 : t738 = 0; rotate_left
 ·rw [if_neg c4] at H
  obtain ⟨c4b0,c4b1⟩:=bF c4
  obtain rfl:=Zo H
  go_enter Tryz.func37,Tryz.ntmps37
  go_wp2_with (first | ((with_reducible refine Qad (N:=7) rfl ?_); refine Kd.S_lit kOp _ 34 ?hg (N:=7) ?hd (xs:=([(⟨1,1,1,(⟨0,0,0⟩ : SElem),(⟨#[97,98]⟩ : ByteArray),([] : List (SElem)),0,0,0⟩ : SOp)] : List (SOp))) (inner:=[.int .i64 1, .int .i64 1, .int .i64 1, .int .i64 0, .int .i64 0, .int .i64 0, .string (⟨#[97,98]⟩ : ByteArray), .slice none 0 0, .int .i64 0, .int .i64 0, .int .i64 0]) (ok:=fun _ => True) (okp:=fun _ => True) ?hr ?hp (fun _ hk => hk) trivial (Below.refl _ _) (Nat.le_refl _) (by simp) ?_; (case hd => rfl); (case hg => rfl); (case hr => first | (go_simp; done) | (go_simp; rfl)); (case hp => exact (Reps.front (show Kd.M kOp _ _ _ (⟨1,1,1,(⟨0,0,0⟩ : SElem),(⟨#[97,98]⟩ : ByteArray),([] : List (SElem)),0,0,0⟩ : SOp) [.int .i64 1, .int .i64 1, .int .i64 1, .int .i64 0, .int .i64 0, .int .i64 0, .string (⟨#[97,98]⟩ : ByteArray), .slice none 0 0, .int .i64 0, .int .i64 0, .int .i64 0] from (kOp_mkM _ _ _ (⟨1,1,1,(⟨0,0,0⟩ : SElem),(⟨#[97,98]⟩ : ByteArray),([] : List (SElem)),0,0,0⟩ : SOp) (Kd.R_nil _ _ _ _ _))) rfl (Reps.none _ _) rfl)); intro v729 w31 ho32 hb hg_ hnew_; clear hg_ hnew_; (first | rw [<- Ny728.out] at ho32 | (simp only [Int.reduceToNat] at ho32; rw [<- Ny728.out] at ho32)); have HO730:=Zz.k (Kd.S_lower ho32 (Qai (bw HB))); replace HB:=bs HB hb; clear hb ho32; obtain ⟨Ao33,co33,eo33⟩:=Kd.S_slice HO730.out; subst eo33) | ((with_reducible refine Qab (f:=33) rfl ?_); refine gl (some 10) Tryz.func33 #[.slice Ao33 y728.length co33, .int .i64 0] (h := ?_); (with_reducible refine (caret_Set.calls k _ _ y728 0 t731 t732 t733 t734 _ ?side1 ?side2 A1.out).mono ?_); (case side1 => exact cs HO730); (case side2 => exact (Kd.S_reads' HO730.out).2.1); rintro e w34 ⟨rfl,hb⟩; refine ⟨_,rfl, ?_⟩; replace HO730:=sb HO730 hb; replace HB:=bs HB hb; clear hb) | ((with_reducible refine Qad (N:=2) rfl ?_); refine bx 2 #[.int .i64 0, .int .i64 0, .int .i64 0] 32 (h := ?_); intro gb735 hg w35 hbox hb; have BK735:=Zz.k (hbox); have GW735:=bz HB hg; have GE735:=bz HB hg; replace HO730:=Zz.k (Kd.S_below (Kd.S_elderB (sk HO730) gb735 (Nat.le_of_eq hg.symm)) hb); replace HB:=bs HB hb; clear hb hbox hg; obtain ⟨_,_,_,_,_,_⟩:=kc3 BK735) | ((with_reducible refine Qab (f:=34) rfl ?_); refine gl (some 16) Tryz.func34 #[.slice Ao33 y728.length co33, .agg #[.int .i64 1, .int .i64 1, .int .i64 1]] (h := ?_); (with_reducible refine (caret_Place.calls _ _ y728 1 1 1 t736 t737 _ ?side1 ?side2 A2.out).mono ?_); (case side1 => refine (Kd.S_reads' (e:=34) (base:=w.heap.size) (ok:=fun k_ => (True /\ k_ ≠ gb735)) (n:=y728.length) (c:=co33) ?_).2.2; exact (by (with_reducible repeat (first | apply Kd.S_alloc | apply Kd.S_drewN | apply Kd.S_drew)); exact (Kd.S_mono (Kd.S_far (p:=⟨gb735,2,none⟩) (Kd.S_far (p:=⟨gb735,1,none⟩) (Kd.S_far (p:=⟨gb735,0,none⟩) (Kd.S_mono HO730.out (fun k_ hk => (⟨hk,hk.2⟩ : _ /\ k_ ≠ gb735))) (fun _ hk => hk.2) (.int .i64 t731)) (fun _ hk => hk.2) (.int .i64 t732)) (fun _ hk => hk.2) (.int .i64 t733)) (fun _ h_ => h_.1)))); (case side2 => exact (Kd.S_reads' HO730.out).2.1); rintro e w37 ⟨rfl,hb⟩; refine ⟨_,rfl, ?_⟩; replace HO730:=Zz.k (Kd.S_below (by (with_reducible repeat (first | apply Kd.S_alloc | apply Kd.S_drewN | apply Kd.S_drew)); exact (Kd.S_mono (Kd.S_far (p:=⟨gb735,2,none⟩) (Kd.S_far (p:=⟨gb735,1,none⟩) (Kd.S_far (p:=⟨gb735,0,none⟩) (Kd.S_mono HO730.out (fun k_ hk => (⟨hk,hk.2⟩ : _ /\ k_ ≠ gb735))) (fun _ hk => hk.2) (.int .i64 t731)) (fun _ hk => hk.2) (.int .i64 t732)) (fun _ hk => hk.2) (.int .i64 t733)) (fun _ h_ => h_.1))) hb); replace BK735:=Zz.k (Qbn (g:=gb735) (o:=.cells #[.int .i64 t731, .int .i64 t732, .int .i64 t733] 32 (0,0)) (bp (bp (bp (kk BK735) 0) 1) 2) hb); replace HB:=bs HB hb; clear hb) | ((with_reducible refine Qab (f:=32) rfl ?_); refine gl (some 20) Tryz.func32 #[.int .i64 t734] (h := ?_); (with_reducible refine (w11_num.calls t734 t738 _ A3.out).mono ?_); rintro e w' ⟨rfl,⟨nd,rfl⟩⟩; refine ⟨_,rfl, ?_⟩))
  go_ret
  exact ⟨re,bw HB⟩
 rw [if_pos c4] at H
 obtain ⟨c4b0,c4b1⟩:=bT c4
 clear c4
 obtain ⟨t739,A5,H⟩:=bE H
 by_cases c6 : t739 = 0; rotate_left
 ·rw [if_neg c6] at H
  obtain ⟨c6b0,c6b1⟩:=bF c6
  obtain rfl:=Zo H
  go_enter Tryz.func37,Tryz.ntmps37
  go_wp2_with (first | ((with_reducible refine Qad (N:=7) rfl ?_); refine Kd.S_lit kOp _ 34 ?hg (N:=7) ?hd (xs:=([(⟨1,1,1,(⟨0,0,0⟩ : SElem),(⟨#[97,98]⟩ : ByteArray),([] : List (SElem)),0,0,0⟩ : SOp)] : List (SOp))) (inner:=[.int .i64 1, .int .i64 1, .int .i64 1, .int .i64 0, .int .i64 0, .int .i64 0, .string (⟨#[97,98]⟩ : ByteArray), .slice none 0 0, .int .i64 0, .int .i64 0, .int .i64 0]) (ok:=fun _ => True) (okp:=fun _ => True) ?hr ?hp (fun _ hk => hk) trivial (Below.refl _ _) (Nat.le_refl _) (by simp) ?_; (case hd => rfl); (case hg => rfl); (case hr => first | (go_simp; done) | (go_simp; rfl)); (case hp => exact (Reps.front (show Kd.M kOp _ _ _ (⟨1,1,1,(⟨0,0,0⟩ : SElem),(⟨#[97,98]⟩ : ByteArray),([] : List (SElem)),0,0,0⟩ : SOp) [.int .i64 1, .int .i64 1, .int .i64 1, .int .i64 0, .int .i64 0, .int .i64 0, .string (⟨#[97,98]⟩ : ByteArray), .slice none 0 0, .int .i64 0, .int .i64 0, .int .i64 0] from (kOp_mkM _ _ _ (⟨1,1,1,(⟨0,0,0⟩ : SElem),(⟨#[97,98]⟩ : ByteArray),([] : List (SElem)),0,0,0⟩ : SOp) (Kd.R_nil _ _ _ _ _))) rfl (Reps.none _ _) rfl)); intro v729 w24 ho25 hb hg_ hnew_; clear hg_ hnew_; (first | rw [<- Ny728.out] at ho25 | (simp only [Int.reduceToNat] at ho25; rw [<- Ny728.out] at ho25)); have HO730:=Zz.k (Kd.S_lower ho25 (Qai (bw HB))); replace HB:=bs HB hb; clear hb ho25; obtain ⟨Ao26,co26,eo26⟩:=Kd.S_slice HO730.out; subst eo26) | ((with_reducible refine Qab (f:=33) rfl ?_); refine gl (some 10) Tryz.func33 #[.slice Ao26 y728.length co26, .int .i64 0] (h := ?_); (with_reducible refine (caret_Set.calls k _ _ y728 0 t731 t732 t733 t734 _ ?side1 ?side2 A1.out).mono ?_); (case side1 => exact cs HO730); (case side2 => exact (Kd.S_reads' HO730.out).2.1); rintro e w27 ⟨rfl,hb⟩; refine ⟨_,rfl, ?_⟩; replace HO730:=sb HO730 hb; replace HB:=bs HB hb; clear hb) | ((with_reducible refine Qad (N:=2) rfl ?_); refine bx 2 #[.int .i64 0, .int .i64 0, .int .i64 0] 32 (h := ?_); intro gb735 hg w28 hbox hb; have BK735:=Zz.k (hbox); have GW735:=bz HB hg; have GE735:=bz HB hg; replace HO730:=Zz.k (Kd.S_below (Kd.S_elderB (sk HO730) gb735 (Nat.le_of_eq hg.symm)) hb); replace HB:=bs HB hb; clear hb hbox hg; obtain ⟨_,_,_,_,_,_⟩:=kc3 BK735) | ((with_reducible refine Qab (f:=34) rfl ?_); refine gl (some 16) Tryz.func34 #[.slice Ao26 y728.length co26, .agg #[.int .i64 1, .int .i64 1, .int .i64 1]] (h := ?_); (with_reducible refine (caret_Place.calls _ _ y728 1 1 1 t736 t737 _ ?side1 ?side2 A2.out).mono ?_); (case side1 => refine (Kd.S_reads' (e:=34) (base:=w.heap.size) (ok:=fun k_ => (True /\ k_ ≠ gb735)) (n:=y728.length) (c:=co26) ?_).2.2; exact (by (with_reducible repeat (first | apply Kd.S_alloc | apply Kd.S_drewN | apply Kd.S_drew)); exact (Kd.S_mono (Kd.S_far (p:=⟨gb735,2,none⟩) (Kd.S_far (p:=⟨gb735,1,none⟩) (Kd.S_far (p:=⟨gb735,0,none⟩) (Kd.S_mono HO730.out (fun k_ hk => (⟨hk,hk.2⟩ : _ /\ k_ ≠ gb735))) (fun _ hk => hk.2) (.int .i64 t731)) (fun _ hk => hk.2) (.int .i64 t732)) (fun _ hk => hk.2) (.int .i64 t733)) (fun _ h_ => h_.1)))); (case side2 => exact (Kd.S_reads' HO730.out).2.1); rintro e w30 ⟨rfl,hb⟩; refine ⟨_,rfl, ?_⟩; replace HO730:=Zz.k (Kd.S_below (by (with_reducible repeat (first | apply Kd.S_alloc | apply Kd.S_drewN | apply Kd.S_drew)); exact (Kd.S_mono (Kd.S_far (p:=⟨gb735,2,none⟩) (Kd.S_far (p:=⟨gb735,1,none⟩) (Kd.S_far (p:=⟨gb735,0,none⟩) (Kd.S_mono HO730.out (fun k_ hk => (⟨hk,hk.2⟩ : _ /\ k_ ≠ gb735))) (fun _ hk => hk.2) (.int .i64 t731)) (fun _ hk => hk.2) (.int .i64 t732)) (fun _ hk => hk.2) (.int .i64 t733)) (fun _ h_ => h_.1))) hb); replace BK735:=Zz.k (Qbn (g:=gb735) (o:=.cells #[.int .i64 t731, .int .i64 t732, .int .i64 t733] 32 (0,0)) (bp (bp (bp (kk BK735) 0) 1) 2) hb); replace HB:=bs HB hb; clear hb) | ((with_reducible refine Qab (f:=32) rfl ?_); refine gl (some 20) Tryz.func32 #[.int .i64 t734] (h := ?_); (with_reducible refine (w11_num.calls t734 t738 _ A3.out).mono ?_); rintro e w' ⟨rfl,⟨nd,rfl⟩⟩; refine ⟨_,rfl, ?_⟩) | (go_at_call 32; (with_reducible refine (w11_num.calls t737 t739 _ A5.out).mono ?_); rintro e w' ⟨rfl,⟨nd,rfl⟩⟩))
  go_ret
  exact ⟨re,bw HB⟩
 rw [if_pos c6] at H
 obtain ⟨c6b0,c6b1⟩:=bT c6
 clear c6
 by_cases c7 : (t731 == 0 && (t732 == 0 && (t733 == 0))) = true
 ·rw [if_pos c7] at H
  have c7b0 : (t731 == 0 && (t732 == 0 && (t733 == 0))) = true:=c7
  (try (have c7b1 : decide (t731 = 0 && (t732 == 0 && (t733 == 0))) = true:=by simpa using c7))
  (try (have c7b2 : (t731 == 0 && (t732 == 0 && (t733 == 0))) = true:=by simpa using c7))
  clear c7
  obtain rfl:=Zo H
  go_enter Tryz.func37,Tryz.ntmps37
  go_wp2_with (first | ((with_reducible refine Qad (N:=7) rfl ?_); refine Kd.S_lit kOp _ 34 ?hg (N:=7) ?hd (xs:=([(⟨1,1,1,(⟨0,0,0⟩ : SElem),(⟨#[97,98]⟩ : ByteArray),([] : List (SElem)),0,0,0⟩ : SOp)] : List (SOp))) (inner:=[.int .i64 1, .int .i64 1, .int .i64 1, .int .i64 0, .int .i64 0, .int .i64 0, .string (⟨#[97,98]⟩ : ByteArray), .slice none 0 0, .int .i64 0, .int .i64 0, .int .i64 0]) (ok:=fun _ => True) (okp:=fun _ => True) ?hr ?hp (fun _ hk => hk) trivial (Below.refl _ _) (Nat.le_refl _) (by simp) ?_; (case hd => rfl); (case hg => rfl); (case hr => first | (go_simp; done) | (go_simp; rfl)); (case hp => exact (Reps.front (show Kd.M kOp _ _ _ (⟨1,1,1,(⟨0,0,0⟩ : SElem),(⟨#[97,98]⟩ : ByteArray),([] : List (SElem)),0,0,0⟩ : SOp) [.int .i64 1, .int .i64 1, .int .i64 1, .int .i64 0, .int .i64 0, .int .i64 0, .string (⟨#[97,98]⟩ : ByteArray), .slice none 0 0, .int .i64 0, .int .i64 0, .int .i64 0] from (kOp_mkM _ _ _ (⟨1,1,1,(⟨0,0,0⟩ : SElem),(⟨#[97,98]⟩ : ByteArray),([] : List (SElem)),0,0,0⟩ : SOp) (Kd.R_nil _ _ _ _ _))) rfl (Reps.none _ _) rfl)); intro v729 w8 ho9 hb hg_ hnew_; clear hg_ hnew_; (first | rw [<- Ny728.out] at ho9 | (simp only [Int.reduceToNat] at ho9; rw [<- Ny728.out] at ho9)); have HO730:=Zz.k (Kd.S_lower ho9 (Qai (bw HB))); replace HB:=bs HB hb; clear hb ho9; obtain ⟨Ao10,co10,eo10⟩:=Kd.S_slice HO730.out; subst eo10) | ((with_reducible refine Qab (f:=33) rfl ?_); refine gl (some 10) Tryz.func33 #[.slice Ao10 y728.length co10, .int .i64 0] (h := ?_); (with_reducible refine (caret_Set.calls k _ _ y728 0 t731 t732 t733 t734 _ ?side1 ?side2 A1.out).mono ?_); (case side1 => exact cs HO730); (case side2 => exact (Kd.S_reads' HO730.out).2.1); rintro e w11 ⟨rfl,hb⟩; refine ⟨_,rfl, ?_⟩; replace HO730:=sb HO730 hb; replace HB:=bs HB hb; clear hb) | ((with_reducible refine Qad (N:=2) rfl ?_); refine bx 2 #[.int .i64 0, .int .i64 0, .int .i64 0] 32 (h := ?_); intro gb735 hg w12 hbox hb; have BK735:=Zz.k (hbox); have GW735:=bz HB hg; have GE735:=bz HB hg; replace HO730:=Zz.k (Kd.S_below (Kd.S_elderB (sk HO730) gb735 (Nat.le_of_eq hg.symm)) hb); replace HB:=bs HB hb; clear hb hbox hg; obtain ⟨_,_,_,_,_,_⟩:=kc3 BK735) | ((with_reducible refine Qab (f:=34) rfl ?_); refine gl (some 16) Tryz.func34 #[.slice Ao10 y728.length co10, .agg #[.int .i64 1, .int .i64 1, .int .i64 1]] (h := ?_); (with_reducible refine (caret_Place.calls _ _ y728 1 1 1 t736 t737 _ ?side1 ?side2 A2.out).mono ?_); (case side1 => refine (Kd.S_reads' (e:=34) (base:=w.heap.size) (ok:=fun k_ => (True /\ k_ ≠ gb735)) (n:=y728.length) (c:=co10) ?_).2.2; exact (by (with_reducible repeat (first | apply Kd.S_alloc | apply Kd.S_drewN | apply Kd.S_drew)); exact (Kd.S_mono (Kd.S_far (p:=⟨gb735,2,none⟩) (Kd.S_far (p:=⟨gb735,1,none⟩) (Kd.S_far (p:=⟨gb735,0,none⟩) (Kd.S_mono HO730.out (fun k_ hk => (⟨hk,hk.2⟩ : _ /\ k_ ≠ gb735))) (fun _ hk => hk.2) (.int .i64 t731)) (fun _ hk => hk.2) (.int .i64 t732)) (fun _ hk => hk.2) (.int .i64 t733)) (fun _ h_ => h_.1)))); (case side2 => exact (Kd.S_reads' HO730.out).2.1); rintro e w14 ⟨rfl,hb⟩; refine ⟨_,rfl, ?_⟩; replace HO730:=Zz.k (Kd.S_below (by (with_reducible repeat (first | apply Kd.S_alloc | apply Kd.S_drewN | apply Kd.S_drew)); exact (Kd.S_mono (Kd.S_far (p:=⟨gb735,2,none⟩) (Kd.S_far (p:=⟨gb735,1,none⟩) (Kd.S_far (p:=⟨gb735,0,none⟩) (Kd.S_mono HO730.out (fun k_ hk => (⟨hk,hk.2⟩ : _ /\ k_ ≠ gb735))) (fun _ hk => hk.2) (.int .i64 t731)) (fun _ hk => hk.2) (.int .i64 t732)) (fun _ hk => hk.2) (.int .i64 t733)) (fun _ h_ => h_.1))) hb); replace BK735:=Zz.k (Qbn (g:=gb735) (o:=.cells #[.int .i64 t731, .int .i64 t732, .int .i64 t733] 32 (0,0)) (bp (bp (bp (kk BK735) 0) 1) 2) hb); replace HB:=bs HB hb; clear hb) | ((with_reducible refine Qab (f:=32) rfl ?_); refine gl (some 20) Tryz.func32 #[.int .i64 t734] (h := ?_); (with_reducible refine (w11_num.calls t734 t738 _ A3.out).mono ?_); rintro e w' ⟨rfl,⟨nd,rfl⟩⟩; refine ⟨_,rfl, ?_⟩) | (go_at_call 32; (with_reducible refine (w11_num.calls t737 t739 _ A5.out).mono ?_); rintro e w' ⟨rfl,⟨nd,rfl⟩⟩; obtain ⟨_,_,_,_,_,_⟩:=kc3 BK735))
  go_ret
  exact ⟨re,bw HB⟩
 rw [if_neg c7] at H
 have c7b0 : (t731 == 0 && (t732 == 0 && (t733 == 0))) = false:=by simpa using c7
 (try (have c7b1 : decide (t731 = 0 && (t732 == 0 && (t733 == 0))) = false:=by simpa using c7))
 (try (have c7b2 : (t731 == 0 && (t732 == 0 && (t733 == 0))) = false:=by simpa using c7))
 (try (have c7b3 : ¬ (t731 = 0 && (t732 == 0 && (t733 == 0))):=by simpa using c7))
 clear c7
 obtain rfl:=Zo H
 go_enter Tryz.func37,Tryz.ntmps37
 go_wp2_with (first | ((with_reducible refine Qad (N:=7) rfl ?_); refine Kd.S_lit kOp _ 34 ?hg (N:=7) ?hd (xs:=([(⟨1,1,1,(⟨0,0,0⟩ : SElem),(⟨#[97,98]⟩ : ByteArray),([] : List (SElem)),0,0,0⟩ : SOp)] : List (SOp))) (inner:=[.int .i64 1, .int .i64 1, .int .i64 1, .int .i64 0, .int .i64 0, .int .i64 0, .string (⟨#[97,98]⟩ : ByteArray), .slice none 0 0, .int .i64 0, .int .i64 0, .int .i64 0]) (ok:=fun _ => True) (okp:=fun _ => True) ?hr ?hp (fun _ hk => hk) trivial (Below.refl _ _) (Nat.le_refl _) (by simp) ?_; (case hd => rfl); (case hg => rfl); (case hr => first | (go_simp; done) | (go_simp; rfl)); (case hp => exact (Reps.front (show Kd.M kOp _ _ _ (⟨1,1,1,(⟨0,0,0⟩ : SElem),(⟨#[97,98]⟩ : ByteArray),([] : List (SElem)),0,0,0⟩ : SOp) [.int .i64 1, .int .i64 1, .int .i64 1, .int .i64 0, .int .i64 0, .int .i64 0, .string (⟨#[97,98]⟩ : ByteArray), .slice none 0 0, .int .i64 0, .int .i64 0, .int .i64 0] from (kOp_mkM _ _ _ (⟨1,1,1,(⟨0,0,0⟩ : SElem),(⟨#[97,98]⟩ : ByteArray),([] : List (SElem)),0,0,0⟩ : SOp) (Kd.R_nil _ _ _ _ _))) rfl (Reps.none _ _) rfl)); intro v729 w16 ho17 hb hg_ hnew_; clear hg_ hnew_; (first | rw [<- Ny728.out] at ho17 | (simp only [Int.reduceToNat] at ho17; rw [<- Ny728.out] at ho17)); have HO730:=Zz.k (Kd.S_lower ho17 (Qai (bw HB))); replace HB:=bs HB hb; clear hb ho17; obtain ⟨Ao18,co18,eo18⟩:=Kd.S_slice HO730.out; subst eo18) | ((with_reducible refine Qab (f:=33) rfl ?_); refine gl (some 10) Tryz.func33 #[.slice Ao18 y728.length co18, .int .i64 0] (h := ?_); (with_reducible refine (caret_Set.calls k _ _ y728 0 t731 t732 t733 t734 _ ?side1 ?side2 A1.out).mono ?_); (case side1 => exact cs HO730); (case side2 => exact (Kd.S_reads' HO730.out).2.1); rintro e w19 ⟨rfl,hb⟩; refine ⟨_,rfl, ?_⟩; replace HO730:=sb HO730 hb; replace HB:=bs HB hb; clear hb) | ((with_reducible refine Qad (N:=2) rfl ?_); refine bx 2 #[.int .i64 0, .int .i64 0, .int .i64 0] 32 (h := ?_); intro gb735 hg w20 hbox hb; have BK735:=Zz.k (hbox); have GW735:=bz HB hg; have GE735:=bz HB hg; replace HO730:=Zz.k (Kd.S_below (Kd.S_elderB (sk HO730) gb735 (Nat.le_of_eq hg.symm)) hb); replace HB:=bs HB hb; clear hb hbox hg; obtain ⟨_,_,_,_,_,_⟩:=kc3 BK735) | ((with_reducible refine Qab (f:=34) rfl ?_); refine gl (some 16) Tryz.func34 #[.slice Ao18 y728.length co18, .agg #[.int .i64 1, .int .i64 1, .int .i64 1]] (h := ?_); (with_reducible refine (caret_Place.calls _ _ y728 1 1 1 t736 t737 _ ?side1 ?side2 A2.out).mono ?_); (case side1 => refine (Kd.S_reads' (e:=34) (base:=w.heap.size) (ok:=fun k_ => (True /\ k_ ≠ gb735)) (n:=y728.length) (c:=co18) ?_).2.2; exact (by (with_reducible repeat (first | apply Kd.S_alloc | apply Kd.S_drewN | apply Kd.S_drew)); exact (Kd.S_mono (Kd.S_far (p:=⟨gb735,2,none⟩) (Kd.S_far (p:=⟨gb735,1,none⟩) (Kd.S_far (p:=⟨gb735,0,none⟩) (Kd.S_mono HO730.out (fun k_ hk => (⟨hk,hk.2⟩ : _ /\ k_ ≠ gb735))) (fun _ hk => hk.2) (.int .i64 t731)) (fun _ hk => hk.2) (.int .i64 t732)) (fun _ hk => hk.2) (.int .i64 t733)) (fun _ h_ => h_.1)))); (case side2 => exact (Kd.S_reads' HO730.out).2.1); rintro e w22 ⟨rfl,hb⟩; refine ⟨_,rfl, ?_⟩; replace HO730:=Zz.k (Kd.S_below (by (with_reducible repeat (first | apply Kd.S_alloc | apply Kd.S_drewN | apply Kd.S_drew)); exact (Kd.S_mono (Kd.S_far (p:=⟨gb735,2,none⟩) (Kd.S_far (p:=⟨gb735,1,none⟩) (Kd.S_far (p:=⟨gb735,0,none⟩) (Kd.S_mono HO730.out (fun k_ hk => (⟨hk,hk.2⟩ : _ /\ k_ ≠ gb735))) (fun _ hk => hk.2) (.int .i64 t731)) (fun _ hk => hk.2) (.int .i64 t732)) (fun _ hk => hk.2) (.int .i64 t733)) (fun _ h_ => h_.1))) hb); replace BK735:=Zz.k (Qbn (g:=gb735) (o:=.cells #[.int .i64 t731, .int .i64 t732, .int .i64 t733] 32 (0,0)) (bp (bp (bp (kk BK735) 0) 1) 2) hb); replace HB:=bs HB hb; clear hb) | ((with_reducible refine Qab (f:=32) rfl ?_); refine gl (some 20) Tryz.func32 #[.int .i64 t734] (h := ?_); (with_reducible refine (w11_num.calls t734 t738 _ A3.out).mono ?_); rintro e w' ⟨rfl,⟨nd,rfl⟩⟩; refine ⟨_,rfl, ?_⟩) | (go_at_call 32; (with_reducible refine (w11_num.calls t737 t739 _ A5.out).mono ?_); rintro e w' ⟨rfl,⟨nd,rfl⟩⟩; obtain ⟨_,_,_,_,_,_⟩:=kc3 BK735))
 go_ret
 exact ⟨re,bw HB⟩
end
end Go.Proofs.YtlllghajjamdpaaGreatDoor.L
end
