/- Part 4 of the proof that for every argument the law OpForms answers true: ops of each form, with each part spoilt by itself, may be, or not, as the page says: by ops made here. -/
import Derived.Test.YtonoaflfobajcaaDoorZOF3
import Derived.Shelf.SlSortCmp.WholeK
import Derived.Shelf.SlicesE.Clone
import Derived.Test.YtonoaflfobajcaaDoorProg
import Derived.Lib.SliceRun
import Derived.Shelf.Unicode.DecodeAny
import Derived.Test.YtonoaflfobajcaaDoorRows
import Derived.Test.YtonoaflfobajcaaDoorTie
import Derived.Test.YtonoaflfobajcaaDoorCards
import Derived.Lib.LaidIn
import Derived.Lib.LaidU8
import Derived.Deep.DeepHandedRow
import Derived.Deep.DeepWitnessRowRef
import Derived.SevenTiedAt
import Derived.WalkKit
import Derived.ProofKit
import Derived.OpenShut
import Derived.ChangeOld
import Derived.Below
import Derived.SizedLaws
import Derived.JoinedCond
section
namespace Go.Proofs.YtonoaflfobajcaaDoor.L
open Go.RowKit Go.Proofs.YtonoaflfobajcaaDoorW.PrintWords Go.Proofs.YtonoaflfobajcaaDoorW.PrintLast Go.Proofs.YtonoaflfobajcaaDoorW.PrintMore
set_option linter.unusedVariables false
set_option linter.unusedSimpArgs false
set_option maxHeartbeats 40000000
set_option maxRecDepth 1000000
section
attribute [local go_sem high] eqAElem
def compN (l : List SElem) : Nat -> List SElem
 | 0 => []
 | n + 1 => if n = 0 \/ Qaa l (n : Int) ≠ Qaa l ((n - 1 : Nat) : Int) then compN l n ++ [Qaa l (n : Int)] else compN l n
def compL (l : List SElem) : List SElem:=compN l l.length
theorem compN_le (l : List SElem) : ∀ n,(compN l n).length <= n
 | 0 => Nat.le_refl _
 | n + 1 => by
  have:=compN_le l n
  unfold compN
  split
  ·rw [List.length_append,List.length_singleton]; omega
  ·omega
theorem compN_all (l : List SElem) : ∀ n,n <= l.length -> (∀ i,1 <= i -> i < n -> Qaa l (i : Int) ≠ Qaa l ((i - 1 : Nat) : Int)) -> compN l n = l.take n
 | 0,_,_ => rfl
 | n + 1,h,hn => by
  have ih:=compN_all l n (by omega) (fun i h1 h2 => hn i h1 (by omega))
  have hlt : n < l.length:=by omega
  unfold compN
  rw [if_pos,ih,List.take_succ_eq_append_getElem hlt,Qaj _ _ hlt]
  by_cases h0 : n = 0
  ·exact .inl h0
  ·exact .inr (hn n (by omega) (by omega))
theorem eq3_dec (x y : SElem) : (x.f0 == y.f0 && (x.f1 == y.f1 && (x.f2 == y.f2))) = decide (x = y):=by
 cases x; cases y
 rw [Bool.eq_iff_iff]
 simp only [Bool.and_eq_true,beq_iff_eq,decide_eq_true_eq,SElem.mk.injEq]
theorem ne3_dec (x y : SElem) : ((!(x.f0 == y.f0)) || ((!(x.f1 == y.f1)) || (!(x.f2 == y.f2)))) = !decide (x = y):=by
 rw [<- eq3_dec,Bool.not_and,Bool.not_and]
abbrev P3 (W : World) (g i : Nat) (x : SElem) : Prop:=W.cell? ⟨g,i * 3,none⟩ = some (.int .i64 x.f0) /\ W.cell? ⟨g,i * 3 + 1,none⟩ = some (.int .i64 x.f1) /\ W.cell? ⟨g,i * 3 + 2,none⟩ = some (.int .i64 x.f2)
theorem grown_drew (w : World) (row : Option Nat) : w.grownBy w.drew row:=⟨rfl,rfl,rfl,Nat.le_refl _,fun _ _ _ => rfl⟩
theorem RE_at {w : World} {base g n c : Nat} {xs : List SElem} (h : RE w base (.slice (some ⟨g,0,none⟩) n c) xs) {i : Nat} (hi : i < n) : P3 w g i (Qaa xs (i : Int)):=by
 obtain ⟨hn,_,hC⟩:=Kd.R_reads' h
 obtain ⟨ad,hA,x0,x1,x2⟩:=Qat hC (i : Int) (by omega) (by omega)
 injection hA with hA
 subst hA
 simp only [Int.toNat_natCast,add_plain] at x0 x1 x2
 exact ⟨x0,x1,x2⟩
theorem compact_calls {w : World} {base g c : Nat} {l : List SElem} (h : RE w base (.slice (some ⟨g,0,none⟩) l.length c) l) (hl : l.length <= 1000000) :
  Calls Tryd.prog 90 #[.slice (some ⟨g,0,none⟩) l.length c] w fun e w' => ∃ n',e = .returned (.slice (some ⟨g,0,none⟩) n' c) /\ RE w' base (.slice (some ⟨g,0,none⟩) n' c) (compL l) /\ w.grownBy w' (some g):=by
 have HR0:=Zz.k h
 have hnc:=(Kd.R_reads' h).2.1
 clear h
 by_cases h2 : l.length < 2
 ·have h2z : (l.length : Int) < 2:=by omega
  have hcl : compL l = l:=by
   unfold compL
   rw [compN_all l _ (Nat.le_refl _) (fun i h1 h3 => by omega),List.take_length]
  have HCL:=Zz.k hcl
  clear hcl
  go_enter Tryd.func90,Tryd.ntmps90
  go_wp2
  go_ret
  exact ⟨_,rfl,by rw [HCL.out]; exact HR0.out,Qbc (Below.refl _ _) _⟩
 ·have h2z : ¬ (l.length : Int) < 2:=by omega
  have HG0:=Zz.k (Qbc (Below.refl w.heap.size w) (some g))
  go_enter Tryd.func90,Tryd.ntmps90
  go_wp2
  go_loopg [3] l.length (fun gg s3 wr => ∃ k : Nat,1 <= k /\ k <= l.length /\ l.length - k <= gg /\ s3 = .int .i64 k /\ Zz (∀ i,1 <= i -> i < k -> Qaa l (i : Int) ≠ Qaa l ((i - 1 : Nat) : Int)) /\ Zz (RE wr base (.slice (some ⟨g,0,none⟩) l.length c) l) /\ Zz (w.grownBy wr (some g)))
  case atStart => exact ⟨1,by omega,by omega,by omega,rfl,⟨fun i h1 h2 => by omega⟩,HR0,HG0⟩
  case round =>
   clear HR0 HG0
   obtain ⟨k,hk1,hkn,hgk,rfl,HN,HR,HG⟩:=hrel
   by_cases hlt : k < l.length
   ·have hltz : (k : Int) < (l.length : Int):=by omega
    have h0z : (0 : Int) <= (k : Int):=by omega
    obtain ⟨m,hm⟩ : ∃ m,k = m + 1:=⟨k - 1,by omega⟩
    obtain ⟨x0,x1,x2⟩:=RE_at HR.out hlt
    obtain ⟨y0,y1,y2⟩:=RE_at HR.out (show m < l.length by omega)
    have hwm : wrap64 ((k : Int) - 1) = (m : Int):=by rw [Qar (by omega) (by omega)]; omega
    have hm0 : (0 : Int) <= (m : Int):=by omega
    have hm1 : (m : Int) < (l.length : Int):=by omega
    have HXY:=Zz.k (show (k - 1 : Nat) = m by omega)
    generalize hx : Qaa l (k : Int) = x at x0 x1 x2
    generalize hy : Qaa l (m : Int) = y at y0 y1 y2
    have HX:=Zz.k hx
    have HY:=Zz.k hy
    have HM:=Zz.k hm
    clear hx hy hm
    go_upto_region 6 with (fail)
    refine stR (S:=fun w' => P3 w' g k x /\ P3 w' g m y) 10 t_api_Elem.bits6 t_api_Elem.tab6 (hS:=⟨⟨x0,x1,x2⟩,⟨y0,y1,y2⟩⟩) (h:=fun hS HT HW => ?_)
    clear x0 x1 x2 y0 y1 y2
    have HR1:=Zz.k (Kd.R_drew HR.out)
    have HG1:=Zz.k (Qbd HG.out (grown_drew wr _))
    clear HR HG
    generalize wr.drew = wd at HR1 HG1 hS ⊢
    refine pu HT 0 16 1 (h := ?_)
    refine pu HT 1 17 3 (h := ?_)
    refine pu HT 2 18 7 (h := ?_)
    refine tk HT HW hS 3 19 15 (h := ?_)
    refine pu HT 4 20 31 (h := ?_)
    refine pu HT 5 21 63 (h := ?_)
    refine pu HT 6 22 127 (h := ?_)
    rw [hwm]
    refine pu HT 7 23 255 (h := ?_)
    refine tk HT HW hS 8 24 511 (h := ?_)
    refine pu HT 9 25 1023 (h := ?_)
    rw [eq3_dec]
    refine dn HT (h := ?_)
    clear HT HW hS
    by_cases hxy : x = y
    ·rw [Zd hxy]
     have hst : compN l (k + 1) = l.take k:=by
      have h1:=compN_all l k (by omega) HN.out
      unfold compN
      rw [if_neg,h1]
      rw [HX.out,HXY.out,HY.out]
      rintro (h2 | h2)
      ·omega
      ·exact h2 hxy
     have HST:=Zz.k hst
     have hck : k <= c:=by omega
     have hckz : (k : Int) <= (c : Int):=by omega
     have hknz : (k : Int) <= (l.length : Int):=by omega
     clear hst HX HY HXY HN hxy
     go_wp2
     go_loopg [3,5] l.length (fun gg s3 s5 wr => ∃ (a b : Nat) (xs : List SElem),k <= a /\ 1 <= b /\ a + 1 <= k + b /\ k + b <= l.length /\ l.length - (k + b) <= gg /\ s3 = .int .i64 a /\ s5 = .int .i64 b /\ Zz (xs.length = l.length) /\ Zz (xs.take a = compN l (k + b)) /\ Zz (xs.drop a = l.drop a) /\ Zz (RE wr base (.slice (some ⟨g,0,none⟩) l.length c) xs) /\ Zz (w.grownBy wr (some g)))
     case atStart => exact ⟨k,1,l,Nat.le_refl _,Nat.le_refl _,by omega,by omega,by omega,rfl,rfl,⟨rfl⟩,⟨HST.out.symm⟩,⟨rfl⟩,HR1,HG1⟩
     case round =>
      clear HR1 HG1 HST hwm hm0 hm1 HM
      obtain ⟨a,b,xs,hka,hb1,hab,hbn,hgk2,rfl,rfl,HL,HF,HD,HR,HG⟩:=hrel
      have hxl : ∀ i,a <= i -> i < l.length -> Qaa xs (i : Int) = Qaa l (i : Int):=by
       intro i h1 h3
       have hL:=HL.out
       have hD:=HD.out
       rw [Qaj _ _ (by omega),Qaj _ _ h3]
       have e1 : xs[i]? = (xs.drop a)[i - a]?:=by rw [List.getElem?_drop]; congr 1; omega
       have e2 : l[i]? = (l.drop a)[i - a]?:=by rw [List.getElem?_drop]; congr 1; omega
       have:=e1.trans ((congrArg (·[i - a]?) hD).trans e2.symm)
       rw [List.getElem?_eq_getElem (by omega),List.getElem?_eq_getElem h3] at this
       exact Zo this
      by_cases hlt2 : k + b < l.length
      ·obtain ⟨g2,rfl⟩ : ∃ g2,gk = g2 + 1:=⟨gk - 1,by omega⟩
       have hbz : (b : Int) < ((l.length - k : Nat) : Int):=by omega
       have hb0 : (0 : Int) <= (b : Int):=by omega
       obtain ⟨m2,hm2⟩ : ∃ m2,b = m2 + 1:=⟨b - 1,by omega⟩
       have hwb : wrap64 ((b : Int) - 1) = (m2 : Int):=by rw [Qar (by omega) (by omega)]; omega
       have hm20 : (0 : Int) <= (m2 : Int):=by omega
       have hm21 : (m2 : Int) < ((l.length - k : Nat) : Int):=by omega
       obtain ⟨x0,x1,x2⟩:=RE_at HR.out (show k + b < l.length by omega)
       obtain ⟨y0,y1,y2⟩:=RE_at HR.out (show k + m2 < l.length by omega)
       rw [hxl _ (by omega) (by omega)] at x0 x1 x2
       rw [hxl _ (by omega) (by omega)] at y0 y1 y2
       rw [show (k + b) * 3 = k * 3 + b * 3 by omega] at x0 x1 x2
       rw [show (k + m2) * 3 = k * 3 + m2 * 3 by omega] at y0 y1 y2
       have HKB:=Zz.k (show (k + b - 1 : Nat) = k + m2 by omega)
       generalize hx : Qaa l ((k + b : Nat) : Int) = x at x0 x1 x2
       generalize hy : Qaa l ((k + m2 : Nat) : Int) = y at y0 y1 y2
       have HX:=Zz.k hx
       have HY:=Zz.k hy
       clear hx hy hm2 hxl
       go_upto_region 11 with (fail)
       refine stR (S:=fun w' => (w'.cell? ⟨g,k * 3 + b * 3,none⟩ = some (.int .i64 x.f0) /\ w'.cell? ⟨g,k * 3 + b * 3 + 1,none⟩ = some (.int .i64 x.f1) /\ w'.cell? ⟨g,k * 3 + b * 3 + 2,none⟩ = some (.int .i64 x.f2)) /\ (w'.cell? ⟨g,k * 3 + m2 * 3,none⟩ = some (.int .i64 y.f0) /\ w'.cell? ⟨g,k * 3 + m2 * 3 + 1,none⟩ = some (.int .i64 y.f1) /\ w'.cell? ⟨g,k * 3 + m2 * 3 + 2,none⟩ = some (.int .i64 y.f2))) 10 t_api_Elem.bits11 t_api_Elem.tab11 (hS:=⟨⟨x0,x1,x2⟩,⟨y0,y1,y2⟩⟩) (h:=fun hS HT HW => ?_)
       clear x0 x1 x2 y0 y1 y2
       have HR1:=Zz.k (Kd.R_drew HR.out)
       have HG1:=Zz.k (Qbd HG.out (grown_drew wr _))
       clear HR HG
       generalize wr.drew = wd at HR1 HG1 hS ⊢
       refine pu HT 0 35 1 (h := ?_)
       refine pu HT 1 36 3 (h := ?_)
       refine pu HT 2 37 7 (h := ?_)
       refine tk HT HW hS 3 38 15 (h := ?_)
       refine pu HT 4 39 31 (h := ?_)
       refine pu HT 5 40 63 (h := ?_)
       refine pu HT 6 41 127 (h := ?_)
       rw [hwb]
       refine pu HT 7 42 255 (h := ?_)
       refine tk HT HW hS 8 43 511 (h := ?_)
       refine pu HT 9 44 1023 (h := ?_)
       rw [ne3_dec]
       refine dn HT (h := ?_)
       obtain ⟨⟨x0,x1,x2⟩,_⟩:=hS
       clear HT HW
       have hcn : compN l (k + b + 1) = if x = y then compN l (k + b) else compN l (k + b) ++ [x]:=by
        conv => lhs; unfold compN
        rw [HX.out,HKB.out,HY.out]
        by_cases hxy : x = y
        ·rw [if_neg (by rintro (h1 | h1); omega; exact h1 hxy),if_pos hxy]
        ·rw [if_pos (.inr hxy),if_neg hxy]
       by_cases hxy : x = y
       ·rw [if_pos hxy] at hcn
        rw [Zd hxy,Bool.not_true]
        have HF2:=Zz.k (show xs.take a = compN l (k + (b + 1)) by rw [<- Nat.add_assoc,hcn]; exact HF.out)
        clear hcn HF x0 x1 x2
        go_wp2
        go_roundg g2
        case measure => omega
        case rel => exact ⟨a,b + 1,xs,hka,by omega,by omega,by omega,by omega,rfl,by go_num,HL,HF2,HD,HR1,HG1⟩
       ·rw [if_neg hxy] at hcn
        rw [Ze hxy,Bool.not_false]
        have hL:=HL.out
        have hF:=HF.out
        have hD:=HD.out
        have hal : a < xs.length:=by omega
        have HF2:=Zz.k (show (xs.set a x).take (a + 1) = compN l (k + (b + 1)) by
         rw [<- Nat.add_assoc,hcn,<- hF,List.take_succ_eq_append_getElem (by rw [List.length_set]; exact hal),List.take_set_of_le (Nat.le_refl a)]
         simp)
        have HL2:=Zz.k (show (xs.set a x).length = l.length by rw [List.length_set]; exact hL)
        have HD2:=Zz.k (show (xs.set a x).drop (a + 1) = l.drop (a + 1) by
         rw [List.drop_set_of_lt (by omega)]
         have:=congrArg (List.drop 1) hD
         rw [List.drop_drop,List.drop_drop] at this
         exact this)
        obtain ⟨cs,hcl,_,hcc,hff⟩:=Kd.R_elem HR1.out zElem (a : Int) (by omega) (by omega)
        have hcl3 : cs.length = 3:=hcl
        have hR4:=RE_set HR1.out a (by omega) x
        have HR4:=Zz.k hR4.1
        have HG4:=Zz.k (Qbd HG1.out hR4.2)
        obtain ⟨q0,q1,q2,rfl⟩ : ∃ q0 q1 q2,cs = [q0,q1,q2]:=by
         match cs,hcl3 with
         | [q0,q1,q2],_ => exact ⟨q0,q1,q2,rfl⟩
        have e0 : wd.cell? ⟨g,a * 3,none⟩ = some q0:=hcc 0 _ rfl
        have e1 : wd.cell? ⟨g,a * 3 + 1,none⟩ = some q1:=hcc 1 _ rfl
        have e2 : wd.cell? ⟨g,a * 3 + 2,none⟩ = some q2:=hcc 2 _ rfl
        have f0 : wd.frozen? ⟨g,a * 3,none⟩ = false:=hff 0
        have f1 : wd.frozen? ⟨g,a * 3 + 1,none⟩ = false:=hff 1
        have f2 : wd.frozen? ⟨g,a * 3 + 2,none⟩ = false:=hff 2
        have ha0 : (0 : Int) <= (a : Int):=by omega
        have ha1 : (a : Int) < (l.length : Int):=by omega
        clear hcn HF hL hF hD hR4 hcc hff hcl hcl3 HR1 HG1 HL HD hxy
        go_wp2
        go_roundg g2
        case measure => omega
        case rel => exact ⟨a + 1,b + 1,xs.set a x,by omega,by omega,by omega,by omega,by omega,by go_num,by go_num,HL2,HF2,HD2,HR4,HG4⟩
      ·have hbe : k + b = l.length:=by omega
       have hbz : ¬ (b : Int) < ((l.length - k : Nat) : Int):=by omega
       obtain ⟨r1,r2,r3,r4⟩:=RE_clear HR.out a (by omega) (zs (l.length - a)) (by rw [zs_len]; omega)
       have HR5:=Zz.k r1
       have HG5:=Zz.k (Qbd HG.out r2)
       have hcl : ∀ ty,(Builtin.clear_ #[23] ty #[.slice (some ⟨g,a * 3,none⟩) (l.length - a) (c - a)]).run Tryd.prog wr = .ok (.tuple #[]) (wr.setCells g (a * 3) (zs (l.length - a))) :=
        fun ty => run_clear_elem wr ty g (a * 3) _ _ (by omega) (fun j hj => r3 _ (by omega)) (fun j hj => r4 _)
       have hF5:=HF.out
       rw [hbe] at hF5
       have HF5:=Zz.k hF5
       have hac : c ≠ a:=by omega
       have hac1 : (a : Int) <= (c : Int):=by omega
       have hac2 : ¬ (c : Int) < (a : Int):=by omega
       have hal1 : (a : Int) <= (l.length : Int):=by omega
       clear r1 r2 r3 r4 HR HG HD HF hF5 hxl
       go_wp2
       go_ret
       exact ⟨_,rfl,by rw [show compL l = _ from rfl]; unfold compL; rw [<- HF5.out]; exact HR5.out,HG5.out⟩
    ·obtain ⟨g',rfl⟩ : ∃ g',gk = g' + 1:=⟨gk - 1,by omega⟩
     rw [Ze hxy]
     have HN2:=Zz.k (show ∀ i,1 <= i -> i < k + 1 -> Qaa l (i : Int) ≠ Qaa l ((i - 1 : Nat) : Int) by
      intro i h1 h3
      rcases Nat.lt_or_ge i k with h4 | h4
      ·exact HN.out i h1 h4
      ·obtain rfl : i = k:=by omega
       rw [HX.out,HXY.out,HY.out]
       exact hxy)
     go_wp2
     go_roundg g'
     case measure => omega
     case rel => exact ⟨k + 1,by omega,by omega,by omega,by go_num,HN2,HR1,HG1⟩
   ·obtain rfl : k = l.length:=by omega
    have hltz : ¬ (l.length : Int) < (l.length : Int):=by omega
    have hcl : compL l = l:=by
     unfold compL
     rw [compN_all l _ (Nat.le_refl _) HN.out,List.take_length]
    have HCL:=Zz.k hcl
    clear hcl
    go_wp2
    go_ret
    exact ⟨_,rfl,by rw [HCL.out]; exact HR.out,HG.out⟩
end
end Go.Proofs.YtonoaflfobajcaaDoor.L
end

section
namespace Go.Proofs
open Go.Shelf
set_option linter.unusedVariables false
set_option linter.unusedSimpArgs false
set_option maxHeartbeats 40000000
set_option maxRecDepth 1000000
section
def Tryd.sortEl_ren : Go.Shelf.Ren:=⟨fun | 6 => 88 | 15 => 121 | 14 => 120 | 28 => 148 | 29 => 149 | 20 => 140 | 21 => 141 | 22 => 142 | 23 => 143 | 24 => 144 | 25 => 145 | 26 => 146 | 27 => 147 | 46 => 154 | 47 => 155 | 48 => 156 | 49 => 157 | 50 => 158 | 57 => 161 | n => n,fun | 22 => 23 | 24 => 43 | 25 => 95 | 3 => 3 | 39 => 99 | 0 => 0 | 53 => 152 | 55 => 154 | 4 => 4 | 46 => 146 | 45 => 145 | 50 => 131 | 5 => 5 | 9 => 9 | 66 => 161 | 70 => 165 | 76 => 168 | 77 => 169 | n => n,fun | n => n⟩
theorem Tryd.sortEl : Go.Proofs.SlLaysF0.n6 Tryd.prog Tryd.sortEl_ren:={
 mixed:=by kernel_rfl
 f6:=⟨Tryd.f88.name,by decide,Tryd.func88.trans (congrArg some (by kernel_rfl))⟩
 f14:=⟨Tryd.f120.name,by decide,Tryd.func120.trans (congrArg some (by kernel_rfl))⟩
 f15:=Tryd.func121.trans (congrArg some (by kernel_rfl))
 f20:=⟨Tryd.f140.name,by decide,Tryd.func140.trans (congrArg some (by kernel_rfl))⟩
 f21:=⟨Tryd.f141.name,by decide,Tryd.func141.trans (congrArg some (by kernel_rfl))⟩
 f22:=⟨Tryd.f142.name,by decide,Tryd.func142.trans (congrArg some (by kernel_rfl))⟩
 f23:=⟨Tryd.f143.name,by decide,Tryd.func143.trans (congrArg some (by kernel_rfl))⟩
 f24:=⟨Tryd.f144.name,by decide,Tryd.func144.trans (congrArg some (by kernel_rfl))⟩
 f25:=⟨Tryd.f145.name,by decide,Tryd.func145.trans (congrArg some (by kernel_rfl))⟩
 f26:=⟨Tryd.f146.name,by decide,Tryd.func146.trans (congrArg some (by kernel_rfl))⟩
 f27:=⟨Tryd.f147.name,by decide,Tryd.func147.trans (congrArg some (by kernel_rfl))⟩
 f28:=Tryd.func148.trans (congrArg some (by kernel_rfl))
 f29:=Tryd.func149.trans (congrArg some (by kernel_rfl))
 f46:=⟨Tryd.f154.name,by decide,Tryd.func154.trans (congrArg some (by kernel_rfl))⟩
 f47:=Tryd.func155.trans (congrArg some (by kernel_rfl))
 f48:=Tryd.func156.trans (congrArg some (by kernel_rfl))
 f49:=⟨Tryd.f157.name,by decide,Tryd.func157.trans (congrArg some (by kernel_rfl))⟩
 f50:=⟨Tryd.f158.name,by decide,Tryd.func158.trans (congrArg some (by kernel_rfl))⟩
 f57:=⟨Tryd.f161.name,by decide,Tryd.func161.trans (congrArg some (by kernel_rfl))⟩
 t0:=Tryd.underlying0
 a0:=Tryd.isAgg0
 z0:=Tryd.sizeOf0
 v0:=Tryd.zeroValue0
 t3:=Tryd.underlying3
 a3:=Tryd.isAgg3
 z3:=Tryd.sizeOf3
 v3:=Tryd.zeroValue3
 t4:=Tryd.underlying4
 a4:=Tryd.isAgg4
 z4:=Tryd.sizeOf4
 v4:=Tryd.zeroValue4
 t5:=Tryd.underlying5
 a5:=Tryd.isAgg5
 z5:=Tryd.sizeOf5
 v5:=Tryd.zeroValue5
 t9:=Tryd.underlying9
 a9:=Tryd.isAgg9
 z9:=Tryd.sizeOf9
 v9:=Tryd.zeroValue9
 t22:=Tryd.underlying23
 a22:=Tryd.isAgg23
 z22:=Tryd.sizeOf23
 v22:=Tryd.zeroValue23
 t25:=Tryd.underlying95
 a25:=Tryd.isAgg95
 z25:=Tryd.sizeOf95
 v25:=Tryd.zeroValue95
 t39:=Tryd.underlying99
 a39:=Tryd.isAgg99
 z39:=Tryd.sizeOf99
 v39:=Tryd.zeroValue99
 t45:=Tryd.underlying145
 a45:=Tryd.isAgg145
 z45:=Tryd.sizeOf145
 v45:=Tryd.zeroValue145
 t46:=Tryd.underlying146
 a46:=Tryd.isAgg146
 z46:=Tryd.sizeOf146
 v46:=Tryd.zeroValue146
 t50:=Tryd.underlying131
 a50:=Tryd.isAgg131
 z50:=Tryd.sizeOf131
 v50:=Tryd.zeroValue131
 t53:=Tryd.underlying152
 a53:=Tryd.isAgg152
 z53:=Tryd.sizeOf152
 v53:=Tryd.zeroValue152
 t55:=Tryd.underlying154
 a55:=Tryd.isAgg154
 z55:=Tryd.sizeOf154
 v55:=Tryd.zeroValue154
 t66:=Tryd.underlying161
 a66:=Tryd.isAgg161
 z66:=Tryd.sizeOf161
 v66:=Tryd.zeroValue161
 t70:=Tryd.underlying165
 a70:=Tryd.isAgg165
 z70:=Tryd.sizeOf165
 v70:=Tryd.zeroValue165
 t76:=Tryd.underlying168
 a76:=Tryd.isAgg168
 z76:=Tryd.sizeOf168
 v76:=Tryd.zeroValue168
 t77:=Tryd.underlying169
 a77:=Tryd.isAgg169
 z77:=Tryd.sizeOf169
 v77:=Tryd.zeroValue169 }
end
end Go.Proofs
end

section
namespace Go.Proofs.YtonoaflfobajcaaDoor.L
open Go.RowKit Go.Sort Go.Proofs.YtonoaflfobajcaaDoorW.PrintWords Go.Proofs.YtonoaflfobajcaaDoorW.PrintLast Go.Proofs.YtonoaflfobajcaaDoorW.PrintMore
set_option linter.unusedVariables false
set_option linter.unusedSimpArgs false
set_option maxHeartbeats 40000000
set_option maxRecDepth 1000000
section
def GD (w w' : World) : Prop:=∃ q os,w' = grow (w.drewN q) os
theorem GD.refl (w : World) : GD w w:=⟨0,#[],by rw [grow_empty]; rfl⟩
theorem GD.drawn {w w1 : World} (h : GD w w1) (n : Nat) : GD w (w1.drewN n):=by
 obtain ⟨q,os,rfl⟩:=h
 exact ⟨q + n,os,by rw [<- World.drewN_drewN]; rfl⟩
theorem GD.drew {w w1 : World} (h : GD w w1) : GD w w1.drew:=by
 obtain ⟨q,os,rfl⟩:=h
 exact ⟨q + 1,os,by rw [<- World.drewN_drewN]; rfl⟩
theorem GD.alloc {w w1 : World} (h : GD w w1) (o : Obj) : GD w (w1.alloc o):=by
 obtain ⟨q,os,rfl⟩:=h
 exact ⟨q,os ++ #[o],by rw [alloc_eq_grow,grow_grow]⟩
theorem tp_cell (w : World) (cs : Array Value) (t : TypeId) (g j : Nat) (hg : w.heap.size = g) : (w.alloc (.cells cs t)).cell? ⟨g,j,none⟩ = cs[j]?:=by subst hg; simp
abbrev S6 (W : World) (g : Nat) (x y : SElem) : Prop:=W.cell? ⟨g,0,none⟩ = some (.int .i64 x.f0) /\ W.cell? ⟨g,1,none⟩ = some (.int .i64 x.f1) /\ W.cell? ⟨g,2,none⟩ = some (.int .i64 x.f2) /\ W.cell? ⟨g + 1,0,none⟩ = some (.int .i64 y.f0) /\ W.cell? ⟨g + 1,1,none⟩ = some (.int .i64 y.f1) /\ W.cell? ⟨g + 1,2,none⟩ = some (.int .i64 y.f2)
theorem S6.below {W W' : World} {g : Nat} {x y : SElem} (h : S6 W g x y) (hb : Below W.heap.size W W') : S6 W' g x y :=
 ⟨Qad hb h.1,Qad hb h.2.1,Qad hb h.2.2.1,Qad hb h.2.2.2.1,Qad hb h.2.2.2.2.1,Qad hb h.2.2.2.2.2⟩
theorem S6.boxed (w : World) (x y : SElem) (t : TypeId) : S6 ((w.alloc (.cells #[.int .i64 x.f0, .int .i64 x.f1, .int .i64 x.f2] t)).alloc (.cells #[.int .i64 y.f0, .int .i64 y.f1, .int .i64 y.f2] t)) w.heap.size x y:=by
 have hz : (w.alloc (.cells #[.int .i64 x.f0, .int .i64 x.f1, .int .i64 x.f2] t)).heap.size = w.heap.size + 1:=by simp
 have hb:=Qah (Below.refl _ (w.alloc (.cells #[.int .i64 x.f0, .int .i64 x.f1, .int .i64 x.f2] t))) (.cells #[.int .i64 y.f0, .int .i64 y.f1, .int .i64 y.f2] t)
 refine ⟨Qad hb (by simp),Qad hb (by simp),Qad hb (by simp), ?_, ?_, ?_⟩
 ·rw [<- hz]; exact (tp_cell _ _ _ _ 0 rfl).trans rfl
 ·rw [<- hz]; exact (tp_cell _ _ _ _ 1 rfl).trans rfl
 ·rw [<- hz]; exact (tp_cell _ _ _ _ 2 rfl).trans rfl
theorem three_C (w : World) (a b c : Int) (t : TypeId) : Kd.C (Kd.int .i64) (w.alloc (.cells #[.int .i64 a, .int .i64 b, .int .i64 c] t)) (some ⟨w.heap.size,0,none⟩) 3 [a,b,c]:=by
 refine ⟨rfl,by omega,fun _ => ⟨_,rfl,fun j p hp => ?_⟩⟩
 have hc : ∀ i,(w.alloc (.cells #[.int .i64 a, .int .i64 b, .int .i64 c] t)).cell? ⟨w.heap.size,i,none⟩ = (#[Value.int .i64 a, .int .i64 b, .int .i64 c] : Array Value)[i]?:=fun i => tp_cell _ _ _ _ i rfl
 refine ⟨[.int .i64 p],rfl,rfl,fun i u hu => ?_⟩
 have hi : i = 0:=by
  rcases i with _ | i
  ·rfl
  ·simp at hu
 subst hi
 have ea : (⟨w.heap.size,0,none⟩ : Addr).add (j * (Kd.int .i64).sz + 0) = ⟨w.heap.size,j,none⟩:=by rw [Addr.add_lit,Nat.zero_add,Nat.add_zero]; show (⟨w.heap.size,j * 1,none⟩ : Addr) = _; rw [Nat.mul_one]
 rw [ea,hc]
 rcases j with _ | _ | _ | j
 ·simp at hp hu; rw [<- hu,<- hp]; rfl
 ·simp at hp hu; rw [<- hu,<- hp]; rfl
 ·simp at hp hu; rw [<- hu,<- hp]; rfl
 ·simp at hp
theorem compare_calls (x y : SElem) (W : World) : Calls Tryd.prog 89 #[elV x,elV y] W fun e w' => e = .returned (.int .i64 (cmpE x y)) /\ GD W w':=by
 have HC0:=Zz.k (fun w => cmp_Compare_int.calls x.f0 y.f0 (cmpI x.f0 y.f0) w (Qbu _ _))
 have HC1:=Zz.k (fun w => cmp_Compare_int.calls x.f1 y.f1 (cmpI x.f1 y.f1) w (Qbu _ _))
 have HC2:=Zz.k (fun w => cmp_Compare_int.calls x.f2 y.f2 (cmpI x.f2 y.f2) w (Qbu _ _))
 have HOR:=Zz.k (fun w => cmp_Or_int.calls 5 (some ⟨w.heap.size,0,none⟩) 3 [cmpI x.f0 y.f0,cmpI x.f1 y.f1,cmpI x.f2 y.f2] (cmpE x y) (w.alloc (.cells #[.int .i64 (cmpI x.f0 y.f0), .int .i64 (cmpI x.f1 y.f1), .int .i64 (cmpI x.f2 y.f2)] 3)) (three_C w _ _ _ _) (Nat.le_refl _) (cmp_Or_three _ _ _))
 have HG:=Zz.k (((GD.refl W).alloc (.cells #[.int .i64 x.f0, .int .i64 x.f1, .int .i64 x.f2] 43)).alloc (.cells #[.int .i64 y.f0, .int .i64 y.f1, .int .i64 y.f2] 43))
 have HS:=Zz.k (S6.boxed W x y 43)
 generalize hr : cmpE x y = r at HOR
 generalize cmpI x.f0 y.f0 = r0 at HC0 HOR
 generalize cmpI x.f1 y.f1 = r1 at HC1 HOR
 generalize cmpI x.f2 y.f2 = r2 at HC2 HOR
 unfold elV
 go_enter Tryd.func89,Tryd.ntmps89
 go_upto_region 1 with (fail)
 refine stR (S:=fun w' => S6 w' W.heap.size x y) 18 t_op_Compare.bits1 t_op_Compare.tab1 (hS:=HS.out) (h:=fun hS HT HW => ?_)
 have HG2:=Zz.k HG.out.drew
 generalize ((W.alloc (.cells #[.int .i64 x.f0, .int .i64 x.f1, .int .i64 x.f2] 43)).alloc (.cells #[.int .i64 y.f0, .int .i64 y.f1, .int .i64 y.f2] 43)).drew = w1 at HG2 hS ⊢
 clear HG HS
 refine pu HT 0 5 1 (h := ?_)
 refine pu HT 2 7 5 (h := ?_)
 refine pu HT 5 10 37 (h := ?_)
 refine pu HT 7 12 165 (h := ?_)
 refine pu HT 10 15 1189 (h := ?_)
 refine pu HT 12 17 5285 (h := ?_)
 refine tk HT HW hS 1 6 5287 (h := ?_)
 refine tk HT HW hS 3 8 5295 (h := ?_)
 refine tk HT HW hS 6 11 5359 (h := ?_)
 refine tk HT HW hS 8 13 5615 (h := ?_)
 refine tk HT HW hS 11 16 7663 (h := ?_)
 refine tk HT HW hS 13 18 15855 (h := ?_)
 refine ca HT 4 (some 9) 15871 #[.int .i64 x.f0, .int .i64 y.f0] Tryd.func123 (h:=fun K hK => ?_)
 refine (HC0.out w1).mono ?_
 rintro e w2 ⟨rfl,⟨n0,rfl⟩⟩
 refine ⟨_,rfl, ?_⟩
 refine hK.out _ _ hS (fun _ => ?_)
 clear hK
 refine nm (h := ?_)
 refine ca HT 9 (some 14) 16383 #[.int .i64 x.f1, .int .i64 y.f1] Tryd.func123 (h:=fun K hK => ?_)
 refine (HC1.out _).mono ?_
 rintro e w2 ⟨rfl,⟨n1,rfl⟩⟩
 refine ⟨_,rfl, ?_⟩
 refine hK.out _ _ hS (fun _ => ?_)
 clear hK
 refine nm (h := ?_)
 refine ca HT 14 (some 19) 32767 #[.int .i64 x.f2, .int .i64 y.f2] Tryd.func123 (h:=fun K hK => ?_)
 refine (HC2.out _).mono ?_
 rintro e w2 ⟨rfl,⟨n2,rfl⟩⟩
 refine ⟨_,rfl, ?_⟩
 have HG3:=Zz.k (((HG2.out.drawn n0).drawn n1).drawn n2)
 refine hK.out _ _ hS (fun hS' => ?_)
 clear hK
 refine nm (h := ?_)
 generalize (((w1.drewN n0).drewN n1).drewN n2) = w3 at HG3 hS' ⊢
 refine exS HT 15 (some 20) 65535 (.slice (some ⟨w3.heap.size,0,none⟩) 3 3) (w3.alloc (.cells #[.int .i64 r0, .int .i64 r1, .int .i64 r2] 3)) (hrun := ?_) (hS:=S6.below hS' (Qah (Below.refl _ _) _)) (h:=fun hS2 => ?_)
 ·clear HT HW hS hS'
  go_simp
 refine nm (h := ?_)
 refine ca HT 16 (some 21) 131071 #[.slice (some ⟨w3.heap.size,0,none⟩) 3 3] Tryd.func122 (h:=fun K hK => ?_)
 refine (HOR.out w3).mono ?_
 rintro e w2 ⟨rfl,⟨n3,rfl⟩⟩
 refine ⟨_,rfl, ?_⟩
 have HG4:=Zz.k ((HG3.out.alloc (.cells #[.int .i64 r0, .int .i64 r1, .int .i64 r2] 3)).drawn n3)
 refine hK.out _ _ hS2 (fun _ => ?_)
 clear hK
 refine nm (h := ?_)
 refine pu HT 17 4 262143 (h := ?_)
 refine dn HT (h := ?_)
 clear HT HW hS hS' hS2
 go_wp2
 go_ret
 exact ⟨re,HG4.out⟩
end
section
instance inhE : Inhabited SElem:=⟨⟨0,0,0⟩⟩
def Qbj (x : SElem) : List Value:=[.int .i64 x.f0, .int .i64 x.f1, .int .i64 x.f2]
def sortL (l : List SElem) : List SElem:=l.mergeSort fun x y => !Qaq y x
theorem ltE (x y : SElem) : ltOf cmpE x y = Qaq x y:=cmpE_neg x y
theorem elLess_iff (x y : SElem) : Qaq x y = true ↔ x.f0 < y.f0 \/ (x.f0 = y.f0 /\ (x.f1 < y.f1 \/ (x.f1 = y.f1 /\ x.f2 < y.f2))):=by
 unfold Qaq
 simp only [Bool.or_eq_true,Bool.and_eq_true,decide_eq_true_eq,beq_iff_eq]
theorem Qby (x y : SElem) : Qaq x y = false ↔ ¬ (x.f0 < y.f0 \/ (x.f0 = y.f0 /\ (x.f1 < y.f1 \/ (x.f1 = y.f1 /\ x.f2 < y.f2)))):=by
 rw [<- elLess_iff,Bool.not_eq_true]
theorem swoE : SWO (ltOf cmpE) where
 irrefl x:=by rw [ltE,Qby]; omega
 trans x y z h1 h2:=by rw [ltE,elLess_iff] at *; omega
 ntrans x y z h1 h2:=by rw [ltE,Qby] at *; omega
theorem totE (x y : SElem) (h1 : ltOf cmpE x y = false) (h2 : ltOf cmpE y x = false) : x = y:=by
 rw [ltE,Qby] at h1 h2
 cases x; cases y
 simp only at h1 h2
 rw [SElem.mk.injEq]
 exact ⟨by omega,by omega,by omega⟩
theorem flat_at (d : Array SElem) {j : Nat} (hj : j < d.size) {i : Nat} (hi : i < 3) : (flatK Qbj 3 d)[j * 3 + i]! = (Qbj d[j])[i]!:=by
 rw [get_flatK _ _ _ _ (by omega),show (j * 3 + i) / 3 = j by omega,show (j * 3 + i) % 3 = i by omega,getElem!_pos d j hj]
theorem HoldsK_of {w : World} {base g c : Nat} {xs : List SElem} (h : RE w base (.slice (some ⟨g,0,none⟩) xs.length c) xs) : HoldsK Qbj 3 w g 0 xs.toArray:=by
 intro t ht
 rw [size_flatK] at ht
 have hs : xs.toArray.size = xs.length:=rfl
 have hj : t / 3 < xs.length:=by omega
 obtain ⟨cs,hl,hM,hc,hf⟩:=Kd.R_elem h zElem ((t / 3 : Nat) : Int) (by omega) (by omega)
 have hcs : cs = Qbj xs[t / 3]:=by
  have:=Qaj xs (t / 3) hj
  unfold Qaa at this
  rw [Int.toNat_natCast] at this hM
  rw [this] at hM
  exact kElem_openM hM
 have ht3 : t = t / 3 * 3 + t % 3:=by omega
 have hv : (flatK Qbj 3 xs.toArray)[t]! = (Qbj xs[t / 3])[t % 3]!:=by
  conv => lhs; rw [ht3]
  rw [flat_at _ (by rw [hs]; exact hj) (by omega)]
  rfl
 rw [hv,Nat.zero_add]
 have hi3 : t % 3 < 3:=by omega
 have h3 : Qam.sz = 3:=rfl
 refine ⟨?_, ?_⟩
 ·have:=hc (t % 3) ((Qbj xs[t / 3])[t % 3]!) (by
   rw [hcs]
   have hle : t % 3 < (Qbj xs[t / 3]).length:=by unfold Qbj; exact hi3
   rw [List.getElem?_eq_getElem hle,getElem!_pos (Qbj xs[t / 3]) (t % 3) hle])
  rw [Int.toNat_natCast,h3] at this
  rw [<- ht3] at this
  exact this
 ·have:=hf (t % 3)
  rw [Int.toNat_natCast,h3] at this
  rw [<- ht3] at this
  exact this
theorem heap_mapBlock {w : World} {g : Nat} {cur : Array Value} {T : TypeId} {fr : Nat × Nat} (f : Array Value -> Array Value) (h : w.heap[g]? = some (.cells cur T fr)) : (mapBlock w g f).heap[g]? = some (.cells (f cur) T fr):=by
 show (w.heap.modify g (onCells f))[g]? = _
 rw [Array.getElem?_modify,if_pos rfl,h]
 rfl
theorem heap_mapBlock_far {w : World} {g k : Nat} (f : Array Value -> Array Value) (h : k ≠ g) : (mapBlock w g f).heap[k]? = w.heap[k]?:=by
 show (w.heap.modify g (onCells f))[k]? = _
 rw [Array.getElem?_modify,if_neg (Ne.symm h)]
theorem flat_inner (d : Array SElem) (ok : World -> Nat -> (Nat -> Prop) -> Prop) {w : World} {base : Nat} {okp : Nat -> Prop} : Reps (Qam.M w base okp) 3 d.toList (flatK Qbj 3 d).toList:=by
 refine ⟨by rw [Array.length_toList,size_flatK,Array.length_toList],fun j p hp => ?_⟩
 have hj : j < d.size:=by
  have:=(List.getElem?_eq_some_iff.1 hp).1
  rwa [Array.length_toList] at this
 have hp' : d[j] = p:=by
  have:=(List.getElem?_eq_some_iff.1 hp).2
  rw [<- this]; rfl
 have hl : (flatK Qbj 3 d).toList.length = d.size * 3:=by rw [Array.length_toList,size_flatK]
 have e : ((flatK Qbj 3 d).toList.drop (j * 3)).take 3 = [.int .i64 p.f0, .int .i64 p.f1, .int .i64 p.f2]:=by
  refine List.ext_getElem (by rw [List.length_take,List.length_drop,hl]; show min 3 _ = 3; omega) (fun i h1 h2 => ?_)
  have hi : i < 3:=h2
  rw [List.getElem_take,List.getElem_drop]
  have ha : (flatK Qbj 3 d).toList[j * 3 + i]'(by rw [hl]; omega) = (flatK Qbj 3 d)[j * 3 + i]!:=by
   rw [Array.getElem_toList,getElem!_pos _ _ (by rw [size_flatK]; omega)]
  rw [ha,flat_at d hj hi,hp']
  have hle : i < (Qbj p).length:=hi
  rw [getElem!_pos (Qbj p) i hle]
  rfl
 rw [e]
 exact Qan _ _ _ p
theorem RE_sorted {w : World} {base g c : Nat} {xs : List SElem} (h : RE w base (.slice (some ⟨g,0,none⟩) xs.length c) xs) (d : Array SElem) (hd : d.size = xs.length) (n : Nat) (os : Array Obj) :
  RE (sortWorldK Qbj 3 w g 0 n d os) base (.slice (some ⟨g,0,none⟩) xs.length c) d.toList /\ w.grownBy (sortWorldK Qbj 3 w g 0 n d os) (some g):=by
 obtain ⟨hok,inner,ho,hr⟩:=h
 obtain ⟨ho1,ho2⟩:=ho
 rcases ho2 with ⟨hv,_⟩ | ⟨g',cap',cur,hv,hb,hh,hnc',hcm,hcs,ht⟩
 ·cases hv
 injection hv with hA _ hc
 injection hA with hA
 injection hA with hg
 subst hg; subst hc
 have h3 : Qam.sz = 3:=rfl
 have hglt : g < w.heap.size:=by
  rcases Nat.lt_or_ge g w.heap.size with hx | hx
  ·exact hx
  ·rw [Array.getElem?_eq_none hx] at hh; cases hh
 have hsz : (putCells id 0 (flatK Qbj 3 d) cur).size = cur.size:=by simp [putCells]
 have hrow : (sortWorldK Qbj 3 w g 0 n d os).heap[g]? = some (.cells (putCells id 0 (flatK Qbj 3 d) cur) 43 (0,0)):=by
  have h1:=heap_mapBlock (w:=Sort.ahead w n) (putCells id 0 (flatK Qbj 3 d)) (show (Sort.ahead w n).heap[g]? = _ from hh)
  show ((mapBlock (Sort.ahead w n) g (putCells id 0 (flatK Qbj 3 d))).heap ++ os)[g]? = _
  rw [Array.getElem?_append_left (by show g < (w.heap.modify g (onCells (putCells id 0 (flatK Qbj 3 d)))).size; rw [Array.size_modify]; exact hglt)]
  exact h1
 have htake : (putCells id 0 (flatK Qbj 3 d) cur).toList.take (xs.length * 3) = (flatK Qbj 3 d).toList:=by
  have hlen : xs.length * 3 <= cur.size:=by
   rw [hcs,h3]
   exact Nat.mul_le_mul_right 3 hnc'
  have hL : (putCells id 0 (flatK Qbj 3 d) cur).toList.length = cur.size:=by rw [Array.length_toList,hsz]
  have hF : (flatK Qbj 3 d).toList.length = xs.length * 3:=by rw [Array.length_toList,size_flatK,hd]
  refine List.ext_getElem (by rw [List.length_take,hL,hF]; omega) (fun i h1 h2 => ?_)
  have hi : i < xs.length * 3:=by rw [List.length_take] at h1; omega
  rw [List.getElem_take,Array.getElem_toList,Array.getElem_toList]
  unfold putCells
  rw [Array.getElem_mapIdx,if_pos ⟨Nat.zero_le _,by rw [Nat.zero_add,size_flatK,hd]; exact hi⟩]
  show (flatK Qbj 3 d)[i - 0]! = _
  rw [Nat.sub_zero,getElem!_pos _ _ (by rw [size_flatK,hd]; exact hi)]
 have hdl : d.toList.length = xs.length:=by rw [Array.length_toList,hd]
 have h0 : (flatK Qbj 3 d).toList.length = d.toList.length * Qam.sz:=by rw [Array.length_toList,size_flatK,Array.length_toList]; rfl
 have hgrow : w.grownBy (sortWorldK Qbj 3 w g 0 n d os) (some g):=by
  refine ⟨rfl,rfl,rfl, ?_,fun k hk hne => ?_⟩
  ·show w.heap.size <= ((w.heap.modify g (onCells (putCells id 0 (flatK Qbj 3 d)))) ++ os).size
   rw [Array.size_append,Array.size_modify]; omega
  ·show ((mapBlock (Sort.ahead w n) g (putCells id 0 (flatK Qbj 3 d))).heap ++ os)[k]? = _
   rw [Array.getElem?_append_left (by show k < (w.heap.modify g (onCells (putCells id 0 (flatK Qbj 3 d)))).size; rw [Array.size_modify]; exact hk)]
   exact heap_mapBlock_far _ (fun e => hne (by rw [e]))
 refine ⟨⟨hok,(flatK Qbj 3 d).toList,⟨h0, .inr ⟨g,c,putCells id 0 (flatK Qbj 3 d) cur,by rw [hdl],hb,hrow,by rw [hdl]; exact hnc',hcm,by rw [hsz]; exact hcs,by rw [hdl,h3]; exact htake⟩⟩,flat_inner d (fun _ _ _ => True)⟩,hgrow⟩
theorem cmpLays (blk off size : Nat) (w : World) : CmpLays Tryd.prog 89 #[] Qbj 3 cmpE blk off size w:=fun _ _ _ _ x y => compare_calls x y _
theorem sort_calls {w : World} {base g c : Nat} {xs : List SElem} (h : RE w base (.slice (some ⟨g,0,none⟩) xs.length c) xs) (hg : g < w.heap.size) (hl : xs.length <= 1000000) :
  Calls Tryd.prog 88 #[.slice (some ⟨g,0,none⟩) xs.length c, .func (.func 89) #[] #[]] w fun e w' =>
   e = .returned (.tuple #[]) /\ RE w' base (.slice (some ⟨g,0,none⟩) xs.length c) (sortL xs) /\ w.grownBy w' (some g):=by
 have hcon:=AnyQ.slices_SortFunc Tryd.sortEl 3 Tryd.isAgg43 Tryd.sizeOf43 Qbj (fun _ => rfl) (fun x v hv => by simp [Qbj] at hv; rcases hv with rfl | rfl | rfl <;> rfl) cmpE swoE 89 #[] g 0 c xs.toArray w
  (enters_at Tryd.func89 (by kernel_rfl) rfl) (cmpLays _ _ _ _) (HoldsK_of h) hg (by show xs.length < _; omega)
 change Calls Tryd.prog 88 _ _ _ at hcon
 refine hcon.mono ?_
 rintro e w' ⟨rfl,d',n,os,hp,hs,rfl⟩
 have hu:=sorted_unique_holds swoE totE xs.toArray d' hp hs
 have hd : d'.size = xs.length:=hp.1
 obtain ⟨r1,r2⟩:=RE_sorted h d' hd n os
 have e1 : d'.toList = sortL xs:=by
  rw [hu]
  unfold sortL
  congr 1
  funext x y
  rw [ltE]
 rw [e1] at r1
 exact ⟨rfl,r1,r2⟩
end
end Go.Proofs.YtonoaflfobajcaaDoor.L
end

section
namespace Go.Proofs.YtonoaflfobajcaaDoor.L
open Go.RowKit Go.Proofs.YtonoaflfobajcaaDoorW.PrintWords Go.Proofs.YtonoaflfobajcaaDoorW.PrintLast Go.Proofs.YtonoaflfobajcaaDoorW.PrintMore
set_option linter.unusedVariables false
set_option linter.unusedSimpArgs false
set_option maxHeartbeats 40000000
set_option maxRecDepth 1000000
section
theorem kElem_openK {w : World} {x : SElem} {cs : List Value} (h : Qam.K w x cs) : cs = [.int .i64 x.f0, .int .i64 x.f1, .int .i64 x.f2]:=by
 obtain ⟨_,_,rfl,rfl,⟨_,_,rfl,rfl,rfl⟩⟩:=h
 exact rfl
theorem infoE3 : (Tryd.prog.info? 43).map (fun i => (i.zero,i.size,i.bytes)) = some (some (.agg #[(.int .i64 0),(.int .i64 0),(.int .i64 0)]),3,24):=by kernel_rfl
theorem clone_calls (A : Option Addr) (c : Nat) (l : List SElem) (w : World) (hr : Kd.C Qam w A l.length l) (hl : l.length <= 1000000) :
  Calls Tryd.prog 85 #[.slice A l.length c] w fun e w' => ∃ v,e = .returned v /\ RE w' w.heap.size v l /\ Below w.heap.size w w':=by
 have q22 : ∀ (w : World) (a : Option Addr) (n c n' c' : Nat),(binOp .eql 23 (.slice a n c) (.slice none n' c')).run Tryd.prog w = .ok (.bool a.isNone) w:=fun w a n c n' c' => Lib.run_eql_slice_nil w _ _ a n c n' c' Tryd.underlying23
 rcases A with _ | ad
 ·have hz : l.length = 0:=by
   rcases Nat.eq_zero_or_pos l.length with h | h
   ·exact h
   ·obtain ⟨_,h',_⟩:=hr.2.2 h
    cases h'
  obtain rfl : l = []:=List.eq_nil_of_length_eq_zero hz
  clear hr hz hl
  go_enter Tryd.func85,Tryd.ntmps85
  go_wp2
  go_ret
  exact ⟨_,rfl,Kd.R_nil _ _ _ _ _,Below.refl _ _⟩
 ·obtain ⟨i0,hi,hiv⟩:=Option.map_eq_some_iff.1 infoE3
  simp only [Prod.mk.injEq] at hiv
  obtain ⟨hz0,hz1,hz2⟩:=hiv
  obtain ⟨news,hnr,hnc⟩:=Qax.inner_ hr
  have hnl : news.length = l.length * 3:=hnr.1
  have HNC:=Zz.k hnc
  have HNR:=Zz.k hnr
  have h1 : ∀ u ∈ news,u.oneCell' = true:=Kd.reps_one hnr (by decide) (fun p c h => Qam.K_one h)
  clear hr hnc hnr
  go_enter Tryd.func85,Tryd.ntmps85
  go_wp2_with (at_builtin; refine wpList_append_own _ rfl _ _ 23 rfl w.heap.size 43 i0 _ 3 24 Tryd.underlying23 hi hz0 hz1 hz2 rfl (by decide) _ _ _ rfl (World.ownsRow_made w #[] 0 (Nat.le_refl _) (Nat.zero_le _) (by simp)) ad l.length c news rfl ?qc1 ?qc2 ?qc3 ?qc4 ?qc5 ?qc6 ?_)
  case qc1 => exact hnl
  case qc2 =>
   intro j u hj
   exact Qad (Qah (Below.refl _ _) _) (HNC.out j u hj)
  case qc3 => exact h1
  case qc4 => rw [Nat.zero_add]; unfold maxLen; omega
  case qc5 => rw [Nat.zero_add]; omega
  case qc6 => simp
  intro v' w1 hown hgrow hnil
  have HO:=Zz.k hown
  have HG:=Zz.k hgrow
  clear hown hgrow hnil
  go_wp2
  go_ret
  have ho : w1.ownsRow w.heap.size 43 3 v' l.length news:=by simpa using HO.out
  refine ⟨v',rfl,⟨fun _ _ => trivial,news,ho,⟨HNR.out.1,fun j p hp => ?_⟩⟩,((Below.refl _ w).alloc (Nat.le_refl _) _).grown HG.out (by simp) (by intro k hk; simp [Value.ownBlock] at hk; omega)⟩
  rw [kElem_openK (HNR.out.2 j p hp)]
  exact Qan _ _ _ p
end
section
def z0 (e : SElem) : SElem:=⟨e.f0,e.f1,0⟩
def needRaw (o : SOp) : List SElem:=o.f5 ++ [o.f3,⟨o.f6,o.f7,0⟩]
def needsL (o : SOp) : List SElem:=compL (sortL (((needRaw o).map z0).filter fun e => !Qak e))
def needsF (o : SOp) : Option (List SElem × Int):=if o.f4.size < 9223372036854775807 /\ o.f5.length <= 900000 then some (if opOk o = true then (needsL o,0) else ([],1)) else none
def op_Needs.f (a0_0 : Int) (a0_1 : Int) (a0_2 : Int) (a0_3 : Int) (a0_4 : Int) (a0_5 : Int) (a0_6 : ByteArray) (l0_7 : List (SElem)) (a0_8 : Int) (a0_9 : Int) (a0_10 : Int) : Option ((List (SElem)) × Int):=needsF ⟨a0_0,a0_1,a0_2,⟨a0_3,a0_4,a0_5⟩,a0_6,l0_7,a0_8,a0_9,a0_10⟩
theorem RE_zero {w : World} {base g n c : Nat} {xs : List SElem} (h : RE w base (.slice (some ⟨g,0,none⟩) n c) xs) (i : Nat) (hi : i < n) :
  RE (w.setCell ⟨g,i * 3 + 2,none⟩ (.int .i64 0)) base (.slice (some ⟨g,0,none⟩) n c) (xs.set i (z0 (Qaa xs (i : Int)))) /\ w.grownBy (w.setCell ⟨g,i * 3 + 2,none⟩ (.int .i64 0)) (some g) /\ (∃ q,w.cell? ⟨g,i * 3 + 2,none⟩ = some q) /\ w.frozen? ⟨g,i * 3 + 2,none⟩ = false:=by
 obtain ⟨cs,hl,hM,hc,hf⟩:=Kd.R_elem h zElem (i : Int) (by omega) (by omega)
 have hM' : Qam.M w base (fun k => True /\ k ≠ g) (Qaa xs (i : Int)) cs:=hM
 have hcs:=kElem_openM hM'
 have:=Kd.R_seg h (i : Int) (by omega) (by omega) (c:=cs) (seg:=[.int .i64 0]) (j:=2) (x':=z0 (Qaa xs (i : Int))) (okp:=fun k => True /\ k ≠ g) hl hc (by show 2 + 1 <= 3; omega) (by
  rw [hcs]; exact Qan _ _ _ (z0 (Qaa xs (i : Int)))) (fun k hk => hk)
 refine ⟨this.1,this.2,⟨_,hc 2 _ (by rw [hcs]; rfl)⟩,hf 2⟩
theorem needs1_calls (x : SElem) (W : World) : Calls Tryd.prog 87 #[elV x] W fun e w' => e = .returned (.bool (Qak x)) /\ Below W.heap.size W w':=by
 obtain ⟨a,b,c⟩:=x
 unfold elV
 simp only
 have HAL:=Zz.k (Qah (Below.refl W.heap.size W) (.cells #[.int .i64 a, .int .i64 b, .int .i64 c] 43))
 go_enter Tryd.func87,Tryd.ntmps87
 go_wp2
 all_goals (subst_vars; go_ret; exact ⟨by simp [Qak, *],HAL.out⟩)
theorem needs_app {W : World} {base : Nat} {v : Value} {l : List SElem} (a b : SElem) {g : Nat} (hR : RE W base v l) (hbase : base <= W.heap.size) (hl : l.length <= 900000)
  (hg : ∀ j u,[Value.int .i64 a.f0, .int .i64 a.f1, .int .i64 a.f2, .int .i64 b.f0, .int .i64 b.f1, .int .i64 b.f2][j]? = some u -> W.cell? ⟨g,j,none⟩ = some u) :
  ∃ g' n' c' w',(Builtin.append_ #[23,23] 23 #[v, .slice (some ⟨g,0,none⟩) 2 2]).run Tryd.prog W = .ok (.slice (some ⟨g',0,none⟩) n' c') w' /\ n' = l.length + 2 /\ base <= g' /\ g' < w'.heap.size /\ RE w' base (.slice (some ⟨g',0,none⟩) n' c') (l ++ [a,b]) /\ W.grownBy w' v.ownBlock:=by
 obtain ⟨i0,hi,hiv⟩:=Option.map_eq_some_iff.1 infoE3
 simp only [Prod.mk.injEq] at hiv
 obtain ⟨hz0,hz1,hz2⟩:=hiv
 obtain ⟨hok,inner,ho,hr⟩:=hR
 obtain ⟨v',w',hrun,r1,r2,_⟩:=run_append_own (P:=Tryd.prog) W base 23 23 43 i0 _ 3 24 Tryd.underlying23 hi hz0 hz1 hz2 rfl (by decide) v l.length inner ho ⟨g,0,none⟩ 2 2
  [Value.int .i64 a.f0, .int .i64 a.f1, .int .i64 a.f2, .int .i64 b.f0, .int .i64 b.f1, .int .i64 b.f2] rfl (fun j u hu => by rw [Addr.add_lit,Nat.zero_add]; exact hg j u hu) (by intro u hu; simp only [List.mem_cons,List.not_mem_nil,or_false] at hu; rcases hu with rfl | rfl | rfl | rfl | rfl | rfl <;> rfl) (by unfold maxLen; omega) (by omega) hbase
 have hRR : RE w' base v' (l ++ [a,b]):=by
  refine ⟨fun _ _ => trivial,_,by rw [List.length_append]; exact r1, ?_⟩
  have e : inner ++ [Value.int .i64 a.f0, .int .i64 a.f1, .int .i64 a.f2, .int .i64 b.f0, .int .i64 b.f1, .int .i64 b.f2] = (inner ++ [Value.int .i64 a.f0, .int .i64 a.f1, .int .i64 a.f2]) ++ [Value.int .i64 b.f0, .int .i64 b.f1, .int .i64 b.f2]:=by simp
  rw [e,show l ++ [a,b] = (l ++ [a]) ++ [b] by simp]
  refine Reps.snoc (Reps.snoc (hr.imp_ (fun x c hx => ?_)) (Qan _ _ _ a) rfl) (Qan _ _ _ b) rfl
  rw [kElem_openM hx]
  exact Qan _ _ _ x
 obtain ⟨g',c',rfl,hb,hlt,_⟩:=Kd.R_form hRR (by simp)
 exact ⟨g',_,c',w',hrun,by simp,hb,hlt,hRR,r2⟩
theorem stepZ (l : List SElem) {k : Nat} (hk : k < l.length) : ((l.take k).map z0 ++ l.drop k).set k (z0 (Qaa ((l.take k).map z0 ++ l.drop k) (k : Int))) = (l.take (k + 1)).map z0 ++ l.drop (k + 1):=by
 have hlen : ((l.take k).map z0).length = k:=by rw [List.length_map,List.length_take]; omega
 have hd : l.drop k = l[k] :: l.drop (k + 1):=List.drop_eq_getElem_cons hk
 have hr : Qaa ((l.take k).map z0 ++ l.drop k) (k : Int) = l[k]:=by
  rw [Qaj _ _ (by rw [List.length_append,hlen,List.length_drop]; omega)]
  rw [List.getElem_append_right (by omega)]
  have hm : min k l.length = k:=by omega
  simp [hlen,hm]
 rw [hr,List.set_append_right _ _ (by omega),hlen,Nat.sub_self,hd,List.set_cons_zero,List.take_succ_eq_append_getElem hk,List.map_append,List.append_assoc]
 rfl
abbrev oCells (o : SOp) (A7 : Option Addr) (c7 : Nat) : List Value:=[.int .i64 o.f0, .int .i64 o.f1, .int .i64 o.f2, .int .i64 o.f3.f0, .int .i64 o.f3.f1, .int .i64 o.f3.f2, .string o.f4, .slice A7 o.f5.length c7, .int .i64 o.f6, .int .i64 o.f7, .int .i64 o.f8]
abbrev O11 (W : World) (g : Nat) (o : SOp) (A7 : Option Addr) (c7 : Nat) : Prop:=W.cell? ⟨g,0,none⟩ = some (.int .i64 o.f0) /\ W.cell? ⟨g,1,none⟩ = some (.int .i64 o.f1) /\ W.cell? ⟨g,2,none⟩ = some (.int .i64 o.f2) /\ W.cell? ⟨g,3,none⟩ = some (.int .i64 o.f3.f0) /\ W.cell? ⟨g,4,none⟩ = some (.int .i64 o.f3.f1) /\ W.cell? ⟨g,5,none⟩ = some (.int .i64 o.f3.f2) /\ W.cell? ⟨g,6,none⟩ = some (.string o.f4) /\ W.cell? ⟨g,7,none⟩ = some (.slice A7 o.f5.length c7) /\ W.cell? ⟨g,8,none⟩ = some (.int .i64 o.f6) /\ W.cell? ⟨g,9,none⟩ = some (.int .i64 o.f7) /\ W.cell? ⟨g,10,none⟩ = some (.int .i64 o.f8)
theorem O11.below {W W' : World} {g : Nat} {o : SOp} {A7 : Option Addr} {c7 : Nat} (h : O11 W g o A7 c7) (hb : Below W.heap.size W W') : O11 W' g o A7 c7:=by
 obtain ⟨h0,h1,h2,h3,h4,h5,h6,h7,h8,h9,h10⟩:=h
 exact ⟨Qad hb h0,Qad hb h1,Qad hb h2,Qad hb h3,Qad hb h4,Qad hb h5,Qad hb h6,Qad hb h7,Qad hb h8,Qad hb h9,Qad hb h10⟩
theorem O11.boxed (w : World) (o : SOp) (A7 : Option Addr) (c7 : Nat) (t : TypeId) : O11 (w.alloc (.cells (oCells o A7 c7).toArray t)) w.heap.size o A7 c7:=by
 refine ⟨?_, ?_, ?_, ?_, ?_, ?_, ?_, ?_, ?_, ?_, ?_⟩ <;> simp
theorem exKN {P : Program} {ops : Array Oper} {Q : Exit -> Act -> World -> Prop} {S : World -> Prop} {F : Act -> World -> Prop} {K : Act -> World -> Prop} {oi : Oper} {a : Act} {w : World} {N : Option Tmp} (hK : Shut (∀ a' w',S w' -> (S w' -> F a' w') -> K a' w')) (u : Value) (w' : World) (hw : Region.wanted oi (yielded ops a.tmps) = true:=by rfl) (hN : oi.dst = N:=by rfl)
  (hrun : (execOp a.eval oi).run P w = .ok (.value u) w') (hS : S w') (h : S w' -> F (a.put N u) w') : if Region.wanted oi (yielded ops a.tmps) = true then Oper.wp P oi a w K Q else K (a.put N undef) w:=by
 rw [if_pos hw]
 unfold Oper.wp
 rw [hrun,Oper.upon_value,hN]
 exact hK.out _ w' hS h
theorem exec_app {P : Program} {a : Act} {oi : Oper} {w w' : World} {s x : Operand} {t : TypeId} {u sv xv : Value} (hop : oi.op = Op.call { callee:=Callee.builtin Builtin.append,args:=#[s,x],argTypes:=#[t,t] }) (hs : a.eval s = sv) (hx : a.eval x = xv)
  (hrun : (Builtin.append_ #[t,t] oi.type #[sv,xv]).run P w = .ok u w') : (execOp a.eval oi).run P w = .ok (.value u) w':=by
 simp [execOp,hop,resolve,invoke,builtin,hs,hx,hrun]
theorem Needs_calls (o : SOp) (A7 : Option Addr) (c7 : Nat) (r1 : List SElem) (r2 : Int) (w : World) (hr7 : Kd.C Qam w A7 o.f5.length o.f5) (hc7 : o.f5.length <= c7) (h : needsF o = some (r1,r2)) :
  Calls Tryd.prog 40 #[.agg (oCells o A7 c7).toArray] w fun e w' => ∃ v0_ : Value,e = .returned (.tuple #[v0_, .int .i64 r2]) /\ RE w' w.heap.size v0_ r1 /\ Below w.heap.size w w':=by
 unfold needsF at h
 split at h
 case isFalse => cases h
 rename_i hq
 obtain ⟨hsm,hl⟩:=hq
 have h:=Zo h
 obtain ⟨K,hK⟩:=op_May_f o ⟨hsm,by omega⟩
 have HAL:=Zz.k (Qah (Below.refl w.heap.size w) (.cells (oCells o A7 c7).toArray 55))
 have HM:=Zz.k (op_May.calls K o.f0 o.f1 o.f2 o.f3.f0 o.f3.f1 o.f3.f2 o.f4 A7 c7 o.f5 o.f6 o.f7 o.f8 (opOk o) _ (Kd.C_below hr7 HAL.out) hc7 (hK K (Nat.le_refl _)))
 have HCL:=Zz.k (fun W (hb : Below w.heap.size w W) => clone_calls A7 c7 o.f5 W (Kd.C_below hr7 hb) (by omega))
 obtain ⟨b0,b1,b2,b3,b4,b5,b6,b7,b8,b9,b10⟩:=O11.boxed w o A7 c7 55
 have HL:=Zz.k hl
 have HB:=Zz.k (O11.boxed w o A7 c7 55)
 clear hr7 hl hsm hK
 go_enter Tryd.func40,Tryd.ntmps40
 go_wp2_with fail
 refine HM.out.mono ?_
 rintro e w2 ⟨rfl,hb2⟩
 have HB2:=Zz.k (O11.below HB.out hb2)
 have HBW:=Zz.k (Qap HAL.out hb2)
 clear b0 b1 b2 b3 b4 b5 b6 b7 b8 b9 b10 HM HB HAL hb2
 cases hm : opOk o with
 | false =>
  rw [hm] at h
  have e1 : (([] : List SElem),(1 : Int)) = (r1,r2):=h
  injection e1 with e1 e2
  subst e1 e2
  clear hm h
  go_wp2
  go_ret2
  exact ⟨_,rfl,Kd.R_nil _ _ _ _ _,HBW.out⟩
 | true =>
  rw [hm] at h
  have e1 : (needsL o,(0 : Int)) = (r1,r2):=h
  injection e1 with e1 e2
  subst e2
  have HE:=Zz.k e1
  clear e1 h hm
  obtain ⟨x0,x1,x2,x3,x4,x5,x6,x7,x8,x9,x10⟩:=HB2.out
  go_upto_region 3 with (fail)
  refine stL (S:=fun w' => O11 w' w.heap.size o A7 c7) [11] 13 t_op_Needs.bits3 t_op_Needs.tab3 (hS:=⟨x0,x1,x2,x3,x4,x5,x6,x7,x8,x9,x10⟩) (h:=fun hS HT HW => ?_)
  clear x0 x1 x2 x3 x4 x5 x6 x7 x8 x9 x10
  refine pu HT 0 9 1 (h := ?_)
  refine tk HT HW hS 1 10 3 (h := ?_)
  refine pu HT 3 12 11 (h := ?_)
  refine tk HT HW hS 4 13 27 (h := ?_)
  refine pu HT 5 14 59 (h := ?_)
  refine tk HT HW hS 6 15 123 (h := ?_)
  refine pu HT 7 16 251 (h := ?_)
  refine tk HT HW hS 8 17 507 (h := ?_)
  refine pu HT 9 18 1019 (h := ?_)
  have HB1:=Zz.k (Qai HBW.out)
  clear HB2 HBW
  generalize w2.drew = w1 at HB1 hS ⊢
  have hgz : ∀ (W : World) j u,[Value.int .i64 o.f3.f0, .int .i64 o.f3.f1, .int .i64 o.f3.f2, .int .i64 o.f6, .int .i64 o.f7, .int .i64 0][j]? = some u -> (W.alloc (.cells #[.int .i64 o.f3.f0, .int .i64 o.f3.f1, .int .i64 o.f3.f2, .int .i64 o.f6, .int .i64 o.f7, .int .i64 0] 43)).cell? ⟨W.heap.size,j,none⟩ = some u:=by
   intro W j u hu
   have:=tp_cell W #[.int .i64 o.f3.f0, .int .i64 o.f3.f1, .int .i64 o.f3.f2, .int .i64 o.f6, .int .i64 o.f7, .int .i64 0] 43 W.heap.size j rfl
   rw [this]; simpa using hu
  have HGZ:=Zz.k hgz
  clear hgz
  have hbc : Below w1.heap.size w1 (w1.alloc (.cells #[.int .i64 o.f3.f0, .int .i64 o.f3.f1, .int .i64 o.f3.f2, .int .i64 o.f6, .int .i64 o.f7, .int .i64 0] 43)):=Qah (Below.refl _ w1) _
  have HS2:=Zz.k (O11.below hS hbc)
  refine two_ (i:=2) (j:=10) (Ni:=some 11) (Nj:=some 19) (bA 13 1023) (bA 13 2043) rfl rfl rfl rfl (two_of HT.out (by kernel_rfl)) (by decide) (by decide) (fun K hK => ?_) (fun K hK => ?_)
  case' refine_1 =>
   refine gS Tryd.func85 #[.slice A7 o.f5.length c7] (h := ?_)
   refine (HCL.out _ HB1.out).mono ?_
   rintro e w3 ⟨v,rfl,hR3,hb3⟩
   refine ⟨_,rfl, ?_⟩
   refine hK.out _ _ (O11.below hS hb3) (fun hS => ?_)
   clear hK HS2
   refine nm (h := ?_)
   refine exS HT 10 (some 19) 2047 (.slice (some ⟨w3.heap.size,0,none⟩) 2 2) (w3.alloc (.cells #[.int .i64 o.f3.f0, .int .i64 o.f3.f1, .int .i64 o.f3.f2, .int .i64 o.f6, .int .i64 o.f7, .int .i64 0] 43)) (hrun := ?_) (hS:=O11.below hS (Qah (Below.refl _ _) _)) (h:=fun hS' => ?_)
   ·clear HT HW hS
    go_simp
   refine nm (h := ?_)
   have hbx:=Qah (Below.refl w3.heap.size w3) (.cells #[.int .i64 o.f3.f0, .int .i64 o.f3.f1, .int .i64 o.f3.f2, .int .i64 o.f6, .int .i64 o.f7, .int .i64 0] 43)
   have hs1:=HB1.out.size
   have hs3:=hb3.size
   have hown:=Kd.R_base hR3
   obtain ⟨gA,nA,cA,wA,hrun,hnA,hgA,hgl,hRA,hGA⟩:=needs_app o.f3 ⟨o.f6,o.f7,0⟩ (g:=w3.heap.size) (Kd.R_below hR3 hbx) (by have:=hbx.size; omega) HL.out (HGZ.out w3)
   have hBA : Below w.heap.size w wA:=pw_below_grown (Qap HB1.out (Qap hb3 hbx)) _ (by have:=hbx.size; omega) hGA (fun k hk => by have:=hown k hk; omega)
   have hgA2 : w.heap.size <= gA:=by omega
   have HNA:=Zz.k hnA
   clear hnA
   have HRA:=Zz.k (Kd.R_lower hRA hs1)
   have HBA:=Zz.k hBA
   clear hS hS' hR3 hb3 hbx hs1 hs3 hown hgA hRA hGA hBA hbc
  case' refine_2 =>
   refine exKN hK (.slice (some ⟨w1.heap.size,0,none⟩) 2 2) (w1.alloc (.cells #[.int .i64 o.f3.f0, .int .i64 o.f3.f1, .int .i64 o.f3.f2, .int .i64 o.f6, .int .i64 o.f7, .int .i64 0] 43)) (hrun := ?_) (hS:=HS2.out) (h:=fun hS' => ?_)
   ·clear HT HW hS hK
    go_simp
   clear hK HS2
   refine nm (h := ?_)
   refine ca HT 2 (some 11) 2047 #[.slice A7 o.f5.length c7] Tryd.func85 (h:=fun K hK => ?_)
   refine (HCL.out _ (Qap HB1.out hbc)).mono ?_
   rintro e w3 ⟨v,rfl,hR3,hb3⟩
   refine ⟨_,rfl, ?_⟩
   refine hK.out _ _ (O11.below hS' hb3) (fun hS => ?_)
   clear hK
   refine nm (h := ?_)
   have hs1:=HB1.out.size
   have hsx:=hbc.size
   have hs3:=hb3.size
   have hown:=Kd.R_base hR3
   obtain ⟨gA,nA,cA,wA,hrun,hnA,hgA,hgl,hRA,hGA⟩:=needs_app o.f3 ⟨o.f6,o.f7,0⟩ (g:=w1.heap.size) hR3 (by omega) HL.out (fun j u hu => Qad hb3 (HGZ.out w1 j u hu))
   have hBA : Below w.heap.size w wA:=pw_below_grown (Qap HB1.out (Qap hbc hb3)) _ (by omega) hGA (fun k hk => by have:=hown k hk; omega)
   have hgA2 : w.heap.size <= gA:=by omega
   have HNA:=Zz.k hnA
   clear hnA
   have HRA:=Zz.k (Kd.R_lower hRA (show w.heap.size <= _ by omega))
   have HBA:=Zz.k hBA
   clear hS hS' hR3 hb3 hs1 hsx hs3 hown hgA hRA hGA hBA hbc
  all_goals
   refine exL HT 11 (some 20) 4095 (.slice (some ⟨gA,0,none⟩) nA cA) wA (hrun:=exec_app rfl rfl rfl hrun) (h := ?_)
   refine nm (h := ?_)
   refine pu HT 12 4 8191 (h := ?_)
   refine dn HT (h := ?_)
   clear HT HW hrun HGZ HB1 HCL
   have hnl : nA = (needRaw o).length:=by rw [HNA.out]; unfold needRaw; simp
   have HNE:=Zz.k (show compL (sortL (((needRaw o).map z0).filter fun e => !Qak e)) = r1 from HE.out)
   have hR0 : RE wA w.heap.size (.slice (some ⟨gA,0,none⟩) nA cA) (needRaw o):=HRA.out
   have hlN : (needRaw o).length <= 1000000:=by rw [<- hnl,HNA.out]; have:=HL.out; omega
   generalize needRaw o = lN at hnl hR0 HNE hlN
   have HR0:=Zz.k hR0
   have HG0:=Zz.k (Qbc (Below.refl wA.heap.size wA) (some gA))
   have HNL:=Zz.k hnl
   clear HNA HRA hR0 HE HL hnl h
   go_wp2
   go_loopg [5,23] nA (fun gg _ s23 wr => ∃ k : Nat,k <= nA /\ nA - k <= gg /\ s23 = .int .i64 k /\ Zz (RE wr w.heap.size (.slice (some ⟨gA,0,none⟩) nA cA) ((lN.take k).map z0 ++ lN.drop k)) /\ Zz (wA.grownBy wr (some gA)))
   case atStart => exact ⟨0,by omega,by omega,rfl,HR0,HG0⟩
   case round =>
    clear HR0 HG0
    obtain ⟨k,hk,hgk,rfl,HR,HG⟩:=hrel
    by_cases hlt : k < nA
    ·obtain ⟨g1,rfl⟩ : ∃ g1,gk = g1 + 1:=⟨gk - 1,by omega⟩
     have hltz : (k : Int) < (nA : Int):=by omega
     have h0z : (0 : Int) <= (k : Int):=by omega
     have hn6 : nA <= 1000000:=by rw [HNL.out]; exact hlN
     obtain ⟨z1,z2,⟨q,z3⟩,z4⟩:=RE_zero HR.out k hlt
     rw [stepZ lN (by have:=HNL.out; omega)] at z1
     have HR1:=Zz.k z1
     have HG1:=Zz.k (Qbd HG.out z2)
     clear z1 z2 HR HG
     go_wp2
     go_roundg g1
     case measure => omega
     case rel => exact ⟨k + 1,by omega,by omega,by go_num,HR1,HG1⟩
    ·obtain rfl : k = nA:=by omega
     have hltz : ¬ (k : Int) < (k : Int):=by omega
     have hR1 : RE wr w.heap.size (.slice (some ⟨gA,0,none⟩) k cA) (lN.map z0):=by
      have:=HR.out
      have hnl:=HNL.out
      rw [hnl,List.take_length,List.drop_length,List.append_nil,<- hnl] at this
      exact this
     have hl1 : k = (lN.map z0).length:=by rw [List.length_map]; exact HNL.out
     have hlM : (lN.map z0).length <= 1000000:=by rw [List.length_map]; exact hlN
     generalize lN.map z0 = l1 at hR1 hl1 HNE hlM
     clear HNL
     subst hl1
     have hsW:=HG.out.size
     have HD:=Zz.k (DeleteFuncElem 87 #[] w.heap.size cA (some ⟨gA,0,none⟩) l1 Qak wr (enters_at Tryd.func87 (by kernel_rfl) rfl) (by omega) hR1 (fun W x _ _ => needs1_calls x W))
     clear hR1 HR
     go_wp2_with fail
     refine HD.out.mono ?_
     rintro e w4 ⟨n4,rfl,hR4,hG4⟩
     have hfl : (l1.filter fun x => !Qak x).length <= 1000000:=Nat.le_trans (List.length_filter_le _ _) hlM
     have hG4 : wr.grownBy w4 (some gA):=hG4
     have HG4:=Zz.k (Qbd HG.out hG4)
     have hs4:=hG4.size
     obtain ⟨hn4,_,_⟩:=Kd.R_reads' hR4
     generalize (l1.filter fun x => !Qak x) = l2 at hR4 hn4 HNE hfl
     subst hn4
     have HS4:=Zz.k (sort_calls hR4 (show gA < w4.heap.size by omega) hfl)
     clear HD hG4 HG hR4
     go_wp2_with fail
     refine HS4.out.mono ?_
     rintro e w5 ⟨rfl,hR5,hG5⟩
     have hl5 : (sortL l2).length = l2.length:=List.length_mergeSort _
     have HG5:=Zz.k (Qbd HG4.out hG5)
     generalize sortL l2 = l3 at hR5 hl5 HNE
     rw [<- hl5] at hR5
     have hC5:=compact_calls hR5 (by omega)
     rw [hl5] at hC5
     have HC5:=Zz.k hC5
     clear hC5 hR5 HG4 hG5 HS4
     go_wp2_with fail
     refine HC5.out.mono ?_
     rintro e w6 ⟨n6,rfl,hR6,hG6⟩
     rw [HNE.out] at hR6
     have HR6:=Zz.k hR6
     have HG6:=Zz.k (Qbd HG5.out hG6)
     clear hR6 hG6 HC5 HG5
     go_wp2
     go_ret2
     exact ⟨_,rfl,HR6.out,pw_below_grown HBA.out _ HBA.out.size HG6.out (fun k hk => by injection hk with hk; omega)⟩
theorem op_Needs.calls (a0_0 : Int) (a0_1 : Int) (a0_2 : Int) (a0_3 : Int) (a0_4 : Int) (a0_5 : Int) (a0_6 : ByteArray) (A0_7 : Option Addr) (c0_7 : Nat) (l0_7 : List (SElem)) (a0_8 : Int) (a0_9 : Int) (a0_10 : Int) (r1 : List (SElem)) (r2 : Int) (w : World) (hr0_7 : Kd.C Qam w A0_7 l0_7.length l0_7) (hc0_7 : l0_7.length <= c0_7) (h : op_Needs.f a0_0 a0_1 a0_2 a0_3 a0_4 a0_5 a0_6 l0_7 a0_8 a0_9 a0_10 = some (r1,r2)) :
  Calls Tryd.prog 40 #[.agg #[.int .i64 a0_0, .int .i64 a0_1, .int .i64 a0_2, .int .i64 a0_3, .int .i64 a0_4, .int .i64 a0_5, .string a0_6, .slice A0_7 l0_7.length c0_7, .int .i64 a0_8, .int .i64 a0_9, .int .i64 a0_10]] w fun e w' => ∃ v0_ : Value,e = .returned (.tuple #[v0_, .int .i64 r2]) /\ Kd.R Qam 43 w' w.heap.size (fun _ => True) v0_ r1 /\ Below w.heap.size w w' :=
 Needs_calls ⟨a0_0,a0_1,a0_2,⟨a0_3,a0_4,a0_5⟩,a0_6,l0_7,a0_8,a0_9,a0_10⟩ A0_7 c0_7 r1 r2 w hr0_7 hc0_7 h
end
section
def Asc (l : List SElem) : Prop:=l.Pairwise fun a b => Qaq a b = true
def Weak (l : List SElem) : Prop:=l.Pairwise fun a b => Qaq b a = false
theorem el_eq {a b : SElem} (h1 : Qaq a b = false) (h2 : Qaq b a = false) : a = b:=by
 rw [Qby] at h1 h2
 cases a; cases b
 simp only at h1 h2
 rw [SElem.mk.injEq]
 exact ⟨by omega,by omega,by omega⟩
theorem el_irrefl (a : SElem) : Qaq a a = false:=by rw [Qby]; omega
theorem el_trans {a b c : SElem} (h1 : Qaq a b = true) (h2 : Qaq b c = true) : Qaq a c = true:=by rw [elLess_iff] at *; omega
theorem el_le_lt {a b c : SElem} (h1 : Qaq b a = false) (h2 : Qaq b c = true) : Qaq a c = true:=by rw [Qby] at h1; rw [elLess_iff] at *; omega
theorem el_asymm {a b : SElem} (h1 : Qaq a b = true) : Qaq b a = false:=by rw [Qby]; rw [elLess_iff] at h1; omega
theorem sort_weak (l : List SElem) : Weak (sortL l):=by
 have:=List.pairwise_mergeSort (le:=fun x y => !Qaq y x) (fun a b c h1 h2 => by
  simp only [Bool.not_eq_true'] at h1 h2 ⊢
  rw [Qby] at h1 h2 ⊢; omega) (fun a b => by
  cases h : Qaq b a
  ·rfl
  ·rw [el_asymm h]; rfl) l
 exact this.imp (fun h => by simpa using h)
theorem sort_mem (l : List SElem) (e : SElem) : e ∈ sortL l ↔ e ∈ l:=(List.mergeSort_perm l _).mem_iff
theorem asc_ext : ∀ {l r : List SElem},Asc l -> Asc r -> (∀ e,e ∈ l ↔ e ∈ r) -> l = r
 | [],[],_,_,_ => rfl
 | [],b :: r,_,_,h => by have:=(h b).2 List.mem_cons_self; cases this
 | a :: l,[],_,_,h => by have:=(h a).1 List.mem_cons_self; cases this
 | a :: l,b :: r,hl,hr,h => by
  obtain ⟨h1,h2⟩:=List.pairwise_cons.1 hl
  obtain ⟨h3,h4⟩:=List.pairwise_cons.1 hr
  have hab : a = b:=by
   rcases List.mem_cons.1 ((h a).1 List.mem_cons_self) with e | e
   ·exact e
   ·rcases List.mem_cons.1 ((h b).2 List.mem_cons_self) with e' | e'
    ·exact e'.symm
    ·have:=el_asymm (h1 b e'); rw [h3 a e] at this; cases this
  subst hab
  rw [asc_ext h2 h4 (fun e => ?_)]
  have he:=h e
  rw [List.mem_cons,List.mem_cons] at he
  constructor
  ·intro m
   rcases he.1 (.inr m) with e' | e'
   ·have:=h1 e m; rw [e',el_irrefl] at this; cases this
   ·exact e'
  ·intro m
   rcases he.2 (.inr m) with e' | e'
   ·have:=h3 e m; rw [e',el_irrefl] at this; cases this
   ·exact e'
end
section
theorem compN_spec {l : List SElem} (h : Weak l) : ∀ n,n <= l.length -> Asc (compN l n) /\ ∀ e,e ∈ compN l n ↔ e ∈ l.take n
 | 0,_ => ⟨List.Pairwise.nil,fun e => by rw [List.take_zero]; rfl⟩
 | n + 1,hn => by
  obtain ⟨ih1,ih2⟩:=compN_spec h n (by omega)
  have hlt : n < l.length:=by omega
  have hw:=List.pairwise_iff_getElem.1 h
  unfold compN
  rw [Qaj _ _ hlt,List.take_succ_eq_append_getElem hlt]
  by_cases h0 : n = 0
  ·subst h0
   rw [if_pos (.inl rfl)]
   exact ⟨by show Asc [l[0]]; exact List.pairwise_singleton _ _,fun e => by simp [compN]⟩
  ·have hp : n - 1 < l.length:=by omega
   rw [Qaj _ _ hp]
   by_cases hne : l[n] ≠ l[n - 1]
   ·rw [if_pos (.inr hne)]
    have hlast : Qaq l[n - 1] l[n] = true:=by
     cases hc : Qaq l[n - 1] l[n]
     ·exact absurd (el_eq (hw (n - 1) n hp hlt (by omega)) hc) hne
     ·rfl
    refine ⟨List.pairwise_append.2 ⟨ih1,List.pairwise_singleton _ _,fun a ha b hb => ?_⟩,fun e => by rw [List.mem_append,List.mem_append,ih2]⟩
    rw [List.mem_singleton] at hb
    subst hb
    rw [ih2] at ha
    obtain ⟨i,hi,rfl⟩:=List.mem_take_iff_getElem.1 ha
    have hi' : i < n:=by omega
    rcases Nat.lt_or_ge i (n - 1) with h1 | h1
    ·exact el_le_lt (hw i (n - 1) (by omega) hp h1) hlast
    ·obtain rfl : i = n - 1:=by omega
     exact hlast
   ·have he : l[n] = l[n - 1]:=Classical.not_not.1 hne
    rw [if_neg (by rintro (h1 | h1); exact h0 h1; exact hne h1)]
    refine ⟨ih1,fun e => ?_⟩
    rw [ih2,List.mem_append,List.mem_singleton,he]
    constructor
    ·exact .inl
    ·rintro (h1 | h1)
     ·exact h1
     ·rw [h1]; exact List.mem_take_iff_getElem.2 ⟨n - 1,by omega,rfl⟩
theorem needs_asc (o : SOp) : Asc (needsL o):=(compN_spec (sort_weak _) _ (Nat.le_refl _)).1
theorem needs_mem (o : SOp) (e : SElem) : e ∈ needsL o ↔ e ∈ ((needRaw o).map z0).filter fun e => !Qak e:=by
 unfold needsL compL
 rw [(compN_spec (sort_weak _) _ (Nat.le_refl _)).2,List.take_length,sort_mem]
theorem gone_all {o : SOp} : ∀ (l : List SElem) (p : Option SElem),Qaw o p l = true -> ∀ e ∈ l,Qak e = false /\ Qbx e = true /\ ownEl o e = false
 | [],_,_ => fun e he => by cases he
 | x :: r,p,h => fun e he => by
  unfold Qaw at h; simp only [Bool.and_eq_true,Bool.not_eq_true'] at h
  rcases List.mem_cons.1 he with rfl | he
  ·exact ⟨h.1.1.1.1,h.1.1.1.2,h.1.1.2⟩
  ·exact gone_all r _ h.2 e he
theorem begin_iff (e : SElem) : Qak e = true ↔ e = ⟨0,0,0⟩:=by
 obtain ⟨a,b,c⟩:=e
 unfold Qak
 simp only [Bool.and_eq_true,beq_iff_eq,SElem.mk.injEq]
theorem name_pos {a b : Int} (h : nameOk a b = true) : 1 <= a /\ 1 <= b:=by
 unfold nameOk at h; simp only [Bool.and_eq_true,decide_eq_true_eq] at h; exact ⟨h.1.1.1,h.1.2⟩
theorem elem_pos {e : SElem} (h : Qbx e = true) (hb : Qak e = false) : 1 <= e.f0 /\ 1 <= e.f1:=by
 unfold Qbx at h; rw [hb,Bool.false_or] at h; simp only [Bool.and_eq_true] at h; exact name_pos h.1.1
theorem z0_begin {e : SElem} (h : 1 <= e.f0) : Qak (z0 e) = false:=by
 cases hb : Qak (z0 e)
 ·rfl
 ·rw [begin_iff] at hb; have : (z0 e).f0 = 0:=by rw [hb]
  have : e.f0 = 0:=this
  omega
theorem needs_iff {o : SOp} (h : opOk o = true) (e : SElem) : e ∈ needsL o ↔ (if o.f2 = 1 then (∃ x,(x ∈ o.f5 \/ (x = o.f3 /\ Qak o.f3 = false)) /\ e = z0 x) else e = ⟨o.f6,o.f7,0⟩):=by
 rw [needs_mem,List.mem_filter,List.mem_map]
 unfold opOk at h
 simp only [Bool.and_eq_true] at h
 obtain ⟨hn,h⟩:=h
 by_cases h1 : o.f2 = 1
 ·rw [if_pos h1] at h ⊢
  unfold editOk goneOk at h
  simp only [Bool.and_eq_true,beq_iff_eq,Bool.not_eq_true'] at h
  have hg:=gone_all _ _ h.1.1.1.2.1
  have hE : Qbx o.f3 = true:=h.1.1.1.1.1.1.1.1.1
  have h6:=h.1.1.2
  have h7:=h.1.2
  constructor
  ·rintro ⟨⟨x,hx,rfl⟩,hb⟩
   unfold needRaw at hx
   rw [List.mem_append,List.mem_cons,List.mem_singleton] at hx
   refine ⟨x, ?_,rfl⟩
   rcases hx with hx | rfl | rfl
   ·exact .inl hx
   ·refine .inr ⟨rfl, ?_⟩
    cases hb3 : Qak o.f3
    ·rfl
    ·rw [begin_iff] at hb3; rw [hb3] at hb; cases hb
   ·rw [h6,h7] at hb; cases hb
  ·rintro ⟨x,hx,rfl⟩
   have hp : 1 <= x.f0:=by
    rcases hx with hx | ⟨rfl,hb⟩
    ·exact (elem_pos (hg x hx).2.1 (hg x hx).1).1
    ·exact (elem_pos hE hb).1
   refine ⟨⟨x, ?_,rfl⟩,by rw [z0_begin hp]; rfl⟩
   unfold needRaw
   rw [List.mem_append,List.mem_cons]
   rcases hx with hx | ⟨rfl,_⟩
   ·exact .inl hx
   ·exact .inr (.inl rfl)
 ·rw [if_neg h1] at h ⊢
  simp only [Bool.and_eq_true] at h
  obtain ⟨h2,h⟩:=h
  unfold toggleOk at h
  simp only [Bool.and_eq_true] at h
  have hb3 : Qak o.f3 = true:=h.1.1.2
  have h5 : o.f5 = []:=List.isEmpty_iff.1 h.2
  have hp:=(name_pos h.1.1.1.1.1.1).1
  constructor
  ·rintro ⟨⟨x,hx,rfl⟩,hb⟩
   unfold needRaw at hx
   rw [h5,List.nil_append,List.mem_cons,List.mem_singleton] at hx
   rcases hx with rfl | rfl
   ·rw [begin_iff] at hb3; rw [hb3] at hb; cases hb
   ·rfl
  ·rintro rfl
   refine ⟨⟨⟨o.f6,o.f7,0⟩, ?_,rfl⟩, ?_⟩
   ·unfold needRaw; rw [h5]; exact List.mem_cons_of_mem _ List.mem_cons_self
   ·have:=z0_begin (e:=⟨o.f6,o.f7,0⟩) hp
    show (!Qak (z0 ⟨o.f6,o.f7,0⟩)) = true
    rw [this]; rfl
theorem needs_len (o : SOp) : (needsL o).length <= o.f5.length + 2:=by
 unfold needsL compL
 refine Nat.le_trans (compN_le _ _) ?_
 unfold sortL
 rw [List.length_mergeSort]
 refine Nat.le_trans (List.length_filter_le _ _) ?_
 rw [List.length_map]; unfold needRaw; simp
end
end Go.Proofs.YtonoaflfobajcaaDoor.L
end

section
namespace Go.Proofs
open Go.Shelf
def Tryd.lays197_ren : Go.Shelf.Ren:=⟨fun | 197 => 112 | 260 => 135 | n => n,fun | 9 => 9 | 21 => 21 | 3 => 3 | 4 => 4 | 5 => 5 | 105 => 119 | 119 => 156 | 0 => 0 | 46 => 99 | 139 => 159 | 138 => 158 | n => n,fun | 3 => 0 | 4 => 1 | n => n⟩
theorem Tryd.lays197 : Go.Proofs.Lays.n197 Tryd.prog Tryd.lays197_ren:={
 mixed:=by kernel_rfl
 f197:=Tryd.func112.trans (congrArg some (by kernel_rfl))
 f260:=Tryd.func135.trans (congrArg some (by kernel_rfl))
 t0:=Tryd.underlying0
 a0:=Tryd.isAgg0
 z0:=Tryd.sizeOf0
 v0:=Tryd.zeroValue0
 t3:=Tryd.underlying3
 a3:=Tryd.isAgg3
 z3:=Tryd.sizeOf3
 v3:=Tryd.zeroValue3
 t4:=Tryd.underlying4
 a4:=Tryd.isAgg4
 z4:=Tryd.sizeOf4
 v4:=Tryd.zeroValue4
 t5:=Tryd.underlying5
 a5:=Tryd.isAgg5
 z5:=Tryd.sizeOf5
 v5:=Tryd.zeroValue5
 t9:=Tryd.underlying9
 a9:=Tryd.isAgg9
 z9:=Tryd.sizeOf9
 v9:=Tryd.zeroValue9
 t21:=Tryd.underlying21
 a21:=Tryd.isAgg21
 z21:=Tryd.sizeOf21
 v21:=Tryd.zeroValue21
 t46:=Tryd.underlying99
 a46:=Tryd.isAgg99
 z46:=Tryd.sizeOf99
 v46:=Tryd.zeroValue99
 t105:=Tryd.underlying119
 a105:=Tryd.isAgg119
 z105:=Tryd.sizeOf119
 v105:=Tryd.zeroValue119
 t119:=Tryd.underlying156
 a119:=Tryd.isAgg156
 z119:=Tryd.sizeOf156
 t138:=Tryd.underlying158
 a138:=Tryd.isAgg158
 z138:=Tryd.sizeOf158
 v138:=Tryd.zeroValue158
 t139:=Tryd.underlying159
 a139:=Tryd.isAgg159
 z139:=Tryd.sizeOf159
 v139:=Tryd.zeroValue159
 g3:=by kernel_rfl
 g4:=by kernel_rfl }
def Tryd.lays260_ren : Go.Shelf.Ren:=⟨fun | 260 => 135 | n => n,fun | 9 => 9 | 21 => 21 | 3 => 3 | 4 => 4 | 5 => 5 | 119 => 156 | 0 => 0 | 46 => 99 | 139 => 159 | 138 => 158 | n => n,fun | 3 => 0 | 4 => 1 | n => n⟩
theorem Tryd.lays260 : Go.Proofs.Lays.n260 Tryd.prog Tryd.lays260_ren:={
 mixed:=by kernel_rfl
 f260:=Tryd.func135.trans (congrArg some (by kernel_rfl))
 t0:=Tryd.underlying0
 a0:=Tryd.isAgg0
 z0:=Tryd.sizeOf0
 v0:=Tryd.zeroValue0
 t3:=Tryd.underlying3
 a3:=Tryd.isAgg3
 z3:=Tryd.sizeOf3
 v3:=Tryd.zeroValue3
 t4:=Tryd.underlying4
 a4:=Tryd.isAgg4
 z4:=Tryd.sizeOf4
 v4:=Tryd.zeroValue4
 t5:=Tryd.underlying5
 a5:=Tryd.isAgg5
 z5:=Tryd.sizeOf5
 v5:=Tryd.zeroValue5
 t9:=Tryd.underlying9
 a9:=Tryd.isAgg9
 z9:=Tryd.sizeOf9
 v9:=Tryd.zeroValue9
 t21:=Tryd.underlying21
 a21:=Tryd.isAgg21
 z21:=Tryd.sizeOf21
 v21:=Tryd.zeroValue21
 t46:=Tryd.underlying99
 a46:=Tryd.isAgg99
 z46:=Tryd.sizeOf99
 v46:=Tryd.zeroValue99
 t119:=Tryd.underlying156
 a119:=Tryd.isAgg156
 z119:=Tryd.sizeOf156
 t138:=Tryd.underlying158
 a138:=Tryd.isAgg158
 z138:=Tryd.sizeOf158
 v138:=Tryd.zeroValue158
 t139:=Tryd.underlying159
 a139:=Tryd.isAgg159
 z139:=Tryd.sizeOf159
 v139:=Tryd.zeroValue159
 g3:=by kernel_rfl
 g4:=by kernel_rfl }
end Go.Proofs
namespace Go.Proofs.YtonoaflfobajcaaDoor.L
open Go.RowKit Go.Proofs.YtonoaflfobajcaaDoorW.PrintWords
def utf8_DecodeRuneInString.f (a0 : ByteArray) : Option (Int × Int):=some (((Lib.decodeGo a0).1 : Int),((Lib.decodeGo a0).2 : Int))
theorem utf8_DecodeRuneInString.calls (a0 : ByteArray) (r1 : Int) (r2 : Int) (w : World) (hT : GT w) (h : utf8_DecodeRuneInString.f a0 = some (r1,r2)) :
  Calls Tryd.prog 112 #[.string a0] w fun e w' => e = .returned (.tuple #[.int .i32 r1, .int .i64 r2]) /\ Below w.heap.size w w':=by
 unfold utf8_DecodeRuneInString.f at h
 injection h with h
 injection h with h1 h2
 subst h1 h2
 exact Any.utf8_DecodeRuneInString Tryd.lays197 a0 w hT
end Go.Proofs.YtonoaflfobajcaaDoor.L
end

section
namespace Go.Proofs.YtonoaflfobajcaaDoor.L
open Go.RowKit Go.Proofs.YtonoaflfobajcaaDoorW.PrintWords Go.Proofs.YtonoaflfobajcaaDoorW.PrintLast Go.Proofs.YtonoaflfobajcaaDoorW.PrintMore
set_option linter.unusedVariables false
set_option linter.unusedSimpArgs false
set_option maxHeartbeats 40000000
set_option maxRecDepth 1000000
section
attribute [local go_sem] Qbq Qbo Qcd Qcc Qba Qaz Qbp Qbn
def r1_Rune.f (a0 : Int) : Option (Bool):=if a0 = 10 then (some true) else (if a0 >= 32 then (if a0 <= 55295 then (if a0 = 127 then (if a0 >= 57344 then (if a0 <= 1114111 then (some (a0 != 65533)) else (some false)) else (some false)) else (some true)) else (if a0 >= 57344 then (if a0 <= 1114111 then (some (a0 != 65533)) else (some false)) else (some false))) else (if a0 >= 57344 then (if a0 <= 1114111 then (some (a0 != 65533)) else (some false)) else (some false)))
theorem r1_Rune.calls (a0 : Int) (r : Bool) (w : World) (h : r1_Rune.f a0 = some r) :
  Calls Tryd.prog 113 #[.int .i32 a0] w fun e w' => e = .returned (.bool r) /\ Drawn0 w w':=by
 unfold r1_Rune.f at h; have H:=h
 clear h
 by_cases c2 : a0 = 10
 ·rw [if_pos c2] at H
  obtain ⟨c2b0,c2b1⟩:=bT c2
  clear c2
  obtain rfl:=Zo H
  go_enter Tryd.func113,Tryd.ntmps113
  go_wp2
  go_ret
  exact ⟨rf,by repeat (first | exact Drawn0.refl _ | apply Drawn0.step)⟩
 rw [if_neg c2] at H
 obtain ⟨c2b0,c2b1⟩:=bF c2
 by_cases c3 : a0 >= 32; rotate_left
 ·rw [if_neg c3] at H
  have c3b0:=Ze c3
  clear c3
  by_cases c10 : a0 >= 57344; rotate_left
  ·rw [if_neg c10] at H
   have c10b0:=Ze c10
   clear c10
   obtain rfl:=Zo H
   go_enter Tryd.func113,Tryd.ntmps113
   go_wp2
   go_ret
   exact ⟨rf,by repeat (first | exact Drawn0.refl _ | apply Drawn0.step)⟩
  rw [if_pos c10] at H
  have c10b0:=Zd c10
  clear c10
  by_cases c11 : a0 <= 1114111
  ·rw [if_pos c11] at H
   have c11b0:=Zd c11
   clear c11
   obtain rfl:=Zo H
   go_enter Tryd.func113,Tryd.ntmps113
   go_wp2
   go_ret
   exact ⟨rf,by repeat (first | exact Drawn0.refl _ | apply Drawn0.step)⟩
  rw [if_neg c11] at H
  have c11b0:=Ze c11
  clear c11
  obtain rfl:=Zo H
  go_enter Tryd.func113,Tryd.ntmps113
  go_wp2
  go_ret
  exact ⟨rf,by repeat (first | exact Drawn0.refl _ | apply Drawn0.step)⟩
 rw [if_pos c3] at H
 have c3b0:=Zd c3
 clear c3
 by_cases c4 : a0 <= 55295; rotate_left
 ·rw [if_neg c4] at H
  have c4b0:=Ze c4
  clear c4
  by_cases c8 : a0 >= 57344; rotate_left
  ·rw [if_neg c8] at H
   have c8b0:=Ze c8
   clear c8
   obtain rfl:=Zo H
   go_enter Tryd.func113,Tryd.ntmps113
   go_wp2
   go_ret
   exact ⟨rf,by repeat (first | exact Drawn0.refl _ | apply Drawn0.step)⟩
  rw [if_pos c8] at H
  have c8b0:=Zd c8
  clear c8
  by_cases c9 : a0 <= 1114111
  ·rw [if_pos c9] at H
   have c9b0:=Zd c9
   clear c9
   obtain rfl:=Zo H
   go_enter Tryd.func113,Tryd.ntmps113
   go_wp2
   go_ret
   exact ⟨rf,by repeat (first | exact Drawn0.refl _ | apply Drawn0.step)⟩
  rw [if_neg c9] at H
  have c9b0:=Ze c9
  clear c9
  obtain rfl:=Zo H
  go_enter Tryd.func113,Tryd.ntmps113
  go_wp2
  go_ret
  exact ⟨rf,by repeat (first | exact Drawn0.refl _ | apply Drawn0.step)⟩
 rw [if_pos c4] at H
 have c4b0:=Zd c4
 clear c4
 by_cases c5 : a0 = 127; rotate_left
 ·rw [if_neg c5] at H
  obtain ⟨c5b0,c5b1⟩:=bF c5
  obtain rfl:=Zo H
  go_enter Tryd.func113,Tryd.ntmps113
  go_wp2
  go_ret
  exact ⟨rf,by repeat (first | exact Drawn0.refl _ | apply Drawn0.step)⟩
 rw [if_pos c5] at H
 obtain ⟨c5b0,c5b1⟩:=bT c5
 clear c5
 by_cases c6 : a0 >= 57344; rotate_left
 ·rw [if_neg c6] at H
  have c6b0:=Ze c6
  clear c6
  obtain rfl:=Zo H
  go_enter Tryd.func113,Tryd.ntmps113
  go_wp2
  go_ret
  exact ⟨rf,by repeat (first | exact Drawn0.refl _ | apply Drawn0.step)⟩
 rw [if_pos c6] at H
 have c6b0:=Zd c6
 clear c6
 by_cases c7 : a0 <= 1114111
 ·rw [if_pos c7] at H
  have c7b0:=Zd c7
  clear c7
  obtain rfl:=Zo H
  go_enter Tryd.func113,Tryd.ntmps113
  go_wp2
  go_ret
  exact ⟨rf,by repeat (first | exact Drawn0.refl _ | apply Drawn0.step)⟩
 rw [if_neg c7] at H
 have c7b0:=Ze c7
 clear c7
 obtain rfl:=Zo H
 go_enter Tryd.func113,Tryd.ntmps113
 go_wp2
 go_ret
 exact ⟨rf,by repeat (first | exact Drawn0.refl _ | apply Drawn0.step)⟩
def r1_Runes.l0 : Nat -> ByteArray -> List Int -> Int -> Option (List Int × Bool)
 | 0,_,_,_ => none
 | k + 1,x0,x4,x5 => if x5 < (x0.size : Int) then (if 0 <= x5 then (if x5 <= (x0.size : Int) then ((utf8_DecodeRuneInString.f (x0.extract (x5 : Int).toNat x0.size)).bind fun bt186 => ((r1_Rune.f bt186.1).bind fun t188 => (if t188 = true then (if x4.length < 35184372088832 then (r1_Runes.l0 k x0 (x4 ++ [bt186.1]) (wrap64 (x5 + bt186.2))) else (none)) else (some (([] : List Int),false))))) else (none)) else (none)) else (some (x4,true))
def r1_Runes.f (k : Nat) (a0 : ByteArray) : Option (List Int × Bool):=r1_Runes.l0 k a0 ([] : List Int) 0
theorem r1_Runes.calls (k : Nat) (a0 : ByteArray) (r1 : List Int) (r2 : Bool) (w : World) (hT : GT w) (h : r1_Runes.f k a0 = some (r1,r2)) :
  Calls Tryd.prog 78 #[.string a0] w fun e w' => ∃ v0_ : Value,e = .returned (.tuple #[v0_, .bool r2]) /\ Kd.R (Kd.int .i32) 21 w' w.heap.size (fun _ => True) v0_ r1 /\ Below w.heap.size w w':=by
 have HB:=Zz.k (Below.refl w.heap.size w)
 unfold r1_Runes.f at h; have H:=h
 clear h
 have H':=Zz.k H
 clear H
 go_enter Tryd.func78,Tryd.ntmps78
 go_wp2
 go_loopg [4,5] k (fun kq v4 v5 w' => ∃ (x4_1 : List Int) (x5_1 : Int),v5 = .int .i64 x5_1 /\ Zz (r1_Runes.l0 kq a0 x4_1 x5_1 = some (r1,r2)) /\ Zz (kq <= k) /\ Zz (Kd.R (Kd.int .i32) 21 w' w.heap.size (fun _ => True) v4 x4_1) /\ Zz (Below w.heap.size w w'))
 case atStart => exact ⟨(([] : List Int)),(0),rf,H',⟨Nat.le_refl _⟩,⟨by first | exact Kd.R_nil _ _ _ _ _ | exact Kd.N_nil _ _ _ _ _ | exact Kd.V_nil _ _ _ _ _ | exact Kd.Q_nil _ _ _ _ _ | exact Kd.S_nil _ _ _ _ _⟩,⟨bw HB⟩⟩
 case round =>
  clear H'
  obtain ⟨x4_1,x5_1,rfl,HA,HK1,HO_4,HB⟩:=hrel
  cases gk with
  | zero => exact absurd HA.out (by simp [r1_Runes.l0])
  | succ k1 =>
   have H:=HA.out
   clear HA
   simp only [r1_Runes.l0] at H
   by_cases c2 : x5_1 < (a0.size : Int); rotate_left
   ·rw [if_neg c2] at H
    have c2b0:=Ze c2
    clear c2
    simp only [Option.some.injEq,Prod.mk.injEq] at H
    obtain ⟨rfl,rfl⟩:=H
    go_wp2
    go_ret2
    exact ⟨_,re,by (with_reducible repeat (first | apply Kd.R_alloc | apply Kd.R_drewN | apply Kd.R_drew)); exact HO_4.out,bw HB⟩
   rw [if_pos c2] at H
   have c2b0:=Zd c2
   clear c2
   by_cases c3 : 0 <= x5_1; rotate_left
   ·rw [if_neg c3] at H
    exact absurd H (by simp)
   rw [if_pos c3] at H
   have c3b0:=eq_true c3
   have c3b1:=Zd c3
   clear c3
   by_cases c4 : x5_1 <= (a0.size : Int); rotate_left
   ·rw [if_neg c4] at H
    exact absurd H (by simp)
   rw [if_pos c4] at H
   have c4b0:=eq_true c4
   have c4b1:=Zd c4
   clear c4
   obtain ⟨⟨t186,t187⟩,A5,H⟩:=bE H
   try dsimp only at H
   obtain ⟨t188,A6,H⟩:=bE H
   by_cases c7 : t188 = true; rotate_left
   ·replace c7:=Zf c7
    subst c7
    rw [if_neg nft] at H
    simp only [Option.some.injEq,Prod.mk.injEq] at H
    obtain ⟨rfl,rfl⟩:=H
    go_wp2_with (first | ((with_reducible refine Qab (f:=112) rfl ?_); refine gl (some 16) Tryd.func112 #[.string (a0.extract (x5_1 : Int).toNat a0.size)] (h := ?_); (with_reducible refine (utf8_DecodeRuneInString.calls (a0.extract (x5_1 : Int).toNat a0.size) t186 t187 _ ?side1 A5.out).mono ?_); (case side1 => exact (hT.below (bw HB))); rintro e w11 ⟨rfl,hb⟩; refine ⟨_,rfl, ?_⟩; replace HO_4:=rb HO_4 hb; replace HB:=bs HB hb; clear hb) | ((with_reducible refine Qab (f:=113) rfl ?_); refine gl (some 20) Tryd.func113 #[.int .i32 t186] (h := ?_); (with_reducible refine (r1_Rune.calls t186 false _ A6.out).mono ?_); rintro e w' ⟨rfl,⟨nd,rfl⟩⟩; refine ⟨_,rfl, ?_⟩))
    go_ret2
    exact ⟨_,re,by first | exact Kd.R_nil _ _ _ _ _ | exact Kd.N_nil _ _ _ _ _ | exact Kd.V_nil _ _ _ _ _ | exact Kd.Q_nil _ _ _ _ _ | exact Kd.S_nil _ _ _ _ _,bw HB⟩
   subst c7
   rw [if_pos rfl] at H
   by_cases c8 : x4_1.length < 35184372088832; rotate_left
   ·rw [if_neg c8] at H
    exact absurd H (by simp)
   rw [if_pos c8] at H
   have LMc8:=Zz.k c8
   clear c8
   obtain ⟨y189,hy189⟩ : ∃ y_ : List Int,y_ = (x4_1 ++ [t186]):=⟨_,rfl⟩
   first | rw [Option.bind_some,<- hy189] at H | rw [<- hy189] at H
   have Ny189:=Zz.k hy189
   clear hy189
   have H':=Zz.k H
   clear H
   go_wp2_with (first | ((with_reducible refine Qab (f:=112) rfl ?_); refine gl (some 16) Tryd.func112 #[.string (a0.extract (x5_1 : Int).toNat a0.size)] (h := ?_); (with_reducible refine (utf8_DecodeRuneInString.calls (a0.extract (x5_1 : Int).toNat a0.size) t186 t187 _ ?side1 A5.out).mono ?_); (case side1 => exact (hT.below (bw HB))); rintro e w9 ⟨rfl,hb⟩; refine ⟨_,rfl, ?_⟩; replace HO_4:=rb HO_4 hb; replace HB:=bs HB hb; clear hb) | ((with_reducible refine Qab (f:=113) rfl ?_); refine gl (some 20) Tryd.func113 #[.int .i32 t186] (h := ?_); (with_reducible refine (r1_Rune.calls t186 true _ A6.out).mono ?_); rintro e w' ⟨rfl,⟨nd,rfl⟩⟩; refine ⟨_,rfl, ?_⟩) | ((with_reducible refine Qbr (b:=.append) (xs:=#[.tmp 22, .tmp 24]) rfl ?_); at_builtin; refine Kd.R_append (Kd.int .i32) (w0:=w) w.heap.size rfl (.tmp 22) (.tmp 24) 87 21 (.int .i32 0) 4 rfl Tryd.underlying87 info21 rfl (by decide) (by omega) u4 x4_1 t186 [.int .i32 t186] (fun _ => True) (fun _ => False) rfl rfl ?aP (fun _ hk => hk.elim) ?aF ?aO ?aB ?aS ?aL ?_; (case aP => exact rfl); (case aB => exact (bw HB)); (case aF => exact (fun _ _ => trivial)); (case aO => exact (rk HO_4)); (case aS => exact (Qao (bw HB))); (case aL => have:=LMc8.out; omega); intro v190 w10 ho hb hg hat; rw [<- Ny189.out] at ho; have n0_:=Zz.k (hb); have n1_:=Zz.k (ho); clear HB; clear HO_4; have HB:=n0_; have HO191:=n1_; clear n0_ n1_; clear ho hb hg hat))
   go_roundg k1
   case measure => have:=HK1.out; omega
   case rel => exact ⟨(y189),(wrap64 (x5_1 + t187)),rf,H',⟨by have:=HK1.out; omega⟩,⟨rk HO191⟩,⟨bw HB⟩⟩
def r4_own.f (a0_0 : Int) (a0_1 : Int) (a0_2 : Int) (a0_3 : Int) (a0_4 : Int) (a0_5 : Int) (a0_6 : ByteArray) (l0_7 : List (SElem)) (a0_8 : Int) (a0_9 : Int) (a0_10 : Int) (a1_0 : Int) (a1_1 : Int) (a1_2 : Int) : Option (Bool):=if a1_0 = a0_0 then (some (a1_1 == a0_1)) else (some false)
theorem r4_own.calls (a0_0 : Int) (a0_1 : Int) (a0_2 : Int) (a0_3 : Int) (a0_4 : Int) (a0_5 : Int) (a0_6 : ByteArray) (A0_7 : Option Addr) (c0_7 : Nat) (l0_7 : List (SElem)) (a0_8 : Int) (a0_9 : Int) (a0_10 : Int) (a1_0 : Int) (a1_1 : Int) (a1_2 : Int) (r : Bool) (w : World) (hr0_7 : Kd.C Qam w A0_7 l0_7.length l0_7) (hc0_7 : l0_7.length <= c0_7) (h : r4_own.f a0_0 a0_1 a0_2 a0_3 a0_4 a0_5 a0_6 l0_7 a0_8 a0_9 a0_10 a1_0 a1_1 a1_2 = some r) :
  Calls Tryd.prog 92 #[.agg #[.int .i64 a0_0, .int .i64 a0_1, .int .i64 a0_2, .int .i64 a0_3, .int .i64 a0_4, .int .i64 a0_5, .string a0_6, .slice A0_7 l0_7.length c0_7, .int .i64 a0_8, .int .i64 a0_9, .int .i64 a0_10], .agg #[.int .i64 a1_0, .int .i64 a1_1, .int .i64 a1_2]] w fun e w' => e = .returned (.bool r) /\ Below w.heap.size w w':=by
 have hu55:=Tryd.underlying55
 have hu43:=Tryd.underlying43
 have HR0_7:=Zz.k hr0_7
 have HC0_7:=Zz.k hc0_7
 clear hr0_7 hc0_7
 have HB:=Zz.k (Below.refl w.heap.size w)
 unfold r4_own.f at h; have H:=h
 clear h
 by_cases c3 : a1_0 = a0_0
 ·rw [if_pos c3] at H
  obtain ⟨c3b0,c3b1⟩:=bT c3
  clear c3
  obtain rfl:=Zo H
  go_enter Tryd.func92,Tryd.ntmps92
  go_wp2_with (first | ((with_reducible refine Qac (N:=2) rfl ?_); refine bx 2 #[.int .i64 a0_0, .int .i64 a0_1, .int .i64 a0_2, .int .i64 a0_3, .int .i64 a0_4, .int .i64 a0_5, .string a0_6, .slice A0_7 l0_7.length c0_7, .int .i64 a0_8, .int .i64 a0_9, .int .i64 a0_10] 55 (h := ?_); intro gb192 hg w4 hbox hb; have BK192:=Zz.k (hbox); have GW192:=bz HB hg; have GE192:=bz HB hg; replace HB:=bs HB hb; clear hb hbox hg) | ((with_reducible refine Qac (N:=3) rfl ?_); refine bx 3 #[.int .i64 a1_0, .int .i64 a1_1, .int .i64 a1_2] 43 (h := ?_); intro gb193 hg w5 hbox hb; have BK193:=Zz.k (hbox); have GW193:=bz HB hg; have GE193:=bz HB hg; have NB192_193:=bn BK192 hg; have NB193_192:=bm BK192 hg; replace BK192:=bl BK192 hb; replace HB:=bs HB hb; clear hb hbox hg; have hnb6:=NB193_192.out; have hnc6:=NB192_193.out; obtain ⟨_,_,_,_,_,_⟩:=kc3 BK193; obtain ⟨_,_,_,_,_,_,_,_,_,_,_,_,_,_,_,_,_,_,_,_,_,_⟩:=kc11 BK192))
  go_ret
  exact ⟨re,bw HB⟩
 rw [if_neg c3] at H
 obtain ⟨c3b0,c3b1⟩:=bF c3
 obtain rfl:=Zo H
 go_enter Tryd.func92,Tryd.ntmps92
 go_wp2_with (first | ((with_reducible refine Qac (N:=2) rfl ?_); refine bx 2 #[.int .i64 a0_0, .int .i64 a0_1, .int .i64 a0_2, .int .i64 a0_3, .int .i64 a0_4, .int .i64 a0_5, .string a0_6, .slice A0_7 l0_7.length c0_7, .int .i64 a0_8, .int .i64 a0_9, .int .i64 a0_10] 55 (h := ?_); intro gb192 hg w9 hbox hb; have BK192:=Zz.k (hbox); have GW192:=bz HB hg; have GE192:=bz HB hg; replace HB:=bs HB hb; clear hb hbox hg) | ((with_reducible refine Qac (N:=3) rfl ?_); refine bx 3 #[.int .i64 a1_0, .int .i64 a1_1, .int .i64 a1_2] 43 (h := ?_); intro gb193 hg w10 hbox hb; have BK193:=Zz.k (hbox); have GW193:=bz HB hg; have GE193:=bz HB hg; have NB192_193:=bn BK192 hg; have NB193_192:=bm BK192 hg; replace BK192:=bl BK192 hb; replace HB:=bs HB hb; clear hb hbox hg; have hnb11:=NB193_192.out; have hnc11:=NB192_193.out; obtain ⟨_,_,_,_,_,_⟩:=kc3 BK193; obtain ⟨_,_,_,_,_,_,_,_,_,_,_,_,_,_,_,_,_,_,_,_,_,_⟩:=kc11 BK192))
 go_ret
 exact ⟨re,bw HB⟩
end
section
attribute [local go_sem] Qbq Qbo Qcd Qcc Qba Qaz Qbp Qbn
def w4_num.f (a0 : Int) : Option (Int):=some a0
theorem w4_num.calls (a0 : Int) (r : Int) (w : World) (h : w4_num.f a0 = some r) :
  Calls Tryd.prog 42 #[.int .i64 a0] w fun e w' => e = .returned (.int .i64 r) /\ Drawn0 w w':=by
 unfold w4_num.f at h; have H:=h
 clear h
 obtain rfl:=Zo H
 go_enter Tryd.func42,Tryd.ntmps42
 go_wp2
 go_ret
 exact ⟨rf,by repeat (first | exact Drawn0.refl _ | apply Drawn0.step)⟩
def op_Check.f (k : Nat) (a0_0 : Int) (a0_1 : Int) (a0_2 : Int) (a0_3 : Int) (a0_4 : Int) (a0_5 : Int) (a0_6 : ByteArray) (l0_7 : List (SElem)) (a0_8 : Int) (a0_9 : Int) (a0_10 : Int) : Option (Int):=(op_May.f k a0_0 a0_1 a0_2 a0_3 a0_4 a0_5 a0_6 l0_7 a0_8 a0_9 a0_10).bind fun t219 => (if t219 = true then (some 0) else (some 1))
theorem op_Check.mono : ∀ a0 a1 a2 a3 a4 a5 a6 a7 a8 a9 a10 k,LeO (op_Check.f k a0 a1 a2 a3 a4 a5 a6 a7 a8 a9 a10) (op_Check.f (k + 1) a0 a1 a2 a3 a4 a5 a6 a7 a8 a9 a10):=by
 intro a0 a1 a2 a3 a4 a5 a6 a7 a8 a9 a10 k
 unfold op_Check.f
 repeat' first
   | (with_reducible exact op_May.mono _ _ _ _ _ _ _ _ _ _ _ _)
   | (with_reducible exact LeO.refl _)
   | (with_reducible exact LeO.none _)
   | (with_reducible refine LeO.ite ?_ ?_)
   | (with_reducible refine LeO.bind ?_ (fun _ => ?_))
   | exact op_May.mono _ _ _ _ _ _ _ _ _ _ _ _
   | exact LeO.none _
   | refine LeO.ite ?_ ?_
   | refine LeO.bind ?_ (fun _ => ?_)
theorem op_Check.calls (k : Nat) (a0_0 : Int) (a0_1 : Int) (a0_2 : Int) (a0_3 : Int) (a0_4 : Int) (a0_5 : Int) (a0_6 : ByteArray) (A0_7 : Option Addr) (c0_7 : Nat) (l0_7 : List (SElem)) (a0_8 : Int) (a0_9 : Int) (a0_10 : Int) (r : Int) (w : World) (hr0_7 : Kd.C Qam w A0_7 l0_7.length l0_7) (hc0_7 : l0_7.length <= c0_7) (h : op_Check.f k a0_0 a0_1 a0_2 a0_3 a0_4 a0_5 a0_6 l0_7 a0_8 a0_9 a0_10 = some r) :
  Calls Tryd.prog 43 #[.agg #[.int .i64 a0_0, .int .i64 a0_1, .int .i64 a0_2, .int .i64 a0_3, .int .i64 a0_4, .int .i64 a0_5, .string a0_6, .slice A0_7 l0_7.length c0_7, .int .i64 a0_8, .int .i64 a0_9, .int .i64 a0_10]] w fun e w' => e = .returned (.int .i64 r) /\ Below w.heap.size w w':=by
 have hu55:=Tryd.underlying55
 have HR0_7:=Zz.k hr0_7
 have HC0_7:=Zz.k hc0_7
 clear hr0_7 hc0_7
 have HB:=Zz.k (Below.refl w.heap.size w)
 unfold op_Check.f at h; have H:=h
 clear h
 obtain ⟨t219,A2,H⟩:=bE H
 by_cases c3 : t219 = true
 ·subst c3
  rw [if_pos rfl] at H
  obtain rfl:=Zo H
  go_enter Tryd.func43,Tryd.ntmps43
  go_wp2_with (first | ((with_reducible refine Qac (N:=1) rfl ?_); refine bx 1 #[.int .i64 a0_0, .int .i64 a0_1, .int .i64 a0_2, .int .i64 a0_3, .int .i64 a0_4, .int .i64 a0_5, .string a0_6, .slice A0_7 l0_7.length c0_7, .int .i64 a0_8, .int .i64 a0_9, .int .i64 a0_10] 55 (h := ?_); intro gb218 hg w4 hbox hb; have BK218:=Zz.k (hbox); have GW218:=bz HB hg; have GE218:=bz HB hg; replace HB:=bs HB hb; clear hb hbox hg; obtain ⟨_,_,_,_,_,_,_,_,_,_,_,_,_,_,_,_,_,_,_,_,_,_⟩:=kc11 BK218) | ((with_reducible refine Qab (f:=84) rfl ?_); refine gl (some 4) Tryd.func84 #[.agg #[.int .i64 a0_0, .int .i64 a0_1, .int .i64 a0_2, .int .i64 a0_3, .int .i64 a0_4, .int .i64 a0_5, .string a0_6, .slice A0_7 l0_7.length c0_7, .int .i64 a0_8, .int .i64 a0_9, .int .i64 a0_10]] (h := ?_); (with_reducible refine (op_May.calls k a0_0 a0_1 a0_2 a0_3 a0_4 a0_5 a0_6 _ _ l0_7 a0_8 a0_9 a0_10 true _ ?side1 ?side2 A2.out).mono ?_); (case side1 => exact cb HR0_7 HB); (case side2 => exact HC0_7.out); rintro e w6 ⟨rfl,hb⟩; refine ⟨_,rfl, ?_⟩; replace BK218:=bl BK218 hb; replace HB:=bs HB hb; clear hb))
  go_ret
  exact ⟨re,bw HB⟩
 replace c3:=Zf c3
 subst c3
 rw [if_neg nft] at H
 obtain rfl:=Zo H
 go_enter Tryd.func43,Tryd.ntmps43
 go_wp2_with (first | ((with_reducible refine Qac (N:=1) rfl ?_); refine bx 1 #[.int .i64 a0_0, .int .i64 a0_1, .int .i64 a0_2, .int .i64 a0_3, .int .i64 a0_4, .int .i64 a0_5, .string a0_6, .slice A0_7 l0_7.length c0_7, .int .i64 a0_8, .int .i64 a0_9, .int .i64 a0_10] 55 (h := ?_); intro gb218 hg w7 hbox hb; have BK218:=Zz.k (hbox); have GW218:=bz HB hg; have GE218:=bz HB hg; replace HB:=bs HB hb; clear hb hbox hg; obtain ⟨_,_,_,_,_,_,_,_,_,_,_,_,_,_,_,_,_,_,_,_,_,_⟩:=kc11 BK218) | ((with_reducible refine Qab (f:=84) rfl ?_); refine gl (some 4) Tryd.func84 #[.agg #[.int .i64 a0_0, .int .i64 a0_1, .int .i64 a0_2, .int .i64 a0_3, .int .i64 a0_4, .int .i64 a0_5, .string a0_6, .slice A0_7 l0_7.length c0_7, .int .i64 a0_8, .int .i64 a0_9, .int .i64 a0_10]] (h := ?_); (with_reducible refine (op_May.calls k a0_0 a0_1 a0_2 a0_3 a0_4 a0_5 a0_6 _ _ l0_7 a0_8 a0_9 a0_10 false _ ?side1 ?side2 A2.out).mono ?_); (case side1 => exact cb HR0_7 HB); (case side2 => exact HC0_7.out); rintro e w9 ⟨rfl,hb⟩; refine ⟨_,rfl, ?_⟩; replace BK218:=bl BK218 hb; replace HB:=bs HB hb; clear hb))
 go_ret
 exact ⟨re,bw HB⟩
end
section
attribute [local go_sem] Qbq Qbo Qcd Qcc Qba Qaz Qbp Qbn
attribute [local go_sem high] eqAElem
def op_All.l0 : Nat -> List (SElem) -> Int -> Int -> Int -> Int -> Int -> Int -> Int -> Int -> ByteArray -> List (SElem) -> Int -> Int -> Int -> Option ((List (SElem)))
 | 0,_,_,_,_,_,_,_,_,_,_,_,_,_,_ => none
 | k + 1,x2,x5,x6,x221000,x221001,x221002,x221003,x221004,x221005,x221006,x221007,x221008,x221009,x221010 => if x6 < x5 then ((op_At.f x221000 x221001 x221002 x221003 x221004 x221005 x221006 x221007 x221008 x221009 x221010 x6).bind fun bt222 => (if x2.length < 5864062014805 then (op_All.l0 k (x2 ++ [(⟨bt222.1,bt222.2.1,bt222.2.2⟩ : SElem)]) x5 (wrap64 (x6 + 1)) x221000 x221001 x221002 x221003 x221004 x221005 x221006 x221007 x221008 x221009 x221010) else (none))) else (some x2)
def op_All.f (k : Nat) (a0_0 : Int) (a0_1 : Int) (a0_2 : Int) (a0_3 : Int) (a0_4 : Int) (a0_5 : Int) (a0_6 : ByteArray) (l0_7 : List (SElem)) (a0_8 : Int) (a0_9 : Int) (a0_10 : Int) : Option ((List (SElem))):=(op_Size.f a0_0 a0_1 a0_2 a0_3 a0_4 a0_5 a0_6 l0_7 a0_8 a0_9 a0_10).bind fun t221 => (op_All.l0 k ([] : List (SElem)) t221 0 a0_0 a0_1 a0_2 a0_3 a0_4 a0_5 a0_6 l0_7 a0_8 a0_9 a0_10)
theorem op_All.mono_l : ∀ k,(∀ y0 y1 y2 y3 y4 y5 y6 y7 y8 y9 y10 y11 y12 y13,LeO (op_All.l0 k y0 y1 y2 y3 y4 y5 y6 y7 y8 y9 y10 y11 y12 y13) (op_All.l0 (k + 1) y0 y1 y2 y3 y4 y5 y6 y7 y8 y9 y10 y11 y12 y13))
 | 0 => fun _ _ _ _ _ _ _ _ _ _ _ _ _ _ r h => by simp [op_All.l0] at h
 | k + 1 => by
  have ih0:=op_All.mono_l k
  ·intro y0 y1 y2 y3 y4 y5 y6 y7 y8 y9 y10 y11 y12 y13
   unfold op_All.l0
   repeat' first
   | (with_reducible exact ih0 _ _ _ _ _ _ _ _ _ _ _ _ _ _)
   | (with_reducible exact LeO.refl _)
   | (with_reducible exact LeO.none _)
   | (with_reducible refine LeO.ite ?_ ?_)
   | (with_reducible refine LeO.bind ?_ (fun _ => ?_))
   | exact ih0 _ _ _ _ _ _ _ _ _ _ _ _ _ _
   | exact LeO.none _
   | refine LeO.ite ?_ ?_
   | refine LeO.bind ?_ (fun _ => ?_)
theorem op_All.mono : ∀ a0 a1 a2 a3 a4 a5 a6 a7 a8 a9 a10 k,LeO (op_All.f k a0 a1 a2 a3 a4 a5 a6 a7 a8 a9 a10) (op_All.f (k + 1) a0 a1 a2 a3 a4 a5 a6 a7 a8 a9 a10):=by
 intro a0 a1 a2 a3 a4 a5 a6 a7 a8 a9 a10 k
 have ih0:=op_All.mono_l k
 unfold op_All.f
 repeat' first
   | (with_reducible exact ih0 _ _ _ _ _ _ _ _ _ _ _ _ _ _)
   | (with_reducible exact LeO.refl _)
   | (with_reducible exact LeO.none _)
   | (with_reducible refine LeO.ite ?_ ?_)
   | (with_reducible refine LeO.bind ?_ (fun _ => ?_))
   | exact ih0 _ _ _ _ _ _ _ _ _ _ _ _ _ _
   | exact LeO.none _
   | refine LeO.ite ?_ ?_
   | refine LeO.bind ?_ (fun _ => ?_)
theorem op_All.calls (k : Nat) (a0_0 : Int) (a0_1 : Int) (a0_2 : Int) (a0_3 : Int) (a0_4 : Int) (a0_5 : Int) (a0_6 : ByteArray) (A0_7 : Option Addr) (c0_7 : Nat) (l0_7 : List (SElem)) (a0_8 : Int) (a0_9 : Int) (a0_10 : Int) (r : List (SElem)) (w : World) (hr0_7 : Kd.C Qam w A0_7 l0_7.length l0_7) (hc0_7 : l0_7.length <= c0_7) (h : op_All.f k a0_0 a0_1 a0_2 a0_3 a0_4 a0_5 a0_6 l0_7 a0_8 a0_9 a0_10 = some r) :
  Calls Tryd.prog 93 #[.agg #[.int .i64 a0_0, .int .i64 a0_1, .int .i64 a0_2, .int .i64 a0_3, .int .i64 a0_4, .int .i64 a0_5, .string a0_6, .slice A0_7 l0_7.length c0_7, .int .i64 a0_8, .int .i64 a0_9, .int .i64 a0_10]] w fun e w' => ∃ v0_ : Value,e = .returned (v0_) /\ Kd.R Qam 43 w' w.heap.size (fun _ => True) v0_ r /\ Below w.heap.size w w':=by
 have hu55:=Tryd.underlying55
 have HR0_7:=Zz.k hr0_7
 have HC0_7:=Zz.k hc0_7
 clear hr0_7 hc0_7
 have HB:=Zz.k (Below.refl w.heap.size w)
 unfold op_All.f at h; have H:=h
 clear h
 obtain ⟨t221,A2,H⟩:=bE H
 have H':=Zz.k H
 clear H
 go_enter Tryd.func93,Tryd.ntmps93
 go_wp2_with (first | ((with_reducible refine Qac (N:=1) rfl ?_); refine bx 1 #[.int .i64 a0_0, .int .i64 a0_1, .int .i64 a0_2, .int .i64 a0_3, .int .i64 a0_4, .int .i64 a0_5, .string a0_6, .slice A0_7 l0_7.length c0_7, .int .i64 a0_8, .int .i64 a0_9, .int .i64 a0_10] 55 (h := ?_); intro gb220 hg w3 hbox hb; have BK220:=Zz.k (hbox); have GW220:=bz HB hg; have GE220:=bz HB hg; replace HB:=bs HB hb; clear hb hbox hg; obtain ⟨_,_,_,_,_,_,_,_,_,_,_,_,_,_,_,_,_,_,_,_,_,_⟩:=kc11 BK220) | ((with_reducible refine Qab (f:=95) rfl ?_); refine gl (some 5) Tryd.func95 #[.agg #[.int .i64 a0_0, .int .i64 a0_1, .int .i64 a0_2, .int .i64 a0_3, .int .i64 a0_4, .int .i64 a0_5, .string a0_6, .slice A0_7 l0_7.length c0_7, .int .i64 a0_8, .int .i64 a0_9, .int .i64 a0_10]] (h := ?_); (with_reducible refine (op_Size.calls a0_0 a0_1 a0_2 a0_3 a0_4 a0_5 a0_6 _ _ l0_7 a0_8 a0_9 a0_10 t221 _ ?side1 ?side2 A2.out).mono ?_); (case side1 => exact cb HR0_7 HB); (case side2 => exact HC0_7.out); rintro e w5 ⟨rfl,hb⟩; refine ⟨_,rfl, ?_⟩; replace BK220:=bl BK220 hb; replace HB:=bs HB hb; clear hb))
 go_loopg [2,6] k (fun kq v2 v6 w' => ∃ (x2_1 : List (SElem)) (x6_1 : Int),v6 = .int .i64 x6_1 /\ Zz (op_All.l0 kq x2_1 t221 x6_1 a0_0 a0_1 a0_2 a0_3 a0_4 a0_5 a0_6 l0_7 a0_8 a0_9 a0_10 = some r) /\ Zz (kq <= k) /\ Zz (Kd.R Qam 43 w' w.heap.size (fun _ => True) v2 x2_1) /\ Zz (w'.heap[gb220]? = some (.cells #[.int .i64 a0_0, .int .i64 a0_1, .int .i64 a0_2, .int .i64 a0_3, .int .i64 a0_4, .int .i64 a0_5, .string a0_6,(.slice A0_7 l0_7.length c0_7), .int .i64 a0_8, .int .i64 a0_9, .int .i64 a0_10] 55 (0,0))) /\ Zz (Below w.heap.size w w'))
 case atStart => exact ⟨(([] : List (SElem))),(0),rf,H',⟨Nat.le_refl _⟩,⟨by first | exact Kd.R_nil _ _ _ _ _ | exact Kd.N_nil _ _ _ _ _ | exact Kd.V_nil _ _ _ _ _ | exact Kd.Q_nil _ _ _ _ _ | exact Kd.S_nil _ _ _ _ _⟩,⟨kk BK220⟩,⟨bw HB⟩⟩
 case round =>
  clear H'
  obtain ⟨x2_1,x6_1,rfl,HA,HK1,HO_2,BK220,HB⟩:=hrel
  cases gk with
  | zero => exact absurd HA.out (by simp [op_All.l0])
  | succ k1 =>
   have H:=HA.out
   clear HA
   simp only [op_All.l0] at H
   by_cases c6 : x6_1 < t221; rotate_left
   ·rw [if_neg c6] at H
    have c6b0:=Ze c6
    clear c6
    obtain rfl:=Zo H
    go_wp2
    go_ret
    exact ⟨_,re,by (with_reducible repeat (first | apply Kd.R_alloc | apply Kd.R_drewN | apply Kd.R_drew)); exact HO_2.out,bw HB⟩
   rw [if_pos c6] at H
   have c6b0:=Zd c6
   clear c6
   obtain ⟨⟨t222,t223,t224⟩,A7,H⟩:=bE H
   try dsimp only at H
   by_cases c8 : x2_1.length < 5864062014805; rotate_left
   ·rw [if_neg c8] at H
    exact absurd H (by simp)
   rw [if_pos c8] at H
   have LMc8:=Zz.k c8
   clear c8
   obtain ⟨y225,hy225⟩ : ∃ y_ : List (SElem),y_ = (x2_1 ++ [(⟨t222,t223,t224⟩ : SElem)]):=⟨_,rfl⟩
   first | rw [Option.bind_some,<- hy225] at H | rw [<- hy225] at H
   have Ny225:=Zz.k hy225
   clear hy225
   have H':=Zz.k H
   clear H
   obtain ⟨_,_,_,_,_,_,_,_,_,_,_,_,_,_,_,_,_,_,_,_,_,_⟩:=kc11 BK220
   go_wp2_with (first | ((with_reducible refine Qab (f:=96) rfl ?_); refine gl (some 12) Tryd.func96 #[.agg #[.int .i64 a0_0, .int .i64 a0_1, .int .i64 a0_2, .int .i64 a0_3, .int .i64 a0_4, .int .i64 a0_5, .string a0_6, .slice A0_7 l0_7.length c0_7, .int .i64 a0_8, .int .i64 a0_9, .int .i64 a0_10], .int .i64 x6_1] (h := ?_); (with_reducible refine (op_At.calls a0_0 a0_1 a0_2 a0_3 a0_4 a0_5 a0_6 _ _ l0_7 a0_8 a0_9 a0_10 x6_1 t222 t223 t224 _ ?side1 ?side2 A7.out).mono ?_); (case side1 => exact cb HR0_7 HB); (case side2 => exact HC0_7.out); rintro e w10 ⟨rfl,hb⟩; refine ⟨_,rfl, ?_⟩; replace HO_2:=rb HO_2 hb; replace BK220:=bl BK220 hb; replace HB:=bs HB hb; clear hb) | ((with_reducible refine Qbr (b:=.append) (xs:=#[.tmp 9, .tmp 13]) rfl ?_); at_builtin; refine Kd.R_append Qam (w0:=w) w.heap.size rfl (.tmp 9) (.tmp 13) 23 43 (.agg #[(.int .i64 0),(.int .i64 0),(.int .i64 0)]) 24 rfl Tryd.underlying23 info43 rfl (by decide) (by omega) u2 x2_1 (⟨t222,t223,t224⟩ : SElem) [.int .i64 t222, .int .i64 t223, .int .i64 t224] (fun _ => True) (fun _ => False) rfl rfl ?aP (fun _ hk => hk.elim) ?aF ?aO ?aB ?aS ?aL ?_; (case aP => exact Qan _ _ _ (⟨t222,t223,t224⟩ : SElem)); (case aB => exact (bw HB)); (case aF => exact (fun _ _ => trivial)); (case aO => exact (rk HO_2)); (case aS => exact (Qao (bw HB))); (case aL => have:=LMc8.out; omega); intro v226 w11 ho hb hg hat; rw [<- Ny225.out] at ho; have n0_:=Zz.k (Qbg (kk BK220) hg (Kd.R_ne HO_2.out BK220.out (by decide))); have n1_:=Zz.k (hb); have n2_:=Zz.k (ho); clear BK220; clear HB; clear HO_2; have BK220:=n0_; have HB:=n1_; have HO227:=n2_; clear n0_ n1_ n2_; clear ho hb hg hat))
   go_roundg k1
   case measure => have:=HK1.out; omega
   case rel => exact ⟨(y225),(wrap64 (x6_1 + 1)),rf,H',⟨by have:=HK1.out; omega⟩,⟨rk HO227⟩,⟨kk BK220⟩,⟨bw HB⟩⟩
def op_Elems.f (k : Nat) (a0_0 : Int) (a0_1 : Int) (a0_2 : Int) (a0_3 : Int) (a0_4 : Int) (a0_5 : Int) (a0_6 : ByteArray) (l0_7 : List (SElem)) (a0_8 : Int) (a0_9 : Int) (a0_10 : Int) : Option ((List (SElem)) × Int):=(op_May.f k a0_0 a0_1 a0_2 a0_3 a0_4 a0_5 a0_6 l0_7 a0_8 a0_9 a0_10).bind fun t229 => (if t229 = true then ((op_All.f k a0_0 a0_1 a0_2 a0_3 a0_4 a0_5 a0_6 l0_7 a0_8 a0_9 a0_10).bind fun t230 => (some (t230,0))) else (some (([] : List (SElem)),1)))
theorem op_Elems.mono : ∀ a0 a1 a2 a3 a4 a5 a6 a7 a8 a9 a10 k,LeO (op_Elems.f k a0 a1 a2 a3 a4 a5 a6 a7 a8 a9 a10) (op_Elems.f (k + 1) a0 a1 a2 a3 a4 a5 a6 a7 a8 a9 a10):=by
 intro a0 a1 a2 a3 a4 a5 a6 a7 a8 a9 a10 k
 unfold op_Elems.f
 repeat' first
   | (with_reducible exact op_All.mono _ _ _ _ _ _ _ _ _ _ _ _)
   | (with_reducible exact op_May.mono _ _ _ _ _ _ _ _ _ _ _ _)
   | (with_reducible exact LeO.refl _)
   | (with_reducible exact LeO.none _)
   | (with_reducible refine LeO.ite ?_ ?_)
   | (with_reducible refine LeO.bind ?_ (fun _ => ?_))
   | exact op_All.mono _ _ _ _ _ _ _ _ _ _ _ _
   | exact op_May.mono _ _ _ _ _ _ _ _ _ _ _ _
   | exact LeO.none _
   | refine LeO.ite ?_ ?_
   | refine LeO.bind ?_ (fun _ => ?_)
theorem op_Elems.calls (k : Nat) (a0_0 : Int) (a0_1 : Int) (a0_2 : Int) (a0_3 : Int) (a0_4 : Int) (a0_5 : Int) (a0_6 : ByteArray) (A0_7 : Option Addr) (c0_7 : Nat) (l0_7 : List (SElem)) (a0_8 : Int) (a0_9 : Int) (a0_10 : Int) (r1 : List (SElem)) (r2 : Int) (w : World) (hr0_7 : Kd.C Qam w A0_7 l0_7.length l0_7) (hc0_7 : l0_7.length <= c0_7) (h : op_Elems.f k a0_0 a0_1 a0_2 a0_3 a0_4 a0_5 a0_6 l0_7 a0_8 a0_9 a0_10 = some (r1,r2)) :
  Calls Tryd.prog 47 #[.agg #[.int .i64 a0_0, .int .i64 a0_1, .int .i64 a0_2, .int .i64 a0_3, .int .i64 a0_4, .int .i64 a0_5, .string a0_6, .slice A0_7 l0_7.length c0_7, .int .i64 a0_8, .int .i64 a0_9, .int .i64 a0_10]] w fun e w' => ∃ v0_ : Value,e = .returned (.tuple #[v0_, .int .i64 r2]) /\ Kd.R Qam 43 w' w.heap.size (fun _ => True) v0_ r1 /\ Below w.heap.size w w':=by
 have hu55:=Tryd.underlying55
 have HR0_7:=Zz.k hr0_7
 have HC0_7:=Zz.k hc0_7
 clear hr0_7 hc0_7
 have HB:=Zz.k (Below.refl w.heap.size w)
 unfold op_Elems.f at h; have H:=h
 clear h
 obtain ⟨t229,A2,H⟩:=bE H
 by_cases c3 : t229 = true
 ·subst c3
  rw [if_pos rfl] at H
  obtain ⟨t230,A4,H⟩:=bE H
  simp only [Option.some.injEq,Prod.mk.injEq] at H
  obtain ⟨rfl,rfl⟩:=H
  go_enter Tryd.func47,Tryd.ntmps47
  go_wp2_with (first | ((with_reducible refine Qac (N:=1) rfl ?_); refine bx 1 #[.int .i64 a0_0, .int .i64 a0_1, .int .i64 a0_2, .int .i64 a0_3, .int .i64 a0_4, .int .i64 a0_5, .string a0_6, .slice A0_7 l0_7.length c0_7, .int .i64 a0_8, .int .i64 a0_9, .int .i64 a0_10] 55 (h := ?_); intro gb228 hg w5 hbox hb; have BK228:=Zz.k (hbox); have GW228:=bz HB hg; have GE228:=bz HB hg; replace HB:=bs HB hb; clear hb hbox hg; obtain ⟨_,_,_,_,_,_,_,_,_,_,_,_,_,_,_,_,_,_,_,_,_,_⟩:=kc11 BK228) | ((with_reducible refine Qab (f:=84) rfl ?_); refine gl (some 5) Tryd.func84 #[.agg #[.int .i64 a0_0, .int .i64 a0_1, .int .i64 a0_2, .int .i64 a0_3, .int .i64 a0_4, .int .i64 a0_5, .string a0_6, .slice A0_7 l0_7.length c0_7, .int .i64 a0_8, .int .i64 a0_9, .int .i64 a0_10]] (h := ?_); (with_reducible refine (op_May.calls k a0_0 a0_1 a0_2 a0_3 a0_4 a0_5 a0_6 _ _ l0_7 a0_8 a0_9 a0_10 true _ ?side1 ?side2 A2.out).mono ?_); (case side1 => exact cb HR0_7 HB); (case side2 => exact HC0_7.out); rintro e w7 ⟨rfl,hb⟩; refine ⟨_,rfl, ?_⟩; replace BK228:=bl BK228 hb; replace HB:=bs HB hb; clear hb; obtain ⟨_,_,_,_,_,_,_,_,_,_,_,_,_,_,_,_,_,_,_,_,_,_⟩:=kc11 BK228) | ((with_reducible refine Qab (f:=93) rfl ?_); refine gl (some 8) Tryd.func93 #[.agg #[.int .i64 a0_0, .int .i64 a0_1, .int .i64 a0_2, .int .i64 a0_3, .int .i64 a0_4, .int .i64 a0_5, .string a0_6, .slice A0_7 l0_7.length c0_7, .int .i64 a0_8, .int .i64 a0_9, .int .i64 a0_10]] (h := ?_); (with_reducible refine (op_All.calls k a0_0 a0_1 a0_2 a0_3 a0_4 a0_5 a0_6 _ _ l0_7 a0_8 a0_9 a0_10 t230 _ ?side1 ?side2 A4.out).mono ?_); (case side1 => exact cb HR0_7 HB); (case side2 => exact HC0_7.out); rintro e w9 ⟨v231,rfl,ho0,hb⟩; refine ⟨_,rfl, ?_⟩; have HO232:=Zz.k (Kd.R_lower ho0 (Qao (bw HB))); replace BK228:=bl BK228 hb; replace HB:=bs HB hb; clear hb; clear ho0))
  go_ret2
  exact ⟨_,re,by (with_reducible repeat (first | apply Kd.R_alloc | apply Kd.R_drewN | apply Kd.R_drew)); exact HO232.out,bw HB⟩
 replace c3:=Zf c3
 subst c3
 rw [if_neg nft] at H
 simp only [Option.some.injEq,Prod.mk.injEq] at H
 obtain ⟨rfl,rfl⟩:=H
 go_enter Tryd.func47,Tryd.ntmps47
 go_wp2_with (first | ((with_reducible refine Qac (N:=1) rfl ?_); refine bx 1 #[.int .i64 a0_0, .int .i64 a0_1, .int .i64 a0_2, .int .i64 a0_3, .int .i64 a0_4, .int .i64 a0_5, .string a0_6, .slice A0_7 l0_7.length c0_7, .int .i64 a0_8, .int .i64 a0_9, .int .i64 a0_10] 55 (h := ?_); intro gb228 hg w10 hbox hb; have BK228:=Zz.k (hbox); have GW228:=bz HB hg; have GE228:=bz HB hg; replace HB:=bs HB hb; clear hb hbox hg; obtain ⟨_,_,_,_,_,_,_,_,_,_,_,_,_,_,_,_,_,_,_,_,_,_⟩:=kc11 BK228) | ((with_reducible refine Qab (f:=84) rfl ?_); refine gl (some 5) Tryd.func84 #[.agg #[.int .i64 a0_0, .int .i64 a0_1, .int .i64 a0_2, .int .i64 a0_3, .int .i64 a0_4, .int .i64 a0_5, .string a0_6, .slice A0_7 l0_7.length c0_7, .int .i64 a0_8, .int .i64 a0_9, .int .i64 a0_10]] (h := ?_); (with_reducible refine (op_May.calls k a0_0 a0_1 a0_2 a0_3 a0_4 a0_5 a0_6 _ _ l0_7 a0_8 a0_9 a0_10 false _ ?side1 ?side2 A2.out).mono ?_); (case side1 => exact cb HR0_7 HB); (case side2 => exact HC0_7.out); rintro e w12 ⟨rfl,hb⟩; refine ⟨_,rfl, ?_⟩; replace BK228:=bl BK228 hb; replace HB:=bs HB hb; clear hb))
 go_ret2
 exact ⟨_,re,by first | exact Kd.R_nil _ _ _ _ _ | exact Kd.N_nil _ _ _ _ _ | exact Kd.V_nil _ _ _ _ _ | exact Kd.Q_nil _ _ _ _ _ | exact Kd.S_nil _ _ _ _ _,bw HB⟩
def op_Own.f (k : Nat) (a0_0 : Int) (a0_1 : Int) (a0_2 : Int) (a0_3 : Int) (a0_4 : Int) (a0_5 : Int) (a0_6 : ByteArray) (l0_7 : List (SElem)) (a0_8 : Int) (a0_9 : Int) (a0_10 : Int) (a1 : Int) : Option (Int × Int × Int × Int):=(op_May.f k a0_0 a0_1 a0_2 a0_3 a0_4 a0_5 a0_6 l0_7 a0_8 a0_9 a0_10).bind fun t235 => (if t235 = true then (if a1 < 0 then (some (0,0,0,2)) else ((op_Size.f a0_0 a0_1 a0_2 a0_3 a0_4 a0_5 a0_6 l0_7 a0_8 a0_9 a0_10).bind fun t236 => (if a1 >= t236 then (some (0,0,0,2)) else ((op_At.f a0_0 a0_1 a0_2 a0_3 a0_4 a0_5 a0_6 l0_7 a0_8 a0_9 a0_10 a1).bind fun bt237 => (some (bt237.1,bt237.2.1,bt237.2.2,0)))))) else (some (0,0,0,1)))
theorem op_Own.mono : ∀ a0 a1 a2 a3 a4 a5 a6 a7 a8 a9 a10 a11 k,LeO (op_Own.f k a0 a1 a2 a3 a4 a5 a6 a7 a8 a9 a10 a11) (op_Own.f (k + 1) a0 a1 a2 a3 a4 a5 a6 a7 a8 a9 a10 a11):=by
 intro a0 a1 a2 a3 a4 a5 a6 a7 a8 a9 a10 a11 k
 unfold op_Own.f
 repeat' first
   | (with_reducible exact op_May.mono _ _ _ _ _ _ _ _ _ _ _ _)
   | (with_reducible exact LeO.refl _)
   | (with_reducible exact LeO.none _)
   | (with_reducible refine LeO.ite ?_ ?_)
   | (with_reducible refine LeO.bind ?_ (fun _ => ?_))
   | exact op_May.mono _ _ _ _ _ _ _ _ _ _ _ _
   | exact LeO.none _
   | refine LeO.ite ?_ ?_
   | refine LeO.bind ?_ (fun _ => ?_)
theorem op_Own.calls (k : Nat) (a0_0 : Int) (a0_1 : Int) (a0_2 : Int) (a0_3 : Int) (a0_4 : Int) (a0_5 : Int) (a0_6 : ByteArray) (A0_7 : Option Addr) (c0_7 : Nat) (l0_7 : List (SElem)) (a0_8 : Int) (a0_9 : Int) (a0_10 : Int) (a1 : Int) (r1 : Int) (r2 : Int) (r3 : Int) (r4 : Int) (w : World) (hr0_7 : Kd.C Qam w A0_7 l0_7.length l0_7) (hc0_7 : l0_7.length <= c0_7) (h : op_Own.f k a0_0 a0_1 a0_2 a0_3 a0_4 a0_5 a0_6 l0_7 a0_8 a0_9 a0_10 a1 = some (r1,r2,r3,r4)) :
  Calls Tryd.prog 49 #[.agg #[.int .i64 a0_0, .int .i64 a0_1, .int .i64 a0_2, .int .i64 a0_3, .int .i64 a0_4, .int .i64 a0_5, .string a0_6, .slice A0_7 l0_7.length c0_7, .int .i64 a0_8, .int .i64 a0_9, .int .i64 a0_10], .int .i64 a1] w fun e w' => e = .returned (.tuple #[.agg #[.int .i64 r1, .int .i64 r2, .int .i64 r3], .int .i64 r4]) /\ Below w.heap.size w w':=by
 have hu55:=Tryd.underlying55
 have hu43:=Tryd.underlying43
 have HR0_7:=Zz.k hr0_7
 have HC0_7:=Zz.k hc0_7
 clear hr0_7 hc0_7
 have HB:=Zz.k (Below.refl w.heap.size w)
 unfold op_Own.f at h; have H:=h
 clear h
 obtain ⟨t235,A3,H⟩:=bE H
 by_cases c4 : t235 = true; rotate_left
 ·replace c4:=Zf c4
  subst c4
  rw [if_neg nft] at H
  simp only [Option.some.injEq,Prod.mk.injEq] at H
  obtain ⟨rfl,rfl,rfl,rfl⟩:=H
  go_enter Tryd.func49,Tryd.ntmps49
  go_wp2_with (first | ((with_reducible refine Qac (N:=2) rfl ?_); refine bx 2 #[.int .i64 a0_0, .int .i64 a0_1, .int .i64 a0_2, .int .i64 a0_3, .int .i64 a0_4, .int .i64 a0_5, .string a0_6, .slice A0_7 l0_7.length c0_7, .int .i64 a0_8, .int .i64 a0_9, .int .i64 a0_10] 55 (h := ?_); intro gb233 hg w33 hbox hb; have BK233:=Zz.k (hbox); have GW233:=bz HB hg; have GE233:=bz HB hg; replace HB:=bs HB hb; clear hb hbox hg) | ((with_reducible refine Qac (N:=4) rfl ?_); refine bx 4 #[.int .i64 0, .int .i64 0, .int .i64 0] 43 (h := ?_); intro gb234 hg w34 hbox hb; have BK234:=Zz.k (hbox); have GW234:=bz HB hg; have GE234:=bz HB hg; have NB233_234:=bn BK233 hg; have NB234_233:=bm BK233 hg; replace BK233:=bl BK233 hb; replace HB:=bs HB hb; clear hb hbox hg; have hnb35:=NB233_234.out; have hnc35:=NB234_233.out; obtain ⟨_,_,_,_,_,_,_,_,_,_,_,_,_,_,_,_,_,_,_,_,_,_⟩:=kc11 BK233) | ((with_reducible refine Qab (f:=84) rfl ?_); refine gl (some 8) Tryd.func84 #[.agg #[.int .i64 a0_0, .int .i64 a0_1, .int .i64 a0_2, .int .i64 a0_3, .int .i64 a0_4, .int .i64 a0_5, .string a0_6, .slice A0_7 l0_7.length c0_7, .int .i64 a0_8, .int .i64 a0_9, .int .i64 a0_10]] (h := ?_); (with_reducible refine (op_May.calls k a0_0 a0_1 a0_2 a0_3 a0_4 a0_5 a0_6 _ _ l0_7 a0_8 a0_9 a0_10 false _ ?side1 ?side2 A3.out).mono ?_); (case side1 => exact cb HR0_7 HB); (case side2 => exact HC0_7.out); rintro e w37 ⟨rfl,hb⟩; refine ⟨_,rfl, ?_⟩; replace BK233:=bl BK233 hb; replace BK234:=bl BK234 hb; replace HB:=bs HB hb; clear hb; obtain ⟨_,_,_,_,_,_⟩:=kc3 BK234))
  refine bodyPost_ret (results_ct rfl _ _ gb234 43 #[.int .i64 0, .int .i64 0, .int .i64 0] (0,0) _ rfl (bp (bp (bp (kk BK234) 0) 1) 2) Tryd.underlying43 rfl (by kernel_rfl)) rfl ?_
  exact ⟨re,bw HB⟩
 subst c4
 rw [if_pos rfl] at H
 by_cases c5 : a1 < 0
 ·rw [if_pos c5] at H
  have c5b0:=Zd c5
  clear c5
  simp only [Option.some.injEq,Prod.mk.injEq] at H
  obtain ⟨rfl,rfl,rfl,rfl⟩:=H
  go_enter Tryd.func49,Tryd.ntmps49
  go_wp2_with (first | ((with_reducible refine Qac (N:=2) rfl ?_); refine bx 2 #[.int .i64 a0_0, .int .i64 a0_1, .int .i64 a0_2, .int .i64 a0_3, .int .i64 a0_4, .int .i64 a0_5, .string a0_6, .slice A0_7 l0_7.length c0_7, .int .i64 a0_8, .int .i64 a0_9, .int .i64 a0_10] 55 (h := ?_); intro gb233 hg w6 hbox hb; have BK233:=Zz.k (hbox); have GW233:=bz HB hg; have GE233:=bz HB hg; replace HB:=bs HB hb; clear hb hbox hg) | ((with_reducible refine Qac (N:=4) rfl ?_); refine bx 4 #[.int .i64 0, .int .i64 0, .int .i64 0] 43 (h := ?_); intro gb234 hg w7 hbox hb; have BK234:=Zz.k (hbox); have GW234:=bz HB hg; have GE234:=bz HB hg; have NB233_234:=bn BK233 hg; have NB234_233:=bm BK233 hg; replace BK233:=bl BK233 hb; replace HB:=bs HB hb; clear hb hbox hg; have hnb8:=NB233_234.out; have hnc8:=NB234_233.out; obtain ⟨_,_,_,_,_,_,_,_,_,_,_,_,_,_,_,_,_,_,_,_,_,_⟩:=kc11 BK233) | ((with_reducible refine Qab (f:=84) rfl ?_); refine gl (some 8) Tryd.func84 #[.agg #[.int .i64 a0_0, .int .i64 a0_1, .int .i64 a0_2, .int .i64 a0_3, .int .i64 a0_4, .int .i64 a0_5, .string a0_6, .slice A0_7 l0_7.length c0_7, .int .i64 a0_8, .int .i64 a0_9, .int .i64 a0_10]] (h := ?_); (with_reducible refine (op_May.calls k a0_0 a0_1 a0_2 a0_3 a0_4 a0_5 a0_6 _ _ l0_7 a0_8 a0_9 a0_10 true _ ?side1 ?side2 A3.out).mono ?_); (case side1 => exact cb HR0_7 HB); (case side2 => exact HC0_7.out); rintro e w10 ⟨rfl,hb⟩; refine ⟨_,rfl, ?_⟩; replace BK233:=bl BK233 hb; replace BK234:=bl BK234 hb; replace HB:=bs HB hb; clear hb; obtain ⟨_,_,_,_,_,_⟩:=kc3 BK234))
  refine bodyPost_ret (results_ct rfl _ _ gb234 43 #[.int .i64 0, .int .i64 0, .int .i64 0] (0,0) _ rfl (bp (bp (bp (kk BK234) 0) 1) 2) Tryd.underlying43 rfl (by kernel_rfl)) rfl ?_
  exact ⟨re,bw HB⟩
 rw [if_neg c5] at H
 have c5b0:=Ze c5
 clear c5
 obtain ⟨t236,A12,H⟩:=bE H
 by_cases c13 : a1 >= t236
 ·rw [if_pos c13] at H
  have c13b0:=Zd c13
  clear c13
  simp only [Option.some.injEq,Prod.mk.injEq] at H
  obtain ⟨rfl,rfl,rfl,rfl⟩:=H
  go_enter Tryd.func49,Tryd.ntmps49
  go_wp2_with (first | ((with_reducible refine Qac (N:=2) rfl ?_); refine bx 2 #[.int .i64 a0_0, .int .i64 a0_1, .int .i64 a0_2, .int .i64 a0_3, .int .i64 a0_4, .int .i64 a0_5, .string a0_6, .slice A0_7 l0_7.length c0_7, .int .i64 a0_8, .int .i64 a0_9, .int .i64 a0_10] 55 (h := ?_); intro gb233 hg w14 hbox hb; have BK233:=Zz.k (hbox); have GW233:=bz HB hg; have GE233:=bz HB hg; replace HB:=bs HB hb; clear hb hbox hg) | ((with_reducible refine Qac (N:=4) rfl ?_); refine bx 4 #[.int .i64 0, .int .i64 0, .int .i64 0] 43 (h := ?_); intro gb234 hg w15 hbox hb; have BK234:=Zz.k (hbox); have GW234:=bz HB hg; have GE234:=bz HB hg; have NB233_234:=bn BK233 hg; have NB234_233:=bm BK233 hg; replace BK233:=bl BK233 hb; replace HB:=bs HB hb; clear hb hbox hg; have hnb16:=NB233_234.out; have hnc16:=NB234_233.out; obtain ⟨_,_,_,_,_,_,_,_,_,_,_,_,_,_,_,_,_,_,_,_,_,_⟩:=kc11 BK233) | ((with_reducible refine Qab (f:=84) rfl ?_); refine gl (some 8) Tryd.func84 #[.agg #[.int .i64 a0_0, .int .i64 a0_1, .int .i64 a0_2, .int .i64 a0_3, .int .i64 a0_4, .int .i64 a0_5, .string a0_6, .slice A0_7 l0_7.length c0_7, .int .i64 a0_8, .int .i64 a0_9, .int .i64 a0_10]] (h := ?_); (with_reducible refine (op_May.calls k a0_0 a0_1 a0_2 a0_3 a0_4 a0_5 a0_6 _ _ l0_7 a0_8 a0_9 a0_10 true _ ?side1 ?side2 A3.out).mono ?_); (case side1 => exact cb HR0_7 HB); (case side2 => exact HC0_7.out); rintro e w18 ⟨rfl,hb⟩; refine ⟨_,rfl, ?_⟩; replace BK233:=bl BK233 hb; replace BK234:=bl BK234 hb; replace HB:=bs HB hb; clear hb; obtain ⟨_,_,_,_,_,_,_,_,_,_,_,_,_,_,_,_,_,_,_,_,_,_⟩:=kc11 BK233) | (go_at_call 95; (with_reducible refine (op_Size.calls a0_0 a0_1 a0_2 a0_3 a0_4 a0_5 a0_6 _ _ l0_7 a0_8 a0_9 a0_10 t236 _ ?side1 ?side2 A12.out).mono ?_); (case side1 => exact cb HR0_7 HB); (case side2 => exact HC0_7.out); rintro e w20 ⟨rfl,hb⟩; replace BK233:=bl BK233 hb; replace BK234:=bl BK234 hb; replace HB:=bs HB hb; clear hb; obtain ⟨_,_,_,_,_,_⟩:=kc3 BK234))
  refine bodyPost_ret (results_ct rfl _ _ gb234 43 #[.int .i64 0, .int .i64 0, .int .i64 0] (0,0) _ rfl (bp (bp (bp (kk BK234) 0) 1) 2) Tryd.underlying43 rfl (by kernel_rfl)) rfl ?_
  exact ⟨re,bw HB⟩
 rw [if_neg c13] at H
 have c13b0:=Ze c13
 clear c13
 obtain ⟨⟨t237,t238,t239⟩,A22,H⟩:=bE H
 try dsimp only at H
 simp only [Option.some.injEq,Prod.mk.injEq] at H
 obtain ⟨rfl,rfl,rfl,rfl⟩:=H
 go_enter Tryd.func49,Tryd.ntmps49
 go_wp2_with (first | ((with_reducible refine Qac (N:=2) rfl ?_); refine bx 2 #[.int .i64 a0_0, .int .i64 a0_1, .int .i64 a0_2, .int .i64 a0_3, .int .i64 a0_4, .int .i64 a0_5, .string a0_6, .slice A0_7 l0_7.length c0_7, .int .i64 a0_8, .int .i64 a0_9, .int .i64 a0_10] 55 (h := ?_); intro gb233 hg w23 hbox hb; have BK233:=Zz.k (hbox); have GW233:=bz HB hg; have GE233:=bz HB hg; replace HB:=bs HB hb; clear hb hbox hg) | ((with_reducible refine Qac (N:=4) rfl ?_); refine bx 4 #[.int .i64 0, .int .i64 0, .int .i64 0] 43 (h := ?_); intro gb234 hg w24 hbox hb; have BK234:=Zz.k (hbox); have GW234:=bz HB hg; have GE234:=bz HB hg; have NB233_234:=bn BK233 hg; have NB234_233:=bm BK233 hg; replace BK233:=bl BK233 hb; replace HB:=bs HB hb; clear hb hbox hg; have hnb25:=NB233_234.out; have hnc25:=NB234_233.out; obtain ⟨_,_,_,_,_,_,_,_,_,_,_,_,_,_,_,_,_,_,_,_,_,_⟩:=kc11 BK233) | ((with_reducible refine Qab (f:=84) rfl ?_); refine gl (some 8) Tryd.func84 #[.agg #[.int .i64 a0_0, .int .i64 a0_1, .int .i64 a0_2, .int .i64 a0_3, .int .i64 a0_4, .int .i64 a0_5, .string a0_6, .slice A0_7 l0_7.length c0_7, .int .i64 a0_8, .int .i64 a0_9, .int .i64 a0_10]] (h := ?_); (with_reducible refine (op_May.calls k a0_0 a0_1 a0_2 a0_3 a0_4 a0_5 a0_6 _ _ l0_7 a0_8 a0_9 a0_10 true _ ?side1 ?side2 A3.out).mono ?_); (case side1 => exact cb HR0_7 HB); (case side2 => exact HC0_7.out); rintro e w27 ⟨rfl,hb⟩; refine ⟨_,rfl, ?_⟩; replace BK233:=bl BK233 hb; replace BK234:=bl BK234 hb; replace HB:=bs HB hb; clear hb; obtain ⟨_,_,_,_,_,_,_,_,_,_,_,_,_,_,_,_,_,_,_,_,_,_⟩:=kc11 BK233) | (go_at_call 95; (with_reducible refine (op_Size.calls a0_0 a0_1 a0_2 a0_3 a0_4 a0_5 a0_6 _ _ l0_7 a0_8 a0_9 a0_10 t236 _ ?side1 ?side2 A12.out).mono ?_); (case side1 => exact cb HR0_7 HB); (case side2 => exact HC0_7.out); rintro e w29 ⟨rfl,hb⟩; replace BK233:=bl BK233 hb; replace BK234:=bl BK234 hb; replace HB:=bs HB hb; clear hb; obtain ⟨_,_,_,_,_,_,_,_,_,_,_,_,_,_,_,_,_,_,_,_,_,_⟩:=kc11 BK233) | ((with_reducible refine Qab (f:=96) rfl ?_); refine gl (some 23) Tryd.func96 #[.agg #[.int .i64 a0_0, .int .i64 a0_1, .int .i64 a0_2, .int .i64 a0_3, .int .i64 a0_4, .int .i64 a0_5, .string a0_6, .slice A0_7 l0_7.length c0_7, .int .i64 a0_8, .int .i64 a0_9, .int .i64 a0_10], .int .i64 a1] (h := ?_); (with_reducible refine (op_At.calls a0_0 a0_1 a0_2 a0_3 a0_4 a0_5 a0_6 _ _ l0_7 a0_8 a0_9 a0_10 a1 t237 t238 t239 _ ?side1 ?side2 A22.out).mono ?_); (case side1 => exact cb HR0_7 HB); (case side2 => exact HC0_7.out); rintro e w31 ⟨rfl,hb⟩; refine ⟨_,rfl, ?_⟩; replace BK233:=bl BK233 hb; replace BK234:=bl BK234 hb; replace HB:=bs HB hb; clear hb; obtain ⟨_,_,_,_,_,_⟩:=kc3 BK234))
 refine bodyPost_ret (results_ct rfl _ _ gb234 43 #[.int .i64 t237, .int .i64 t238, .int .i64 t239] (0,0) _ rfl (bp (bp (bp (kk BK234) 0) 1) 2) Tryd.underlying43 rfl (by kernel_rfl)) rfl ?_
 exact ⟨re,bw HB⟩
def w4_wakes.f (k : Nat)  : Option (Bool):=(op_Elems.f k 1 1 1 0 0 0 (⟨#[97,98]⟩ : ByteArray) ([] : List (SElem)) 0 0 0).bind fun bt241 => ((op_Own.f k 1 1 1 0 0 0 (⟨#[97,98]⟩ : ByteArray) ([] : List (SElem)) 0 0 0 1).bind fun bt245 => ((op_Check.f k 1 1 1 0 0 0 (⟨#[97,98]⟩ : ByteArray) ([] : List (SElem)) 0 0 0).bind fun t250 => ((w4_num.f t250).bind fun t251 => (if t251 = 0 then ((w4_num.f bt241.2).bind fun t252 => (if t252 = 0 then ((w4_num.f bt245.2.2.2).bind fun t253 => (if t253 = 0 then (if (bt241.1.length : Int) = 2 then (some (bt245.1 == 1 && (bt245.2.1 == 1 && (bt245.2.2.1 == 1)))) else (some false)) else (some false))) else (some false))) else (some false)))))
theorem w4_wakes.mono : ∀ k,LeO (w4_wakes.f k ) (w4_wakes.f (k + 1) ):=by
 intro  k
 unfold w4_wakes.f
 repeat' first
   | (with_reducible exact op_Check.mono _ _ _ _ _ _ _ _ _ _ _ _)
   | (with_reducible exact op_Elems.mono _ _ _ _ _ _ _ _ _ _ _ _)
   | (with_reducible exact op_Own.mono _ _ _ _ _ _ _ _ _ _ _ _ _)
   | (with_reducible exact LeO.refl _)
   | (with_reducible exact LeO.none _)
   | (with_reducible refine LeO.ite ?_ ?_)
   | (with_reducible refine LeO.bind ?_ (fun _ => ?_))
   | exact op_Check.mono _ _ _ _ _ _ _ _ _ _ _ _
   | exact op_Elems.mono _ _ _ _ _ _ _ _ _ _ _ _
   | exact op_Own.mono _ _ _ _ _ _ _ _ _ _ _ _ _
   | exact LeO.none _
   | refine LeO.ite ?_ ?_
   | refine LeO.bind ?_ (fun _ => ?_)
theorem w4_wakes.calls (k : Nat)  (r : Bool) (w : World) (h : w4_wakes.f k  = some r) :
  Calls Tryd.prog 45 #[] w fun e w' => e = .returned (.bool r) /\ Below w.heap.size w w':=by
 have hu55:=Tryd.underlying55
 have hu43:=Tryd.underlying43
 have HB:=Zz.k (Below.refl w.heap.size w)
 unfold w4_wakes.f at h; have H:=h
 clear h
 obtain ⟨⟨t241,t244⟩,A1,H⟩:=bE H
 try dsimp only at H
 obtain ⟨⟨t245,t246,t247,t248⟩,A2,H⟩:=bE H
 try dsimp only at H
 obtain ⟨t250,A3,H⟩:=bE H
 obtain ⟨t251,A4,H⟩:=bE H
 by_cases c5 : t251 = 0; rotate_left
 ·rw [if_neg c5] at H
  obtain ⟨c5b0,c5b1⟩:=bF c5
  obtain rfl:=Zo H
  go_enter Tryd.func45,Tryd.ntmps45
  go_wp2_with (first | ((with_reducible refine Qac (N:=1) rfl ?_); (try (refine Qag (by rfl) ?_; dsimp only)); refine bx 1 #[.int .i64 0, .int .i64 0, .int .i64 0, .int .i64 0, .int .i64 0, .int .i64 0, .string (⟨#[]⟩ : ByteArray), .slice none 0 0, .int .i64 0, .int .i64 0, .int .i64 0] 55 (h := ?_); intro gb240 hg w54 hbox hb; have BK240:=Zz.k (hbox); have GW240:=bz HB hg; have GE240:=bz HB hg; replace HB:=bs HB hb; clear hb hbox hg; obtain ⟨_,_,_,_,_,_,_,_,_,_,_,_,_,_,_,_,_,_,_,_,_,_⟩:=kc11 BK240) | ((with_reducible refine Qab (f:=47) rfl ?_); refine gl (some 9) Tryd.func47 #[.agg #[.int .i64 1, .int .i64 1, .int .i64 1, .int .i64 0, .int .i64 0, .int .i64 0, .string (⟨#[97,98]⟩ : ByteArray), .slice none 0 0, .int .i64 0, .int .i64 0, .int .i64 0]] (h := ?_); (refine (op_Elems.calls k 1 1 1 0 0 0 (⟨#[97,98]⟩ : ByteArray) _ _ ([] : List (SElem)) 0 0 0 t241 t244 _ ?side1 ?side2 A1.out).mono ?_); (case side1 => exact Kd.C_nil _ _); (case side2 => exact Nat.le_refl _); rintro e w56 ⟨v242,rfl,ho0,hb⟩; refine ⟨_,rfl, ?_⟩; have HO243:=Zz.k (Kd.R_lower ho0 (Qao (bw HB))); replace BK240:=Zz.k (Qbh (bp11 (kk BK240)) hb); replace HB:=bs HB hb; clear hb; clear ho0; obtain ⟨_,_,_,_,_,_,_,_,_,_,_,_,_,_,_,_,_,_,_,_,_,_⟩:=kc11 BK240) | ((with_reducible refine Qab (f:=49) rfl ?_); refine gl (some 14) Tryd.func49 #[.agg #[.int .i64 1, .int .i64 1, .int .i64 1, .int .i64 0, .int .i64 0, .int .i64 0, .string (⟨#[97,98]⟩ : ByteArray), .slice none 0 0, .int .i64 0, .int .i64 0, .int .i64 0], .int .i64 1] (h := ?_); (refine (op_Own.calls k 1 1 1 0 0 0 (⟨#[97,98]⟩ : ByteArray) _ _ ([] : List (SElem)) 0 0 0 1 t245 t246 t247 t248 _ ?side1 ?side2 A2.out).mono ?_); (case side1 => exact Kd.C_nil _ _); (case side2 => exact Nat.le_refl _); rintro e w58 ⟨rfl,hb⟩; refine ⟨_,rfl, ?_⟩; replace HO243:=rb HO243 hb; replace BK240:=bl BK240 hb; replace HB:=bs HB hb; clear hb) | ((with_reducible refine Qac (N:=4) rfl ?_); (try (refine Qag (by rfl) ?_; dsimp only)); refine bx 4 #[.int .i64 0, .int .i64 0, .int .i64 0] 43 (h := ?_); intro gb249 hg w59 hbox hb; have BK249:=Zz.k (hbox); have GW249:=bz HB hg; have GE249:=bz HB hg; have NB240_249:=bn BK240 hg; have NB249_240:=bm BK240 hg; replace HO243:=Zz.k (Kd.R_below (Kd.R_elderB (rk HO243) gb249 (Nat.le_of_eq hg.symm)) hb); replace BK240:=bl BK240 hb; replace HB:=bs HB hb; clear hb hbox hg; have hnb60:=NB249_240.out; have hnc60:=NB240_249.out; obtain ⟨_,_,_,_,_,_⟩:=kc3 BK249; obtain ⟨_,_,_,_,_,_,_,_,_,_,_,_,_,_,_,_,_,_,_,_,_,_⟩:=kc11 BK240) | ((with_reducible refine Qab (f:=43) rfl ?_); refine gl (some 18) Tryd.func43 #[.agg #[.int .i64 1, .int .i64 1, .int .i64 1, .int .i64 0, .int .i64 0, .int .i64 0, .string (⟨#[97,98]⟩ : ByteArray), .slice none 0 0, .int .i64 0, .int .i64 0, .int .i64 0]] (h := ?_); (refine (op_Check.calls k 1 1 1 0 0 0 (⟨#[97,98]⟩ : ByteArray) _ _ ([] : List (SElem)) 0 0 0 t250 _ ?side1 ?side2 A3.out).mono ?_); (case side1 => exact Kd.C_nil _ _); (case side2 => exact Nat.le_refl _); rintro e w63 ⟨rfl,hb⟩; refine ⟨_,rfl, ?_⟩; replace HO243:=Zz.k (Kd.R_below (by (with_reducible repeat (first | apply Kd.R_alloc | apply Kd.R_drewN | apply Kd.R_drew)); exact (Kd.R_mono (Kd.R_far (p:=⟨gb249,2,none⟩) (Kd.R_far (p:=⟨gb249,1,none⟩) (Kd.R_far (p:=⟨gb249,0,none⟩) (Kd.R_mono HO243.out (fun k_ hk => (⟨hk,hk.2⟩ : _ /\ k_ ≠ gb249))) (fun _ hk => hk.2) (.int .i64 t245)) (fun _ hk => hk.2) (.int .i64 t246)) (fun _ hk => hk.2) (.int .i64 t247)) (fun _ h_ => h_.1))) hb); replace BK240:=bl BK240 hb; replace BK249:=Zz.k (Qbh (g:=gb249) (o:=.cells #[.int .i64 t245, .int .i64 t246, .int .i64 t247] 43 (0,0)) (bp (bp (bp (kk BK249) 0) 1) 2) hb); replace HB:=bs HB hb; clear hb) | ((with_reducible refine Qab (f:=42) rfl ?_); refine gl (some 19) Tryd.func42 #[.int .i64 t250] (h := ?_); (with_reducible refine (w4_num.calls t250 t251 _ A4.out).mono ?_); rintro e w' ⟨rfl,⟨nd,rfl⟩⟩; refine ⟨_,rfl, ?_⟩))
  go_ret
  exact ⟨re,bw HB⟩
 rw [if_pos c5] at H
 obtain ⟨c5b0,c5b1⟩:=bT c5
 clear c5
 obtain ⟨t252,A6,H⟩:=bE H
 by_cases c7 : t252 = 0; rotate_left
 ·rw [if_neg c7] at H
  obtain ⟨c7b0,c7b1⟩:=bF c7
  obtain rfl:=Zo H
  go_enter Tryd.func45,Tryd.ntmps45
  go_wp2_with (first | ((with_reducible refine Qac (N:=1) rfl ?_); (try (refine Qag (by rfl) ?_; dsimp only)); refine bx 1 #[.int .i64 0, .int .i64 0, .int .i64 0, .int .i64 0, .int .i64 0, .int .i64 0, .string (⟨#[]⟩ : ByteArray), .slice none 0 0, .int .i64 0, .int .i64 0, .int .i64 0] 55 (h := ?_); intro gb240 hg w44 hbox hb; have BK240:=Zz.k (hbox); have GW240:=bz HB hg; have GE240:=bz HB hg; replace HB:=bs HB hb; clear hb hbox hg; obtain ⟨_,_,_,_,_,_,_,_,_,_,_,_,_,_,_,_,_,_,_,_,_,_⟩:=kc11 BK240) | ((with_reducible refine Qab (f:=47) rfl ?_); refine gl (some 9) Tryd.func47 #[.agg #[.int .i64 1, .int .i64 1, .int .i64 1, .int .i64 0, .int .i64 0, .int .i64 0, .string (⟨#[97,98]⟩ : ByteArray), .slice none 0 0, .int .i64 0, .int .i64 0, .int .i64 0]] (h := ?_); (refine (op_Elems.calls k 1 1 1 0 0 0 (⟨#[97,98]⟩ : ByteArray) _ _ ([] : List (SElem)) 0 0 0 t241 t244 _ ?side1 ?side2 A1.out).mono ?_); (case side1 => exact Kd.C_nil _ _); (case side2 => exact Nat.le_refl _); rintro e w46 ⟨v242,rfl,ho0,hb⟩; refine ⟨_,rfl, ?_⟩; have HO243:=Zz.k (Kd.R_lower ho0 (Qao (bw HB))); replace BK240:=Zz.k (Qbh (bp11 (kk BK240)) hb); replace HB:=bs HB hb; clear hb; clear ho0; obtain ⟨_,_,_,_,_,_,_,_,_,_,_,_,_,_,_,_,_,_,_,_,_,_⟩:=kc11 BK240) | ((with_reducible refine Qab (f:=49) rfl ?_); refine gl (some 14) Tryd.func49 #[.agg #[.int .i64 1, .int .i64 1, .int .i64 1, .int .i64 0, .int .i64 0, .int .i64 0, .string (⟨#[97,98]⟩ : ByteArray), .slice none 0 0, .int .i64 0, .int .i64 0, .int .i64 0], .int .i64 1] (h := ?_); (refine (op_Own.calls k 1 1 1 0 0 0 (⟨#[97,98]⟩ : ByteArray) _ _ ([] : List (SElem)) 0 0 0 1 t245 t246 t247 t248 _ ?side1 ?side2 A2.out).mono ?_); (case side1 => exact Kd.C_nil _ _); (case side2 => exact Nat.le_refl _); rintro e w48 ⟨rfl,hb⟩; refine ⟨_,rfl, ?_⟩; replace HO243:=rb HO243 hb; replace BK240:=bl BK240 hb; replace HB:=bs HB hb; clear hb) | ((with_reducible refine Qac (N:=4) rfl ?_); (try (refine Qag (by rfl) ?_; dsimp only)); refine bx 4 #[.int .i64 0, .int .i64 0, .int .i64 0] 43 (h := ?_); intro gb249 hg w49 hbox hb; have BK249:=Zz.k (hbox); have GW249:=bz HB hg; have GE249:=bz HB hg; have NB240_249:=bn BK240 hg; have NB249_240:=bm BK240 hg; replace HO243:=Zz.k (Kd.R_below (Kd.R_elderB (rk HO243) gb249 (Nat.le_of_eq hg.symm)) hb); replace BK240:=bl BK240 hb; replace HB:=bs HB hb; clear hb hbox hg; have hnb50:=NB249_240.out; have hnc50:=NB240_249.out; obtain ⟨_,_,_,_,_,_⟩:=kc3 BK249; obtain ⟨_,_,_,_,_,_,_,_,_,_,_,_,_,_,_,_,_,_,_,_,_,_⟩:=kc11 BK240) | ((with_reducible refine Qab (f:=43) rfl ?_); refine gl (some 18) Tryd.func43 #[.agg #[.int .i64 1, .int .i64 1, .int .i64 1, .int .i64 0, .int .i64 0, .int .i64 0, .string (⟨#[97,98]⟩ : ByteArray), .slice none 0 0, .int .i64 0, .int .i64 0, .int .i64 0]] (h := ?_); (refine (op_Check.calls k 1 1 1 0 0 0 (⟨#[97,98]⟩ : ByteArray) _ _ ([] : List (SElem)) 0 0 0 t250 _ ?side1 ?side2 A3.out).mono ?_); (case side1 => exact Kd.C_nil _ _); (case side2 => exact Nat.le_refl _); rintro e w53 ⟨rfl,hb⟩; refine ⟨_,rfl, ?_⟩; replace HO243:=Zz.k (Kd.R_below (by (with_reducible repeat (first | apply Kd.R_alloc | apply Kd.R_drewN | apply Kd.R_drew)); exact (Kd.R_mono (Kd.R_far (p:=⟨gb249,2,none⟩) (Kd.R_far (p:=⟨gb249,1,none⟩) (Kd.R_far (p:=⟨gb249,0,none⟩) (Kd.R_mono HO243.out (fun k_ hk => (⟨hk,hk.2⟩ : _ /\ k_ ≠ gb249))) (fun _ hk => hk.2) (.int .i64 t245)) (fun _ hk => hk.2) (.int .i64 t246)) (fun _ hk => hk.2) (.int .i64 t247)) (fun _ h_ => h_.1))) hb); replace BK240:=bl BK240 hb; replace BK249:=Zz.k (Qbh (g:=gb249) (o:=.cells #[.int .i64 t245, .int .i64 t246, .int .i64 t247] 43 (0,0)) (bp (bp (bp (kk BK249) 0) 1) 2) hb); replace HB:=bs HB hb; clear hb) | ((with_reducible refine Qab (f:=42) rfl ?_); refine gl (some 19) Tryd.func42 #[.int .i64 t250] (h := ?_); (with_reducible refine (w4_num.calls t250 t251 _ A4.out).mono ?_); rintro e w' ⟨rfl,⟨nd,rfl⟩⟩; refine ⟨_,rfl, ?_⟩) | (go_at_call 42; (with_reducible refine (w4_num.calls t244 t252 _ A6.out).mono ?_); rintro e w' ⟨rfl,⟨nd,rfl⟩⟩))
  go_ret
  exact ⟨re,bw HB⟩
 rw [if_pos c7] at H
 obtain ⟨c7b0,c7b1⟩:=bT c7
 clear c7
 obtain ⟨t253,A8,H⟩:=bE H
 by_cases c9 : t253 = 0; rotate_left
 ·rw [if_neg c9] at H
  obtain ⟨c9b0,c9b1⟩:=bF c9
  obtain rfl:=Zo H
  go_enter Tryd.func45,Tryd.ntmps45
  go_wp2_with (first | ((with_reducible refine Qac (N:=1) rfl ?_); (try (refine Qag (by rfl) ?_; dsimp only)); refine bx 1 #[.int .i64 0, .int .i64 0, .int .i64 0, .int .i64 0, .int .i64 0, .int .i64 0, .string (⟨#[]⟩ : ByteArray), .slice none 0 0, .int .i64 0, .int .i64 0, .int .i64 0] 55 (h := ?_); intro gb240 hg w34 hbox hb; have BK240:=Zz.k (hbox); have GW240:=bz HB hg; have GE240:=bz HB hg; replace HB:=bs HB hb; clear hb hbox hg; obtain ⟨_,_,_,_,_,_,_,_,_,_,_,_,_,_,_,_,_,_,_,_,_,_⟩:=kc11 BK240) | ((with_reducible refine Qab (f:=47) rfl ?_); refine gl (some 9) Tryd.func47 #[.agg #[.int .i64 1, .int .i64 1, .int .i64 1, .int .i64 0, .int .i64 0, .int .i64 0, .string (⟨#[97,98]⟩ : ByteArray), .slice none 0 0, .int .i64 0, .int .i64 0, .int .i64 0]] (h := ?_); (refine (op_Elems.calls k 1 1 1 0 0 0 (⟨#[97,98]⟩ : ByteArray) _ _ ([] : List (SElem)) 0 0 0 t241 t244 _ ?side1 ?side2 A1.out).mono ?_); (case side1 => exact Kd.C_nil _ _); (case side2 => exact Nat.le_refl _); rintro e w36 ⟨v242,rfl,ho0,hb⟩; refine ⟨_,rfl, ?_⟩; have HO243:=Zz.k (Kd.R_lower ho0 (Qao (bw HB))); replace BK240:=Zz.k (Qbh (bp11 (kk BK240)) hb); replace HB:=bs HB hb; clear hb; clear ho0; obtain ⟨_,_,_,_,_,_,_,_,_,_,_,_,_,_,_,_,_,_,_,_,_,_⟩:=kc11 BK240) | ((with_reducible refine Qab (f:=49) rfl ?_); refine gl (some 14) Tryd.func49 #[.agg #[.int .i64 1, .int .i64 1, .int .i64 1, .int .i64 0, .int .i64 0, .int .i64 0, .string (⟨#[97,98]⟩ : ByteArray), .slice none 0 0, .int .i64 0, .int .i64 0, .int .i64 0], .int .i64 1] (h := ?_); (refine (op_Own.calls k 1 1 1 0 0 0 (⟨#[97,98]⟩ : ByteArray) _ _ ([] : List (SElem)) 0 0 0 1 t245 t246 t247 t248 _ ?side1 ?side2 A2.out).mono ?_); (case side1 => exact Kd.C_nil _ _); (case side2 => exact Nat.le_refl _); rintro e w38 ⟨rfl,hb⟩; refine ⟨_,rfl, ?_⟩; replace HO243:=rb HO243 hb; replace BK240:=bl BK240 hb; replace HB:=bs HB hb; clear hb) | ((with_reducible refine Qac (N:=4) rfl ?_); (try (refine Qag (by rfl) ?_; dsimp only)); refine bx 4 #[.int .i64 0, .int .i64 0, .int .i64 0] 43 (h := ?_); intro gb249 hg w39 hbox hb; have BK249:=Zz.k (hbox); have GW249:=bz HB hg; have GE249:=bz HB hg; have NB240_249:=bn BK240 hg; have NB249_240:=bm BK240 hg; replace HO243:=Zz.k (Kd.R_below (Kd.R_elderB (rk HO243) gb249 (Nat.le_of_eq hg.symm)) hb); replace BK240:=bl BK240 hb; replace HB:=bs HB hb; clear hb hbox hg; have hnb40:=NB249_240.out; have hnc40:=NB240_249.out; obtain ⟨_,_,_,_,_,_⟩:=kc3 BK249; obtain ⟨_,_,_,_,_,_,_,_,_,_,_,_,_,_,_,_,_,_,_,_,_,_⟩:=kc11 BK240) | ((with_reducible refine Qab (f:=43) rfl ?_); refine gl (some 18) Tryd.func43 #[.agg #[.int .i64 1, .int .i64 1, .int .i64 1, .int .i64 0, .int .i64 0, .int .i64 0, .string (⟨#[97,98]⟩ : ByteArray), .slice none 0 0, .int .i64 0, .int .i64 0, .int .i64 0]] (h := ?_); (refine (op_Check.calls k 1 1 1 0 0 0 (⟨#[97,98]⟩ : ByteArray) _ _ ([] : List (SElem)) 0 0 0 t250 _ ?side1 ?side2 A3.out).mono ?_); (case side1 => exact Kd.C_nil _ _); (case side2 => exact Nat.le_refl _); rintro e w43 ⟨rfl,hb⟩; refine ⟨_,rfl, ?_⟩; replace HO243:=Zz.k (Kd.R_below (by (with_reducible repeat (first | apply Kd.R_alloc | apply Kd.R_drewN | apply Kd.R_drew)); exact (Kd.R_mono (Kd.R_far (p:=⟨gb249,2,none⟩) (Kd.R_far (p:=⟨gb249,1,none⟩) (Kd.R_far (p:=⟨gb249,0,none⟩) (Kd.R_mono HO243.out (fun k_ hk => (⟨hk,hk.2⟩ : _ /\ k_ ≠ gb249))) (fun _ hk => hk.2) (.int .i64 t245)) (fun _ hk => hk.2) (.int .i64 t246)) (fun _ hk => hk.2) (.int .i64 t247)) (fun _ h_ => h_.1))) hb); replace BK240:=bl BK240 hb; replace BK249:=Zz.k (Qbh (g:=gb249) (o:=.cells #[.int .i64 t245, .int .i64 t246, .int .i64 t247] 43 (0,0)) (bp (bp (bp (kk BK249) 0) 1) 2) hb); replace HB:=bs HB hb; clear hb) | ((with_reducible refine Qab (f:=42) rfl ?_); refine gl (some 19) Tryd.func42 #[.int .i64 t250] (h := ?_); (with_reducible refine (w4_num.calls t250 t251 _ A4.out).mono ?_); rintro e w' ⟨rfl,⟨nd,rfl⟩⟩; refine ⟨_,rfl, ?_⟩) | (go_at_call 42; (with_reducible refine (w4_num.calls t244 t252 _ A6.out).mono ?_); rintro e w' ⟨rfl,⟨nd,rfl⟩⟩) | (go_at_call 42; (with_reducible refine (w4_num.calls t248 t253 _ A8.out).mono ?_); rintro e w' ⟨rfl,⟨nd,rfl⟩⟩))
  go_ret
  exact ⟨re,bw HB⟩
 rw [if_pos c9] at H
 obtain ⟨c9b0,c9b1⟩:=bT c9
 clear c9
 by_cases c10 : (t241.length : Int) = 2
 ·rw [if_pos c10] at H
  obtain ⟨c10b0,c10b1⟩:=bT c10
  clear c10
  obtain rfl:=Zo H
  go_enter Tryd.func45,Tryd.ntmps45
  go_wp2_with (first | ((with_reducible refine Qac (N:=1) rfl ?_); (try (refine Qag (by rfl) ?_; dsimp only)); refine bx 1 #[.int .i64 0, .int .i64 0, .int .i64 0, .int .i64 0, .int .i64 0, .int .i64 0, .string (⟨#[]⟩ : ByteArray), .slice none 0 0, .int .i64 0, .int .i64 0, .int .i64 0] 55 (h := ?_); intro gb240 hg w11 hbox hb; have BK240:=Zz.k (hbox); have GW240:=bz HB hg; have GE240:=bz HB hg; replace HB:=bs HB hb; clear hb hbox hg; obtain ⟨_,_,_,_,_,_,_,_,_,_,_,_,_,_,_,_,_,_,_,_,_,_⟩:=kc11 BK240) | ((with_reducible refine Qab (f:=47) rfl ?_); refine gl (some 9) Tryd.func47 #[.agg #[.int .i64 1, .int .i64 1, .int .i64 1, .int .i64 0, .int .i64 0, .int .i64 0, .string (⟨#[97,98]⟩ : ByteArray), .slice none 0 0, .int .i64 0, .int .i64 0, .int .i64 0]] (h := ?_); (refine (op_Elems.calls k 1 1 1 0 0 0 (⟨#[97,98]⟩ : ByteArray) _ _ ([] : List (SElem)) 0 0 0 t241 t244 _ ?side1 ?side2 A1.out).mono ?_); (case side1 => exact Kd.C_nil _ _); (case side2 => exact Nat.le_refl _); rintro e w13 ⟨v242,rfl,ho0,hb⟩; refine ⟨_,rfl, ?_⟩; have HO243:=Zz.k (Kd.R_lower ho0 (Qao (bw HB))); replace BK240:=Zz.k (Qbh (bp11 (kk BK240)) hb); replace HB:=bs HB hb; clear hb; clear ho0; obtain ⟨_,_,_,_,_,_,_,_,_,_,_,_,_,_,_,_,_,_,_,_,_,_⟩:=kc11 BK240) | ((with_reducible refine Qab (f:=49) rfl ?_); refine gl (some 14) Tryd.func49 #[.agg #[.int .i64 1, .int .i64 1, .int .i64 1, .int .i64 0, .int .i64 0, .int .i64 0, .string (⟨#[97,98]⟩ : ByteArray), .slice none 0 0, .int .i64 0, .int .i64 0, .int .i64 0], .int .i64 1] (h := ?_); (refine (op_Own.calls k 1 1 1 0 0 0 (⟨#[97,98]⟩ : ByteArray) _ _ ([] : List (SElem)) 0 0 0 1 t245 t246 t247 t248 _ ?side1 ?side2 A2.out).mono ?_); (case side1 => exact Kd.C_nil _ _); (case side2 => exact Nat.le_refl _); rintro e w15 ⟨rfl,hb⟩; refine ⟨_,rfl, ?_⟩; replace HO243:=rb HO243 hb; replace BK240:=bl BK240 hb; replace HB:=bs HB hb; clear hb) | ((with_reducible refine Qac (N:=4) rfl ?_); (try (refine Qag (by rfl) ?_; dsimp only)); refine bx 4 #[.int .i64 0, .int .i64 0, .int .i64 0] 43 (h := ?_); intro gb249 hg w16 hbox hb; have BK249:=Zz.k (hbox); have GW249:=bz HB hg; have GE249:=bz HB hg; have NB240_249:=bn BK240 hg; have NB249_240:=bm BK240 hg; replace HO243:=Zz.k (Kd.R_below (Kd.R_elderB (rk HO243) gb249 (Nat.le_of_eq hg.symm)) hb); replace BK240:=bl BK240 hb; replace HB:=bs HB hb; clear hb hbox hg; have hnb17:=NB249_240.out; have hnc17:=NB240_249.out; obtain ⟨_,_,_,_,_,_⟩:=kc3 BK249; obtain ⟨_,_,_,_,_,_,_,_,_,_,_,_,_,_,_,_,_,_,_,_,_,_⟩:=kc11 BK240) | ((with_reducible refine Qab (f:=43) rfl ?_); refine gl (some 18) Tryd.func43 #[.agg #[.int .i64 1, .int .i64 1, .int .i64 1, .int .i64 0, .int .i64 0, .int .i64 0, .string (⟨#[97,98]⟩ : ByteArray), .slice none 0 0, .int .i64 0, .int .i64 0, .int .i64 0]] (h := ?_); (refine (op_Check.calls k 1 1 1 0 0 0 (⟨#[97,98]⟩ : ByteArray) _ _ ([] : List (SElem)) 0 0 0 t250 _ ?side1 ?side2 A3.out).mono ?_); (case side1 => exact Kd.C_nil _ _); (case side2 => exact Nat.le_refl _); rintro e w20 ⟨rfl,hb⟩; refine ⟨_,rfl, ?_⟩; replace HO243:=Zz.k (Kd.R_below (by (with_reducible repeat (first | apply Kd.R_alloc | apply Kd.R_drewN | apply Kd.R_drew)); exact (Kd.R_mono (Kd.R_far (p:=⟨gb249,2,none⟩) (Kd.R_far (p:=⟨gb249,1,none⟩) (Kd.R_far (p:=⟨gb249,0,none⟩) (Kd.R_mono HO243.out (fun k_ hk => (⟨hk,hk.2⟩ : _ /\ k_ ≠ gb249))) (fun _ hk => hk.2) (.int .i64 t245)) (fun _ hk => hk.2) (.int .i64 t246)) (fun _ hk => hk.2) (.int .i64 t247)) (fun _ h_ => h_.1))) hb); replace BK240:=bl BK240 hb; replace BK249:=Zz.k (Qbh (g:=gb249) (o:=.cells #[.int .i64 t245, .int .i64 t246, .int .i64 t247] 43 (0,0)) (bp (bp (bp (kk BK249) 0) 1) 2) hb); replace HB:=bs HB hb; clear hb) | ((with_reducible refine Qab (f:=42) rfl ?_); refine gl (some 19) Tryd.func42 #[.int .i64 t250] (h := ?_); (with_reducible refine (w4_num.calls t250 t251 _ A4.out).mono ?_); rintro e w' ⟨rfl,⟨nd,rfl⟩⟩; refine ⟨_,rfl, ?_⟩) | (go_at_call 42; (with_reducible refine (w4_num.calls t244 t252 _ A6.out).mono ?_); rintro e w' ⟨rfl,⟨nd,rfl⟩⟩) | (go_at_call 42; (with_reducible refine (w4_num.calls t248 t253 _ A8.out).mono ?_); rintro e w' ⟨rfl,⟨nd,rfl⟩⟩; obtain ⟨Ao21,co21,eo21⟩:=Kd.R_slice HO243.out; subst eo21; obtain ⟨_,_,_,_,_,_⟩:=kc3 BK249))
  go_ret
  exact ⟨re,bw HB⟩
 rw [if_neg c10] at H
 obtain ⟨c10b0,c10b1⟩:=bF c10
 obtain rfl:=Zo H
 go_enter Tryd.func45,Tryd.ntmps45
 go_wp2_with (first | ((with_reducible refine Qac (N:=1) rfl ?_); (try (refine Qag (by rfl) ?_; dsimp only)); refine bx 1 #[.int .i64 0, .int .i64 0, .int .i64 0, .int .i64 0, .int .i64 0, .int .i64 0, .string (⟨#[]⟩ : ByteArray), .slice none 0 0, .int .i64 0, .int .i64 0, .int .i64 0] 55 (h := ?_); intro gb240 hg w23 hbox hb; have BK240:=Zz.k (hbox); have GW240:=bz HB hg; have GE240:=bz HB hg; replace HB:=bs HB hb; clear hb hbox hg; obtain ⟨_,_,_,_,_,_,_,_,_,_,_,_,_,_,_,_,_,_,_,_,_,_⟩:=kc11 BK240) | ((with_reducible refine Qab (f:=47) rfl ?_); refine gl (some 9) Tryd.func47 #[.agg #[.int .i64 1, .int .i64 1, .int .i64 1, .int .i64 0, .int .i64 0, .int .i64 0, .string (⟨#[97,98]⟩ : ByteArray), .slice none 0 0, .int .i64 0, .int .i64 0, .int .i64 0]] (h := ?_); (refine (op_Elems.calls k 1 1 1 0 0 0 (⟨#[97,98]⟩ : ByteArray) _ _ ([] : List (SElem)) 0 0 0 t241 t244 _ ?side1 ?side2 A1.out).mono ?_); (case side1 => exact Kd.C_nil _ _); (case side2 => exact Nat.le_refl _); rintro e w25 ⟨v242,rfl,ho0,hb⟩; refine ⟨_,rfl, ?_⟩; have HO243:=Zz.k (Kd.R_lower ho0 (Qao (bw HB))); replace BK240:=Zz.k (Qbh (bp11 (kk BK240)) hb); replace HB:=bs HB hb; clear hb; clear ho0; obtain ⟨_,_,_,_,_,_,_,_,_,_,_,_,_,_,_,_,_,_,_,_,_,_⟩:=kc11 BK240) | ((with_reducible refine Qab (f:=49) rfl ?_); refine gl (some 14) Tryd.func49 #[.agg #[.int .i64 1, .int .i64 1, .int .i64 1, .int .i64 0, .int .i64 0, .int .i64 0, .string (⟨#[97,98]⟩ : ByteArray), .slice none 0 0, .int .i64 0, .int .i64 0, .int .i64 0], .int .i64 1] (h := ?_); (refine (op_Own.calls k 1 1 1 0 0 0 (⟨#[97,98]⟩ : ByteArray) _ _ ([] : List (SElem)) 0 0 0 1 t245 t246 t247 t248 _ ?side1 ?side2 A2.out).mono ?_); (case side1 => exact Kd.C_nil _ _); (case side2 => exact Nat.le_refl _); rintro e w27 ⟨rfl,hb⟩; refine ⟨_,rfl, ?_⟩; replace HO243:=rb HO243 hb; replace BK240:=bl BK240 hb; replace HB:=bs HB hb; clear hb) | ((with_reducible refine Qac (N:=4) rfl ?_); (try (refine Qag (by rfl) ?_; dsimp only)); refine bx 4 #[.int .i64 0, .int .i64 0, .int .i64 0] 43 (h := ?_); intro gb249 hg w28 hbox hb; have BK249:=Zz.k (hbox); have GW249:=bz HB hg; have GE249:=bz HB hg; have NB240_249:=bn BK240 hg; have NB249_240:=bm BK240 hg; replace HO243:=Zz.k (Kd.R_below (Kd.R_elderB (rk HO243) gb249 (Nat.le_of_eq hg.symm)) hb); replace BK240:=bl BK240 hb; replace HB:=bs HB hb; clear hb hbox hg; have hnb29:=NB249_240.out; have hnc29:=NB240_249.out; obtain ⟨_,_,_,_,_,_⟩:=kc3 BK249; obtain ⟨_,_,_,_,_,_,_,_,_,_,_,_,_,_,_,_,_,_,_,_,_,_⟩:=kc11 BK240) | ((with_reducible refine Qab (f:=43) rfl ?_); refine gl (some 18) Tryd.func43 #[.agg #[.int .i64 1, .int .i64 1, .int .i64 1, .int .i64 0, .int .i64 0, .int .i64 0, .string (⟨#[97,98]⟩ : ByteArray), .slice none 0 0, .int .i64 0, .int .i64 0, .int .i64 0]] (h := ?_); (refine (op_Check.calls k 1 1 1 0 0 0 (⟨#[97,98]⟩ : ByteArray) _ _ ([] : List (SElem)) 0 0 0 t250 _ ?side1 ?side2 A3.out).mono ?_); (case side1 => exact Kd.C_nil _ _); (case side2 => exact Nat.le_refl _); rintro e w32 ⟨rfl,hb⟩; refine ⟨_,rfl, ?_⟩; replace HO243:=Zz.k (Kd.R_below (by (with_reducible repeat (first | apply Kd.R_alloc | apply Kd.R_drewN | apply Kd.R_drew)); exact (Kd.R_mono (Kd.R_far (p:=⟨gb249,2,none⟩) (Kd.R_far (p:=⟨gb249,1,none⟩) (Kd.R_far (p:=⟨gb249,0,none⟩) (Kd.R_mono HO243.out (fun k_ hk => (⟨hk,hk.2⟩ : _ /\ k_ ≠ gb249))) (fun _ hk => hk.2) (.int .i64 t245)) (fun _ hk => hk.2) (.int .i64 t246)) (fun _ hk => hk.2) (.int .i64 t247)) (fun _ h_ => h_.1))) hb); replace BK240:=bl BK240 hb; replace BK249:=Zz.k (Qbh (g:=gb249) (o:=.cells #[.int .i64 t245, .int .i64 t246, .int .i64 t247] 43 (0,0)) (bp (bp (bp (kk BK249) 0) 1) 2) hb); replace HB:=bs HB hb; clear hb) | ((with_reducible refine Qab (f:=42) rfl ?_); refine gl (some 19) Tryd.func42 #[.int .i64 t250] (h := ?_); (with_reducible refine (w4_num.calls t250 t251 _ A4.out).mono ?_); rintro e w' ⟨rfl,⟨nd,rfl⟩⟩; refine ⟨_,rfl, ?_⟩) | (go_at_call 42; (with_reducible refine (w4_num.calls t244 t252 _ A6.out).mono ?_); rintro e w' ⟨rfl,⟨nd,rfl⟩⟩) | (go_at_call 42; (with_reducible refine (w4_num.calls t248 t253 _ A8.out).mono ?_); rintro e w' ⟨rfl,⟨nd,rfl⟩⟩; obtain ⟨Ao33,co33,eo33⟩:=Kd.R_slice HO243.out; subst eo33))
 go_ret
 exact ⟨re,bw HB⟩
end
section
structure GoodAsk4 (l0 : List SOp) (l1 : List SElem) (l2 : List Int) : Prop where
 n0 : l0.length <= 140737488351232
 r0 : ∀ o ∈ l0,o.f4.size <= 140737488351232 /\ o.f5.length <= 140737488351232
 n1 : l1.length <= 140737488351232
 n2 : l2.length <= 140737488351232
theorem wrap4 {i n : Nat} (h : i < n) (hn : n <= 4611686018427387904) : wrap64 ((i : Int) + 1) = ((i + 1 : Nat) : Int):=by
 rw [Qar (by omega) (by omega)]; omega
theorem rd4_Op (l : List SOp) (i : Nat) (h : i < l.length) : Qau l (i : Int) = l[i]:=by unfold Qau; simp [h]
def tiny4 (o : SOp) : Prop:=o.f4.size <= 4000 /\ o.f5.length <= 1000
theorem runesOf_nil4 (s : ByteArray) : (runesOf s).length = 0 ↔ s.toList.isEmpty = true:=by
 have e : s.toList.isEmpty = true ↔ s.size = 0:=by
  rw [ByteArray.toList_eq,<- data_length,List.isEmpty_iff,List.length_eq_zero_iff]
 rw [e]
 unfold runesOf
 constructor
 ·intro h
  cases hs : s.size with
  | zero => rfl
  | succ n => rw [hs] at h; unfold Qbs at h; rw [if_pos (by omega)] at h; simp at h
 ·intro h; rw [h]; rfl
theorem Check4 (o : SOp) (hs : Sm o) : Ev (fun k => op_Check.f k o.f0 o.f1 o.f2 o.f3.f0 o.f3.f1 o.f3.f2 o.f4 o.f5 o.f6 o.f7 o.f8) (if opOk o = true then 0 else 1):=by
 refine Ev.bind (f:=fun _ t153 => if t153 = true then (some 0) else (some 1)) (op_May_f o hs) ?_
 cases h : opOk o
 ·exact Ev.now _
 ·exact Ev.now _
theorem needs4 (o : SOp) (hs : o.f4.size < 9223372036854775807) (hl : o.f5.length <= 900000) : op_Needs.f o.f0 o.f1 o.f2 o.f3.f0 o.f3.f1 o.f3.f2 o.f4 o.f5 o.f6 o.f7 o.f8 = some (if opOk o = true then (needsL o,0) else ([],1)):=by
 show needsF o = _
 unfold needsF
 rw [if_pos ⟨hs,hl⟩]
theorem tiny4_Sm {o : SOp} (h : tiny4 o) : Sm o:=⟨by have:=h.1; omega,by have:=h.2; omega⟩
end
section
theorem bytes1 {n B : Nat} (hB : 1 <= B) (h : n * B <= reachBytes) : n <= 140737488351232:=Nat.le_trans (Nat.le_mul_of_pos_right n hB) h
theorem GoodOp.le {o : SOp} (h : GoodOp o) : o.f4.size <= 140737488351232 /\ o.f5.length <= 140737488351232:=⟨h.1,bytes1 (of_decide_eq_true (by kernel_rfl)) h.2⟩
theorem GoodAsk4.of {l0 : List SOp} {l1 : List SElem} {l2 : List Int}
  (h0 : l0.length * Tryd.prog.bytesOf 55 <= reachBytes /\ ∀ x ∈ l0,GoodOp x)
  (h1 : l1.length * Tryd.prog.bytesOf 43 <= reachBytes /\ ∀ x ∈ l1,(Lit.int .i64 x.f0).wf = true /\ (Lit.int .i64 x.f1).wf = true /\ (Lit.int .i64 x.f2).wf = true)
  (h2 : l2.length * Tryd.prog.bytesOf 3 <= reachBytes /\ ∀ x ∈ l2,(Lit.int .i64 x).wf = true) : GoodAsk4 l0 l1 l2 :=
 ⟨bytes1 (of_decide_eq_true (by kernel_rfl)) h0.1,fun o ho => (h0.2 o ho).le,bytes1 (of_decide_eq_true (by kernel_rfl)) h1.1,bytes1 (of_decide_eq_true (by kernel_rfl)) h2.1⟩
theorem agg_of_cells {v : Value} {a b : Value} {l : List Value} (h : v.cells.toList = a :: b :: l) : v = .agg (a :: b :: l).toArray:=by
 cases v <;> simp [Value.cells] at h
 rw [<- h]
theorem opens_Ask (H : Type) : ∀ (enc : TypeId × Value -> H) (W : World) (base : Nat) (sp : Nat -> Bool) (held : Bool) (fuel : Nat) (cs : List Value) (x : DataW H × List MemPlace),DataW.trod enc Tryd.prog W base sp held fuel 61 cs = some x -> lightW Tryd.prog 61 x.1 ->
  ∃ A0 c0 l0 A1 c1 l1 A2 c2 l2,cs = [.slice A0 l0.length c0, .slice A1 l1.length c1, .slice A2 l2.length c2] /\ Kd.C kOp W A0 l0.length l0 /\ l0.length <= c0 /\ Kd.C Qam W A1 l1.length l1 /\ l1.length <= c1 /\ Kd.C (Kd.int .i64) W A2 l2.length l2 /\ l2.length <= c2 /\ GoodAsk4 l0 l1 l2:=by
 intro enc W base sp held fuel cs x h hl
 have hS:=Qbz.struct (H:=H) Tryd.underlying61 (by kernel_rfl)
  (Qbw.cons (opens_Ops H) (by kernel_rfl) rfl rfl (Qbw.cons (opens_Elems H) (by kernel_rfl) rfl rfl (Qbw.last (opens_Ints H) (by kernel_rfl) rfl rfl)))
 obtain ⟨⟨l0,l1,l2⟩,hp,hg⟩:=hS enc W base sp held fuel cs x h hl
 obtain ⟨_,_,rfl,⟨A0,c0,rfl,h0,g0⟩,⟨_,_,rfl,⟨A1,c1,rfl,h1,g1⟩,⟨A2,c2,rfl,h2,g2⟩⟩⟩:=hp
 exact ⟨A0,c0,l0,A1,c1,l1,A2,c2,l2,rfl,g0,h0,g1,h1,g2,h2,GoodAsk4.of hg.1 hg.2.1 hg.2.2⟩
end
end Go.Proofs.YtonoaflfobajcaaDoor.L
end

section
namespace Go.Proofs.YtonoaflfobajcaaDoor.door
open Go.Shelf Go.ChangeShapes Go.WideShapes Go.ChangeAt Go.RowKit Go.Lib Go.Proofs.YtonoaflfobajcaaDoor.L Go.Proofs.YtonoaflfobajcaaDoorW.PrintWords
set_option linter.unusedVariables false
set_option linter.unusedSimpArgs false
set_option maxHeartbeats 40000000
set_option maxRecDepth 1000000
section
theorem own : ownKnob Tryd.prog.godebug = none:=by kernel_rfl
theorem laidOut : laidOutB Tryd.prog = true:=by kernel_rfl
abbrev laid2 : List (String × DataW Unit) := [("unicode/utf8.acceptRanges", Rows.laid_unicode_utf8_acceptRanges), ("unicode/utf8.first", Rows.laid_unicode_utf8_first)]
theorem accept_eq : (Rows.laid_unicode_utf8_acceptRanges : DataW Unit) = Lib.acceptData:=by kernel_rfl
theorem first_eq : Rows.laid_unicode_utf8_first = Lib.firstData:=by kernel_rfl
theorem gt_of {W : World} (hL : laidMetH Tryd.prog laid2 W) : GT W:=by
 have h1:=Lib.laidMet.reads hL (.head _)
 have h2:=Lib.laidMet.reads hL (.tail _ (.head _))
 rw [accept_eq] at h1
 rw [first_eq] at h2
 exact utf8Tabs_of_reads Tryd.lays260 ⟨by kernel_rfl,by kernel_rfl,by kernel_rfl,by kernel_rfl,by kernel_rfl,by kernel_rfl,by kernel_rfl⟩ h2 h1
noncomputable def laidWorld (os : Os) : World :=
 let w0:=World.holding Tryd.prog os ⟨#[],#[],[]⟩
 let put (h : Array Obj) (g : Nat) (cs : Array Value) : Array Obj:=h.modify g fun
  | .cells _ t frozen => .cells cs t frozen
  | o => o
 let h1:=put w0.heap 0 (Lib.firstTab.map fun z => Value.int .u8 z).toArray
 let h2:=put h1 1 ((List.range 16).flatMap fun i => [Value.int .u8 (Lib.accLo i),Value.int .u8 (Lib.accHi i)]).toArray
 { w0 with heap:=h2 }
theorem laid_met (os : Os) (args : Array Value) : laidMet Tryd.prog laid2 ((laidWorld os).forCall (fun _ _ => 0) ⟨#[],args,[]⟩).memory :=
 (LaidIn.of_run (l:=laid2) [1,0] 8 (by kernel_rfl) (by kernel_rfl) (by kernel_rfl) (by kernel_rfl)).met
end
end Go.Proofs.YtonoaflfobajcaaDoor.door
end
