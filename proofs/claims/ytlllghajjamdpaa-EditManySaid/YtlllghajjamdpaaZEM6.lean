/- Part 6 of the proof that for every argument the law EditMany answers true: many edits, one behind the other, by sites in turn, are each a row's next op; the text is as if each had been done to it plainly. -/
import Derived.Test.YtlllghajjamdpaaZEM5
import Derived.Shelf.SlSortCmp.WholeK
import Derived.Shelf.SlicesE.Clone
import Derived.Test.YtlllghajjamdpaaProg
import Derived.Lib.SliceRun
import Derived.Shelf.SlSortCmp.NoneTotal
import Derived.Laws.IdiomStrings
import Derived.Laws.Cover4
section
namespace Go.Proofs.Ytlllghajjamdpaa.L
open Go.RowKit Go.Proofs.YtlllghajjamdpaaW.PrintWords Go.Proofs.YtlllghajjamdpaaW.PrintLast Go.Proofs.YtlllghajjamdpaaW.PrintMore
set_option linter.unusedVariables false
set_option linter.unusedSimpArgs false
set_option maxHeartbeats 40000000
set_option maxRecDepth 1000000
section
def mkE (k : Int × Int × Int) : SElem:=⟨k.1,k.2.1,k.2.2⟩
def goneS (l ms : List SOp) : Int × Int × Int -> Bool:=fun k => ms.any fun o => workE l o && decide (mkE k ∈ o.f5)
def theS (l ms : List SOp) : Int × Int × Int -> Bool:=fun k => ms.any fun o => workE l o && decide (mkE k ∈ Qao o)
def addS (S : Int × Int × Int -> Bool) (es : List SElem) : Int × Int × Int -> Bool:=fun k => S k || decide (mkE k ∈ es)
theorem addS_nil (S : Int × Int × Int -> Bool) : addS S [] = S:=by funext k; simp [addS]
theorem addS_snoc (S : Int × Int × Int -> Bool) (es : List SElem) (x : SElem) : updB (addS S es) (x.f0,x.f1,x.f2) = addS S (es ++ [x]):=by
 funext k
 unfold updB addS
 by_cases h : k = (x.f0,x.f1,x.f2)
 ·rw [if_pos h]
  have : mkE k = x:=by rw [h]; rfl
  simp [this]
 ·rw [if_neg h]
  have : mkE k ≠ x:=fun e => h (by rw [<- e]; rfl)
  simp [this]
theorem goneS_snoc (l ms : List SOp) (o : SOp) : goneS l (ms ++ [o]) = if workE l o = true then addS (goneS l ms) o.f5 else goneS l ms:=by
 funext k
 have h1 : ∀ b : Bool,(if b = true then (fun k => goneS l ms k || decide (mkE k ∈ o.f5)) else goneS l ms) k = (goneS l ms k || (b && decide (mkE k ∈ o.f5))):=by intro b; cases b <;> simp
 refine Eq.trans ?_ (h1 (workE l o)).symm
 unfold goneS
 rw [List.any_append]; simp
theorem theS_snoc (l ms : List SOp) (o : SOp) : theS l (ms ++ [o]) = if workE l o = true then addS (theS l ms) (Qao o) else theS l ms:=by
 funext k
 have h1 : ∀ b : Bool,(if b = true then (fun k => theS l ms k || decide (mkE k ∈ Qao o)) else theS l ms) k = (theS l ms k || (b && decide (mkE k ∈ Qao o))):=by intro b; cases b <;> simp
 refine Eq.trans ?_ (h1 (workE l o)).symm
 unfold theS
 rw [List.any_append]; simp
structure K2 (b1 b2 : Nat) (w w' : World) : Prop where
 os : w'.os = w.os
 tape : w'.tape = w.tape
 output : w'.output = w.output
 size : w.heap.size <= w'.heap.size
 block : ∀ k,k < w.heap.size -> k ≠ b1 -> k ≠ b2 -> w'.heap[k]? = w.heap[k]?
theorem K2.refl (b1 b2 : Nat) (w : World) : K2 b1 b2 w w:=⟨rfl,rfl,rfl,Nat.le_refl _,fun _ _ _ _ => rfl⟩
theorem K2.below {b1 b2 : Nat} {w w1 w2 : World} (h : K2 b1 b2 w w1) (k : Below w1.heap.size w1 w2) : K2 b1 b2 w w2 :=
 ⟨k.os.trans h.os,k.tape.trans h.tape,k.output.trans h.output,Nat.le_trans h.size k.size,fun i hi h1 h2 => (k.block i (Nat.lt_of_lt_of_le hi h.size)).trans (h.block i hi h1 h2)⟩
theorem K2.grown {b1 b2 b : Nat} {w w1 w2 : World} (h : K2 b1 b2 w w1) (k : w1.grownBy w2 (some b)) (hb : b = b1 \/ b = b2) : K2 b1 b2 w w2 :=
 ⟨k.os.trans h.os,k.tape.trans h.tape,k.output.trans h.output,Nat.le_trans h.size k.size,fun i hi h1 h2 => (k.block i (Nat.lt_of_lt_of_le hi h.size) (fun e => by injection e with e; rcases hb with rfl | rfl; exact h1 e; exact h2 e)).trans (h.block i hi h1 h2)⟩
theorem K2.cell {b1 b2 : Nat} {w w' : World} (h : K2 b1 b2 w w') {a : Addr} {v : Value} (hc : w.cell? a = some v) (h1 : a.block ≠ b1) (h2 : a.block ≠ b2) : w'.cell? a = some v:=by
 have:=h.block a.block (World.block_lt_of_cell? w a hc) h1 h2
 simpa [World.cell?,this] using hc
theorem K2.toBelow {b1 b2 B : Nat} {w0 w w' : World} (hb : Below B w0 w) (h : K2 b1 b2 w w') (hB : B <= w.heap.size) (h1 : B <= b1) (h2 : B <= b2) : Below B w0 w' :=
 hb.trans ⟨h.os,h.tape,h.output,h.size,fun i hi => h.block i (Nat.lt_of_lt_of_le hi hB) (by omega) (by omega)⟩
theorem smalls_Sm {l : List SOp} (h : smalls l = true) : ∀ o ∈ l,Sm o:=by
 unfold smalls SmB at h
 simp only [Bool.and_eq_true,decide_eq_true_eq,List.all_eq_true] at h
 intro o ho
 have:=h.2 o ho
 exact ⟨by omega,by omega⟩
theorem opOk_gone200 {o : SOp} (h : opOk o = true) : o.f5.length <= 200:=by
 rcases opOk_kinds h with ⟨_,h2⟩ | ⟨_,h2⟩
 ·unfold editOk goneOk at h2
  simp only [Bool.and_eq_true,decide_eq_true_eq] at h2
  omega
 ·unfold Qbj at h2
  simp only [Bool.and_eq_true,List.isEmpty_iff] at h2
  rw [h2.2]; simp
theorem gone_in {o : SOp} (h : opOk o = true) : ∀ e ∈ o.f5,inI e.f0 /\ inI e.f1 /\ inI e.f2:=by
 intro e he
 obtain ⟨hb,hk,_⟩:=opOk_goneMem h e he
 obtain ⟨i0,i1⟩:=elemOk_in hk hb
 have:=elemOk_pos hk hb
 exact ⟨i0,i1,by unfold inI; omega⟩
theorem chain_in {o : SOp} (h : opOk o = true) : ∀ e ∈ Qao o,inI e.f0 /\ inI e.f1 /\ inI e.f2:=by
 intro e he
 obtain ⟨e0,e1,h2,h3⟩:=(mem_chain o e).1 he
 have hn:=opOk_name h
 have hs:=(Qci h).1
 rw [<- e0,<- e1]
 exact ⟨hn.1,hn.2,by unfold inI; omega⟩
theorem K2.trans {b1 b2 : Nat} {w w1 w2 : World} (h : K2 b1 b2 w w1) (k : K2 b1 b2 w1 w2) : K2 b1 b2 w w2 :=
 ⟨k.os.trans h.os,k.tape.trans h.tape,k.output.trans h.output,Nat.le_trans h.size k.size,fun i hi h1 h2 => (k.block i (Nat.lt_of_lt_of_le hi h.size) h1 h2).trans (h.block i hi h1 h2)⟩
theorem ord_in {l : List SOp} (h : RowOk l) : ∀ e,e ∈ ordL l -> inI e.f0 /\ inI e.f1 /\ inI e.f2:=by
 intro e he
 obtain ⟨p,hp,e0,e1,h2,h3⟩:=(Qbx h e).1 he
 exact chain_in (h.oks p hp) e ((mem_chain p e).2 ⟨e0,e1,h2,h3⟩)
theorem mk_runE (t : TypeId) (w : World) : (Instr.makeMap t none).run Try.prog w = .ok (.map (some w.heap.size)) (w.alloc (.map #[] 0)):=rfl
theorem seen_start (w : World) : Below w.heap.size w ((((w.alloc (.map #[] 0)).alloc (.cells #[.map (some w.heap.size)] 63)).alloc (.map #[] 0)).alloc (.cells #[.map (some (w.heap.size + 1 + 1))] 63)) /\
  MapE ((((w.alloc (.map #[] 0)).alloc (.cells #[.map (some w.heap.size)] 63)).alloc (.map #[] 0)).alloc (.cells #[.map (some (w.heap.size + 1 + 1))] 63)) w.heap.size 0 (fun _ => false) /\
  MapE ((((w.alloc (.map #[] 0)).alloc (.cells #[.map (some w.heap.size)] 63)).alloc (.map #[] 0)).alloc (.cells #[.map (some (w.heap.size + 1 + 1))] 63)) (w.heap.size + 1 + 1) 0 (fun _ => false) /\
  (((((w.alloc (.map #[] 0)).alloc (.cells #[.map (some w.heap.size)] 63)).alloc (.map #[] 0)).alloc (.cells #[.map (some (w.heap.size + 1 + 1))] 63)).cell? ⟨w.heap.size + 1,0,none⟩ = some (.map (some w.heap.size)) /\
   ((((w.alloc (.map #[] 0)).alloc (.cells #[.map (some w.heap.size)] 63)).alloc (.map #[] 0)).alloc (.cells #[.map (some (w.heap.size + 1 + 1))] 63)).cell? ⟨w.heap.size + 1 + 1 + 1,0,none⟩ = some (.map (some (w.heap.size + 1 + 1)))) /\
  ((((w.alloc (.map #[] 0)).alloc (.cells #[.map (some w.heap.size)] 63)).alloc (.map #[] 0)).alloc (.cells #[.map (some (w.heap.size + 1 + 1))] 63)).heap.size = w.heap.size + 4:=by
 have m1 : MapE (w.alloc (.map #[] 0)) w.heap.size 0 (fun _ => false):=MapB.made _ _ _ _
 have m1':=m1.kept (World.grownBy_alloc _ (.cells #[.map (some w.heap.size)] 63) none) (by simp)
 have hs2 : ((w.alloc (.map #[] 0)).alloc (.cells #[.map (some w.heap.size)] 63)).heap.size = w.heap.size + 1 + 1:=by simp
 have hb2 : Below w.heap.size w ((w.alloc (.map #[] 0)).alloc (.cells #[.map (some w.heap.size)] 63)):=Qad (Qad (Below.refl _ _) _) _
 have hc2 : ((w.alloc (.map #[] 0)).alloc (.cells #[.map (some w.heap.size)] 63)).cell? ⟨w.heap.size + 1,0,none⟩ = some (.map (some w.heap.size)):=top_cell _ _ _ _ 0 (by simp)
 generalize (w.alloc (.map #[] 0)).alloc (.cells #[.map (some w.heap.size)] 63) = w2 at m1' hs2 hb2 hc2 ⊢
 have m2 : MapE (w2.alloc (.map #[] 0)) (w.heap.size + 1 + 1) 0 (fun _ => false):=by
  have:=MapB.made encE 30 4 w2; rw [hs2] at this; exact this
 have m1'':=m1'.kept (World.grownBy_alloc _ (.map #[] 0) none) (by simp)
 have hs3 : (w2.alloc (.map #[] 0)).heap.size = w.heap.size + 1 + 1 + 1:=by simp [hs2]
 have hb3:=Qad hb2 (.map #[] 0)
 have hc3:=Qaa (Qad (Below.refl w2.heap.size w2) (.map #[] 0)) hc2
 generalize w2.alloc (.map #[] 0) = w3 at m1'' m2 hs3 hb3 hc3 ⊢
 have m1a:=m1''.kept (World.grownBy_alloc _ (.cells #[.map (some (w.heap.size + 1 + 1))] 63) none) (by simp)
 have m2a:=m2.kept (World.grownBy_alloc _ (.cells #[.map (some (w.heap.size + 1 + 1))] 63) none) (by simp)
 exact ⟨Qad hb3 _,m1a,m2a,⟨Qaa (Qad (Below.refl w3.heap.size w3) _) hc3,top_cell _ _ _ _ 0 hs3⟩,by simp [hs3]⟩
def doc_Seen.f (l0 : List (SOp)) : Option ((List (SElem))):=if smalls l0 = true /\ mayB l0 = true then some (Qak l0) else none
theorem doc_Seen.calls (A0 : Option Addr) (c0 : Nat) (l0 : List (SOp)) (r : List (SElem)) (w : World) (hr0 : Kd.C kOp w A0 l0.length l0) (hc0 : l0.length <= c0) (h : doc_Seen.f l0 = some r) :
  Calls Try.prog 12 #[.slice A0 l0.length c0] w fun e w' => ∃ v0_ : Value,e = .returned (v0_) /\ Kd.R Qaw 30 w' w.heap.size (fun _ => True) v0_ r /\ Below w.heap.size w w':=by
 unfold doc_Seen.f at h
 split at h
 case isFalse => cases h
 rename_i hsm
 obtain ⟨hs,hm⟩:=hsm
 obtain rfl:=Zo h
 have hrow:=(Qbp l0).1 hm
 obtain ⟨kw,hkw⟩:=Ev.rounds (Works_ev hrow)
 have HR0:=Zz.k hr0
 have HC0:=Zz.k hc0
 have HW:=Zz.k (fun (W : World) (hb : Below w.heap.size w W) => doc_Works.calls kw A0 c0 l0 (worksL l0) W (Kd.C_below hr0 hb) hc0 hkw)
 have HROW:=Zz.k hrow
 have HSM:=Zz.k hs
 clear hr0 hc0 h hm hs hkw hrow
 go_enter Try.func12,Try.ntmps12
 have mk1:=fun w => mk_runE 63 w
 obtain ⟨s0,s1,s2,s3,s4⟩:=seen_start w
 have S1:=Zz.k s1
 have S2:=Zz.k s2
 have hW4:=HW.out _ s0
 have S0:=Zz.k s0
 have HW4:=Zz.k hW4
 have S3:=Zz.k s3
 have S4:=Zz.k s4
 clear s0 s1 s2 s3 s4 hW4 HW
 go_wp2_with fail
 refine HW4.out.mono ?_
 rintro e wW ⟨vW,rfl,hRW,hbW⟩
 obtain ⟨HBW,M1,M2,c1,c2,lW⟩ : Zz (Below w.heap.size w wW) /\ Zz (MapE wW w.heap.size 0 (fun _ => false)) /\ Zz (MapE wW (w.heap.size + 1 + 1) 0 (fun _ => false)) /\ wW.cell? ⟨w.heap.size + 1,0,none⟩ = some (.map (some w.heap.size)) /\ wW.cell? ⟨w.heap.size + 1 + 1 + 1,0,none⟩ = some (.map (some (w.heap.size + 1 + 1))) /\ w.heap.size + 4 <= wW.heap.size:=by
  refine ⟨⟨Qal S0.out hbW⟩,⟨S1.out.below hbW S1.out.lt⟩,⟨S2.out.below hbW S2.out.lt⟩,Qaa hbW S3.out.1,Qaa hbW S3.out.2, ?_⟩
  have:=hbW.size; rw [S4.out] at this; exact this
 have hRW2:=Kd.R_mono (Kd.R_bound hRW) (ok':=fun k => k ≠ w.heap.size /\ k ≠ w.heap.size + 1 + 1) (fun k hk => by have:=hk.2.1; rw [S4.out] at this; exact ⟨by omega,by omega⟩)
 have hlW : (worksL l0).length = l0.length:=by simp [worksL]
 obtain ⟨AW,cW,rfl,hcW,_⟩:=Kd.R_reads hRW2
 rw [hlW] at hcW ⊢
 have HCW:=Zz.k (fun (wr : World) (hk : K2 w.heap.size (w.heap.size + 1 + 1) wW wr) => (Kd.R_reads' (Kd.R_step hRW2 (fun k ho hlt => hk.block k hlt ho.1 ho.2))).2.2)
 have HC1:=Zz.k c1
 have HC2:=Zz.k c2
 have LW:=Zz.k lW
 clear hRW hRW2 hbW c1 c2 lW S0 S1 S2 S3 S4 HW4 hcW mk1
 rw [hlW] at HCW
 clear hlW
 go_wp2
 go_loopg [16] l0.length (fun gg s16 wr => ∃ i : Nat,i <= l0.length /\ l0.length - i <= gg /\ s16 = .int .i64 i /\ Zz (K2 w.heap.size (w.heap.size + 1 + 1) wW wr) /\ Zz (∃ n1 n2,n1 <= 200 * i /\ n2 <= 12 * i /\ MapE wr w.heap.size n1 (goneS l0 (l0.take i)) /\ MapE wr (w.heap.size + 1 + 1) n2 (theS l0 (l0.take i))))
 case atStart => exact ⟨0,Nat.zero_le _,by omega,rfl,⟨K2.refl _ _ _⟩,⟨0,0,Nat.le_refl _,Nat.le_refl _,M1.out,M2.out⟩⟩
 case round =>
  clear M1 M2
  obtain ⟨i,hi,hgk,rfl,HK,HM⟩:=hrel
  have h40:=HROW.out.sums.1
  by_cases hlt : i < l0.length
  ·obtain ⟨g',rfl⟩ : ∃ g',gk = g' + 1:=⟨gk - 1,by omega⟩
   have hltz : (i : Int) < (l0.length : Int):=by omega
   have h0z : (0 : Int) <= (i : Int):=by omega
   obtain ⟨adW,rfl,xw⟩:=Kd.at_bool (HCW.out wr HK.out) (i : Int) h0z (by omega)
   simp only [Int.toNat_natCast] at xw
   have hrdw : rdOf false (worksL l0) (i : Int) = workE l0 l0[i]:=by
    unfold rdOf worksL
    rw [Int.toNat_natCast,List.getD_eq_getElem?_getD,List.getElem?_map,List.getElem?_eq_getElem hlt]; rfl
   rw [hrdw] at xw
   cases hwk : workE l0 l0[i] with
   | false =>
    rw [hwk] at xw
    have HM2:=Zz.k (show ∃ n1 n2,n1 <= 200 * (i + 1) /\ n2 <= 12 * (i + 1) /\ MapE wr w.heap.size n1 (goneS l0 (l0.take (i + 1))) /\ MapE wr (w.heap.size + 1 + 1) n2 (theS l0 (l0.take (i + 1))) by
     obtain ⟨n1,n2,h1,h2,h3,h4⟩:=HM.out
     rw [List.take_succ_eq_append_getElem hlt,goneS_snoc,theS_snoc,hwk]
     exact ⟨n1,n2,by omega,by omega,h3,h4⟩)
    clear hwk hrdw HM
    go_wp2
    go_roundg g'
    case measure => omega
    case rel => exact ⟨i + 1,by omega,by omega,by go_num,HK,HM2⟩
   | true =>
    rw [hwk] at xw
    have hoi:=HROW.out.oks _ (List.getElem_mem hlt)
    have hSm:=smalls_Sm HSM.out _ (List.getElem_mem hlt)
    obtain ⟨ad,A7,c7,rfl,x0,x1,x2,x3,x4,x5,x6,x7,x8,x9,x10,l7,g7⟩:=at_Op HR0.out (i : Int) h0z hltz
    have LW1:=LW.out
    have hbr : Below w.heap.size w wr:=K2.toBelow HBW.out HK.out (by omega) (Nat.le_refl _) (by omega)
    simp only [Int.toNat_natCast,Qax _ _ hlt] at x0 x1 x2 x3 x4 x5 x6 x7 x8 x9 x10 l7 g7
    generalize hoe : l0[i] = o at x0 x1 x2 x3 x4 x5 x6 x7 x8 x9 x10 l7 g7 hwk hoi hSm
    have HOE:=Zz.k hoe
    have HWK:=Zz.k hwk
    have HOI:=Zz.k hoi
    have HSO:=Zz.k hSm
    have HG7:=Zz.k g7
    have HL7:=Zz.k l7
    have HX:=Zz.k (And.intro x0 (And.intro x1 (And.intro x2 (And.intro x3 (And.intro x4 (And.intro x5 (And.intro x6 (And.intro x7 (And.intro x8 (And.intro x9 x10))))))))))
    have e7:=Qaa hbr x7
    have h200:=opOk_gone200 hoi
    clear x0 x1 x2 x3 x4 x5 x6 x7 x8 x9 x10 l7 g7 hwk hoi hSm hoe hrdw hbr
    go_wp2
    go_loopg [29] o.f5.length (fun gg s29 w' => ∃ j : Nat,j <= o.f5.length /\ o.f5.length - j <= gg /\ s29 = .int .i64 j /\ Zz (K2 w.heap.size (w.heap.size + 1 + 1) wW w') /\ Zz (∃ n1 n2,n1 <= 200 * i + j /\ n2 <= 12 * i /\ MapE w' w.heap.size n1 (addS (goneS l0 (l0.take i)) (o.f5.take j)) /\ MapE w' (w.heap.size + 1 + 1) n2 (theS l0 (l0.take i))))
    case atStart =>
     obtain ⟨n1,n2,h1,h2,h3,h4⟩:=HM.out
     exact ⟨0,Nat.zero_le _,by omega,rfl,HK,⟨n1,n2,by omega,by omega,by rw [List.take_zero,addS_nil]; exact h3,h4⟩⟩
    case round =>
     clear HM HK xw e7
     obtain ⟨j,hj,hgk2,rfl,HK,HM⟩:=hrel
     by_cases hjl : j < o.f5.length
     ·obtain ⟨g2,rfl⟩ : ∃ g2,gk = g2 + 1:=⟨gk - 1,by omega⟩
      have hjz : (j : Int) < (o.f5.length : Int):=by omega
      have hj0 : (0 : Int) <= (j : Int):=by omega
      have hbr : Below w.heap.size w wr:=K2.toBelow HBW.out HK.out (by omega) (Nat.le_refl _) (by omega)
      obtain ⟨ad7,rfl,y0,y1,y2⟩:=Qck (Kd.C_below HG7.out hbr) (j : Int) hj0 hjz
      simp only [Int.toNat_natCast,Qat _ _ hjl] at y0 y1 y2
      have hxi:=gone_in HOI.out _ (List.getElem_mem hjl)
      have hsn:=addS_snoc (goneS l0 (l0.take i)) (o.f5.take j) o.f5[j]
      rw [<- List.take_succ_eq_append_getElem hjl] at hsn
      generalize o.f5[j] = x at y0 y1 y2 hxi hsn
      obtain ⟨n1,n2,h1,h2,h3,h4⟩:=HM.out
      have hal : Below wr.heap.size wr (wr.alloc (.cells #[.int .i64 x.f0, .int .i64 x.f1, .int .i64 x.f2] 30)):=Qad (Below.refl _ _) _
      obtain ⟨kl,hkl⟩:=keyE (x:=(x.f0,x.f1,x.f2)) hxi.1 hxi.2.1 hxi.2.2
      obtain ⟨w6,hrun,hm6,hg6⟩:=(h3.below hal h3.lt).store lawE Try.underlying63 Try.underlying4 (Nat.lt_of_le_of_lt (m:=10000) (by omega) (by decide)) encE_inj (x.f0,x.f1,x.f2) hkl
      rw [hsn] at hm6
      simp only [encE] at hrun
      have q1:=Qaa hal (HK.out.cell HC1.out (by simp) (by simp))
      have HK6:=Zz.k ((HK.out.below hal).grown hg6 (.inl rfl))
      have HM6:=Zz.k (show ∃ n1 n2,n1 <= 200 * i + (j + 1) /\ n2 <= 12 * i /\ MapE w6 w.heap.size n1 (addS (goneS l0 (l0.take i)) (o.f5.take (j + 1))) /\ MapE w6 (w.heap.size + 1 + 1) n2 (theS l0 (l0.take i)) from
       ⟨n1 + 1,n2,by omega,h2,hm6,(h4.below hal h4.lt).kept hg6 (fun e => by injection e with e; omega)⟩)
      clear h1 h2 h3 h4 hm6 hg6 hsn hxi hkl hal hbr HM HK
      go_wp2
      go_roundg g2
      case measure => omega
      case rel => exact ⟨j + 1,by omega,by omega,by go_num,HK6,HM6⟩
     ·obtain rfl : j = o.f5.length:=by omega
      have hjz : ¬ (o.f5.length : Int) < (o.f5.length : Int):=by omega
      have hbr : Below w.heap.size w wr:=K2.toBelow HBW.out HK.out (by omega) (Nat.le_refl _) (by omega)
      obtain ⟨x0,x1,x2,x3,x4,x5,x6,x7,x8,x9,x10⟩:=HX.out
      replace x0:=Qaa hbr x0
      replace x1:=Qaa hbr x1
      replace x2:=Qaa hbr x2
      replace x3:=Qaa hbr x3
      replace x4:=Qaa hbr x4
      replace x5:=Qaa hbr x5
      replace x6:=Qaa hbr x6
      replace x7:=Qaa hbr x7
      replace x8:=Qaa hbr x8
      replace x9:=Qaa hbr x9
      replace x10:=Qaa hbr x10
      have hsz:=(Qci HOI.out).1
      obtain ⟨ka,hka⟩:=Ev.rounds (All_ev o HSO.out (by omega))
      have HAL:=Zz.k (op_All.calls ka o.f0 o.f1 o.f2 o.f3.f0 o.f3.f1 o.f3.f2 o.f4 A7 c7 o.f5 o.f6 o.f7 o.f8 (Qao o) wr (Kd.C_below HG7.out hbr) HL7.out hka)
      have HSZ:=Zz.k hsz
      clear hbr hka hsz
      go_wp2_with fail
      refine HAL.out.mono ?_
      rintro e wA ⟨vA,rfl,hRA,hbA⟩
      have hsr:=HK.out.size
      have hRA2:=Kd.R_mono (Kd.R_bound hRA) (ok':=fun k => k ≠ w.heap.size /\ k ≠ w.heap.size + 1 + 1) (fun k hk => by have:=hk.2.1; exact ⟨by omega,by omega⟩)
      have hlA : (Qao o).length = Qaj o:=Qbt o
      obtain ⟨AA,cA,rfl,hcA,_⟩:=Kd.R_reads hRA2
      have HCA:=Zz.k (fun (w' : World) (hk : K2 w.heap.size (w.heap.size + 1 + 1) wA w') => (Kd.R_reads' (Kd.R_step hRA2 (fun k ho hlt => hk.block k hlt ho.1 ho.2))).2.2)
      have HKA:=Zz.k (HK.out.below hbA)
      have HMA:=Zz.k (show ∃ n1 n2,n1 <= 200 * i + o.f5.length /\ n2 <= 12 * i /\ MapE wA w.heap.size n1 (addS (goneS l0 (l0.take i)) o.f5) /\ MapE wA (w.heap.size + 1 + 1) n2 (theS l0 (l0.take i)) by
       obtain ⟨n1,n2,h1,h2,h3,h4⟩:=HM.out
       rw [List.take_length] at h3
       exact ⟨n1,n2,h1,h2,h3.below hbA h3.lt,h4.below hbA h4.lt⟩)
      have HLA:=Zz.k (show (Qao o).length <= 12 by rw [hlA]; exact HSZ.out)
      clear hRA hRA2 hlA hcA hbA HAL HK HM x0 x1 x2 x3 x4 x5 x6 x7 x8 x9 x10 hsr
      go_wp2
      go_loopg [42] (Qao o).length (fun gg s42 w' => ∃ j : Nat,j <= (Qao o).length /\ (Qao o).length - j <= gg /\ s42 = .int .i64 j /\ Zz (K2 w.heap.size (w.heap.size + 1 + 1) wA w') /\ Zz (∃ n1 n2,n1 <= 200 * (i + 1) /\ n2 <= 12 * i + j /\ MapE w' w.heap.size n1 (addS (goneS l0 (l0.take i)) o.f5) /\ MapE w' (w.heap.size + 1 + 1) n2 (addS (theS l0 (l0.take i)) ((Qao o).take j))))
      case atStart =>
       obtain ⟨n1,n2,h1,h2,h3,h4⟩:=HMA.out
       exact ⟨0,Nat.zero_le _,by omega,rfl,⟨K2.refl _ _ _⟩,⟨n1,n2,by omega,by omega,h3,by rw [List.take_zero,addS_nil]; exact h4⟩⟩
      case round =>
       clear HMA
       obtain ⟨j,hj,hgk2,rfl,HK,HM⟩:=hrel
       have hcl:=HLA.out
       by_cases hjl : j < (Qao o).length
       ·obtain ⟨g2,rfl⟩ : ∃ g2,gk = g2 + 1:=⟨gk - 1,by omega⟩
        have hjz : (j : Int) < ((Qao o).length : Int):=by omega
        have hj0 : (0 : Int) <= (j : Int):=by omega
        obtain ⟨ad7,rfl,y0,y1,y2⟩:=Qck (HCA.out wr HK.out) (j : Int) hj0 hjz
        simp only [Int.toNat_natCast,Qat _ _ hjl] at y0 y1 y2
        have hxi:=chain_in HOI.out _ (List.getElem_mem hjl)
        have hsn:=addS_snoc (theS l0 (l0.take i)) ((Qao o).take j) (Qao o)[j]
        rw [<- List.take_succ_eq_append_getElem hjl] at hsn
        generalize (Qao o)[j] = x at y0 y1 y2 hxi hsn
        obtain ⟨n1,n2,h1,h2,h3,h4⟩:=HM.out
        have hal : Below wr.heap.size wr (wr.alloc (.cells #[.int .i64 x.f0, .int .i64 x.f1, .int .i64 x.f2] 30)):=Qad (Below.refl _ _) _
        obtain ⟨kl,hkl⟩:=keyE (x:=(x.f0,x.f1,x.f2)) hxi.1 hxi.2.1 hxi.2.2
        obtain ⟨w6,hrun,hm6,hg6⟩:=(h4.below hal h4.lt).store lawE Try.underlying63 Try.underlying4 (Nat.lt_of_le_of_lt (m:=10000) (by omega) (by decide)) encE_inj (x.f0,x.f1,x.f2) hkl
        rw [hsn] at hm6
        simp only [encE] at hrun
        have q1:=Qaa hal (HK.out.cell (HKA.out.cell HC2.out (by show w.heap.size + 1 + 1 + 1 ≠ _; omega) (by show w.heap.size + 1 + 1 + 1 ≠ _; omega)) (by show w.heap.size + 1 + 1 + 1 ≠ _; omega) (by show w.heap.size + 1 + 1 + 1 ≠ _; omega))
        have HK6:=Zz.k ((HK.out.below hal).grown hg6 (.inr rfl))
        have HM6:=Zz.k (show ∃ n1 n2,n1 <= 200 * (i + 1) /\ n2 <= 12 * i + (j + 1) /\ MapE w6 w.heap.size n1 (addS (goneS l0 (l0.take i)) o.f5) /\ MapE w6 (w.heap.size + 1 + 1) n2 (addS (theS l0 (l0.take i)) ((Qao o).take (j + 1))) from
         ⟨n1,n2 + 1,h1,by omega,(h3.below hal h3.lt).kept hg6 (fun e => by injection e with e; omega),hm6⟩)
        clear h1 h2 h3 h4 hm6 hg6 hsn hxi hkl hal HM HK
        go_wp2
        go_roundg g2
        case measure => omega
        case rel => exact ⟨j + 1,by omega,by omega,by go_num,HK6,HM6⟩
       ·obtain rfl : j = (Qao o).length:=by omega
        have hjz : ¬ ((Qao o).length : Int) < ((Qao o).length : Int):=by omega
        have HK8:=Zz.k (K2.trans HKA.out HK.out)
        have HM8:=Zz.k (show ∃ n1 n2,n1 <= 200 * (i + 1) /\ n2 <= 12 * (i + 1) /\ MapE wr w.heap.size n1 (goneS l0 (l0.take (i + 1))) /\ MapE wr (w.heap.size + 1 + 1) n2 (theS l0 (l0.take (i + 1))) by
         obtain ⟨n1,n2,h1,h2,h3,h4⟩:=HM.out
         rw [List.take_length] at h4
         rw [List.take_succ_eq_append_getElem hlt,HOE.out,goneS_snoc,theS_snoc,HWK.out]
         exact ⟨n1,n2,h1,by omega,h3,h4⟩)
        clear HK HM
        go_wp2
        go_roundg g'
        case measure => omega
        case rel => exact ⟨i + 1,by omega,by omega,by go_num,HK8,HM8⟩
  ·obtain rfl : i = l0.length:=by omega
   have hltz : ¬ (l0.length : Int) < (l0.length : Int):=by omega
   have LW1:=LW.out
   have hbr : Below w.heap.size w wr:=K2.toBelow HBW.out HK.out (by omega) (Nat.le_refl _) (by omega)
   have HAL:=Zz.k (tree_All.calls A0 c0 l0 (ordL l0) wr (Kd.C_below HR0.out hbr) HC0.out (tree_All_f HSM.out HROW.out))
   have HBR:=Zz.k hbr
   clear hbr
   go_wp2_with fail
   refine HAL.out.mono ?_
   rintro e wA ⟨vA,rfl,hRA,hbA⟩
   obtain ⟨AA,cA,rfl⟩:=Kd.R_slice hRA
   have hsr:=HK.out.size
   have hlen : (ordL l0).length <= 200:=by rw [(Qbw HROW.out).2]; exact HROW.out.sums.2
   have hown:=Kd.R_base hRA
   have hD:=DeleteFuncElem 30 #[.pointer (some ⟨w.heap.size + 1,0,none⟩), .pointer (some ⟨w.heap.size + 1 + 1 + 1,0,none⟩)] wr.heap.size cA AA (ordL l0) (fun x => goneS l0 l0 (x.f0,x.f1,x.f2) || !theS l0 l0 (x.f0,x.f1,x.f2)) wA
    (enters_at Try.func30 (by kernel_rfl) rfl) (by omega) hRA (fun W x hx hg => by
     obtain ⟨n1,n2,h1,h2,h3,h4⟩:=HM.out
     rw [List.take_length] at h3 h4
     have a3:=(h3.below hbA h3.lt).kept hg (fun e => by have:=hown _ e.symm; omega)
     have a4:=(h4.below hbA h4.lt).kept hg (fun e => by have:=hown _ e.symm; omega)
     have k1:=Qaa hbA (HK.out.cell HC1.out (by show w.heap.size + 1 ≠ _; omega) (by show w.heap.size + 1 ≠ _; omega))
     have k2:=Qaa hbA (HK.out.cell HC2.out (by show w.heap.size + 1 + 1 + 1 ≠ _; omega) (by show w.heap.size + 1 + 1 + 1 ≠ _; omega))
     have k1':=Qas hg (fun e => by have:=hown _ e.symm; simp only at this; omega) k1
     have k2':=Qas hg (fun e => by have:=hown _ e.symm; simp only at this; omega) k2
     exact seen1_calls _ _ _ _ n1 n2 x _ _ W k1' k2' a3 a4 (ord_in HROW.out x hx))
   have HD:=Zz.k hD
   have HBA:=Zz.k (Qal HBR.out hbA)
   have HOWN:=Zz.k hown
   have HSZ:=Zz.k hbA.size
   clear hD hRA hbA hown
   go_wp2_with fail
   refine HD.out.mono ?_
   rintro e w2 ⟨v,rfl,hRv,hgv⟩
   have HRV:=Zz.k hRv
   have HGV:=Zz.k hgv
   clear hRv hgv
   go_wp2
   go_ret
   have hz:=HBR.out.size
   have hzA:=HSZ.out
   refine ⟨_,rfl,Kd.R_lower HRV.out hz,pw_below_grown HBA.out _ HBA.out.size HGV.out (fun k hk => by have:=HOWN.out k hk; omega)⟩
end
section
def t_op_Compare.T1 : Bool × List (List Nat × List Nat):=(true,[([],[]),([0],[0]),([],[]),([2],[2]),([1,3],[1,3]),([],[]),([5],[5]),([],[]),([7],[7]),([6,8,4],[6,8]),([],[]),([10],[10]),([],[]),([12],[12]),([11,13,9],[11,13]),([4,9,14],[4,9,14]),([15,14],[15]),([16,16,0,1,2,3,4,5,6,7,8,9,10,11,12,13,14,15,16],[16])])
def t_op_Compare.B1 : List Nat:=[0,1,0,4,15,0,32,0,128,511,0,1024,0,4096,16383,32767,65535,131071]
theorem t_op_Compare.tab1 : rtab .any (opsOf Try.f17 1) = t_op_Compare.T1:=by kernel_rfl
theorem t_op_Compare.bits1 : Qau t_op_Compare.T1.2 t_op_Compare.B1 = true:=by kernel_rfl
end
end Go.Proofs.Ytlllghajjamdpaa.L
end

section
namespace Go.Proofs
open Go.Shelf
set_option linter.unusedVariables false
set_option linter.unusedSimpArgs false
set_option maxHeartbeats 40000000
set_option maxRecDepth 1000000
section
def Try.sortEl_ren : Go.Shelf.Ren:=⟨fun | 6 => 16 | 15 => 32 | 14 => 31 | 28 => 58 | 29 => 59 | 20 => 50 | 21 => 51 | 22 => 52 | 23 => 53 | 24 => 54 | 25 => 55 | 26 => 56 | 27 => 57 | 46 => 70 | 47 => 71 | 48 => 72 | 49 => 73 | 50 => 74 | 57 => 82 | n => n,fun | 22 => 23 | 24 => 30 | 25 => 50 | 3 => 3 | 39 => 71 | 0 => 0 | 53 => 101 | 55 => 103 | 4 => 4 | 46 => 95 | 45 => 94 | 50 => 79 | 5 => 5 | 9 => 9 | 66 => 113 | 70 => 117 | 76 => 126 | 77 => 127 | n => n,fun | n => n⟩
theorem Try.sortEl : Go.Proofs.SlLaysF0.n6 Try.prog Try.sortEl_ren:={
 mixed:=by kernel_rfl
 f6:=⟨Try.f16.name,by decide,Try.func16.trans (congrArg some (by kernel_rfl))⟩
 f14:=⟨Try.f31.name,by decide,Try.func31.trans (congrArg some (by kernel_rfl))⟩
 f15:=Try.func32.trans (congrArg some (by kernel_rfl))
 f20:=⟨Try.f50.name,by decide,Try.func50.trans (congrArg some (by kernel_rfl))⟩
 f21:=⟨Try.f51.name,by decide,Try.func51.trans (congrArg some (by kernel_rfl))⟩
 f22:=⟨Try.f52.name,by decide,Try.func52.trans (congrArg some (by kernel_rfl))⟩
 f23:=⟨Try.f53.name,by decide,Try.func53.trans (congrArg some (by kernel_rfl))⟩
 f24:=⟨Try.f54.name,by decide,Try.func54.trans (congrArg some (by kernel_rfl))⟩
 f25:=⟨Try.f55.name,by decide,Try.func55.trans (congrArg some (by kernel_rfl))⟩
 f26:=⟨Try.f56.name,by decide,Try.func56.trans (congrArg some (by kernel_rfl))⟩
 f27:=⟨Try.f57.name,by decide,Try.func57.trans (congrArg some (by kernel_rfl))⟩
 f28:=Try.func58.trans (congrArg some (by kernel_rfl))
 f29:=Try.func59.trans (congrArg some (by kernel_rfl))
 f46:=⟨Try.f70.name,by decide,Try.func70.trans (congrArg some (by kernel_rfl))⟩
 f47:=Try.func71.trans (congrArg some (by kernel_rfl))
 f48:=Try.func72.trans (congrArg some (by kernel_rfl))
 f49:=⟨Try.f73.name,by decide,Try.func73.trans (congrArg some (by kernel_rfl))⟩
 f50:=⟨Try.f74.name,by decide,Try.func74.trans (congrArg some (by kernel_rfl))⟩
 f57:=⟨Try.f82.name,by decide,Try.func82.trans (congrArg some (by kernel_rfl))⟩
 t0:=Try.underlying0
 a0:=Try.isAgg0
 z0:=Try.sizeOf0
 v0:=Try.zeroValue0
 t3:=Try.underlying3
 a3:=Try.isAgg3
 z3:=Try.sizeOf3
 v3:=Try.zeroValue3
 t4:=Try.underlying4
 a4:=Try.isAgg4
 z4:=Try.sizeOf4
 v4:=Try.zeroValue4
 t5:=Try.underlying5
 a5:=Try.isAgg5
 z5:=Try.sizeOf5
 v5:=Try.zeroValue5
 t9:=Try.underlying9
 a9:=Try.isAgg9
 z9:=Try.sizeOf9
 v9:=Try.zeroValue9
 t22:=Try.underlying23
 a22:=Try.isAgg23
 z22:=Try.sizeOf23
 v22:=Try.zeroValue23
 t25:=Try.underlying50
 a25:=Try.isAgg50
 z25:=Try.sizeOf50
 v25:=Try.zeroValue50
 t39:=Try.underlying71
 a39:=Try.isAgg71
 z39:=Try.sizeOf71
 v39:=Try.zeroValue71
 t45:=Try.underlying94
 a45:=Try.isAgg94
 z45:=Try.sizeOf94
 v45:=Try.zeroValue94
 t46:=Try.underlying95
 a46:=Try.isAgg95
 z46:=Try.sizeOf95
 v46:=Try.zeroValue95
 t50:=Try.underlying79
 a50:=Try.isAgg79
 z50:=Try.sizeOf79
 v50:=Try.zeroValue79
 t53:=Try.underlying101
 a53:=Try.isAgg101
 z53:=Try.sizeOf101
 v53:=Try.zeroValue101
 t55:=Try.underlying103
 a55:=Try.isAgg103
 z55:=Try.sizeOf103
 v55:=Try.zeroValue103
 t66:=Try.underlying113
 a66:=Try.isAgg113
 z66:=Try.sizeOf113
 v66:=Try.zeroValue113
 t70:=Try.underlying117
 a70:=Try.isAgg117
 z70:=Try.sizeOf117
 v70:=Try.zeroValue117
 t76:=Try.underlying126
 a76:=Try.isAgg126
 z76:=Try.sizeOf126
 v76:=Try.zeroValue126
 t77:=Try.underlying127
 a77:=Try.isAgg127
 z77:=Try.sizeOf127
 v77:=Try.zeroValue127 }
end
end Go.Proofs
end

section
namespace Go.Proofs.Ytlllghajjamdpaa.L
open Go.RowKit Go.Sort Go.Proofs.YtlllghajjamdpaaW.PrintWords Go.Proofs.YtlllghajjamdpaaW.PrintLast Go.Proofs.YtlllghajjamdpaaW.PrintMore
set_option linter.unusedVariables false
set_option linter.unusedSimpArgs false
set_option maxHeartbeats 40000000
set_option maxRecDepth 1000000
section
def GD (w w' : World) : Prop:=∃ q os,w' = grow (w.drewN q) os
theorem GD.refl (w : World) : GD w w:=⟨0,#[],by rw [grow_empty]; rfl⟩
theorem GD.drawn {w w1 : World} (h : GD w w1) (n : Nat) : GD w (w1.drewN n):=by
 obtain ⟨q,os,rfl⟩:=h
 exact ⟨q + n,os,by rw [<- World.drewN_drewN]; rfl⟩
theorem GD.drew {w w1 : World} (h : GD w w1) : GD w w1.drew:=by
 obtain ⟨q,os,rfl⟩:=h
 exact ⟨q + 1,os,by rw [<- World.drewN_drewN]; rfl⟩
theorem GD.alloc {w w1 : World} (h : GD w w1) (o : Obj) : GD w (w1.alloc o):=by
 obtain ⟨q,os,rfl⟩:=h
 exact ⟨q,os ++ #[o],by rw [alloc_eq_grow,grow_grow]⟩
theorem tp_cell (w : World) (cs : Array Value) (t : TypeId) (g j : Nat) (hg : w.heap.size = g) : (w.alloc (.cells cs t)).cell? ⟨g,j,none⟩ = cs[j]?:=by subst hg; simp
abbrev S6 (W : World) (g : Nat) (x y : SElem) : Prop:=W.cell? ⟨g,0,none⟩ = some (.int .i64 x.f0) /\ W.cell? ⟨g,1,none⟩ = some (.int .i64 x.f1) /\ W.cell? ⟨g,2,none⟩ = some (.int .i64 x.f2) /\ W.cell? ⟨g + 1,0,none⟩ = some (.int .i64 y.f0) /\ W.cell? ⟨g + 1,1,none⟩ = some (.int .i64 y.f1) /\ W.cell? ⟨g + 1,2,none⟩ = some (.int .i64 y.f2)
theorem S6.below {W W' : World} {g : Nat} {x y : SElem} (h : S6 W g x y) (hb : Below W.heap.size W W') : S6 W' g x y :=
 ⟨Qaa hb h.1,Qaa hb h.2.1,Qaa hb h.2.2.1,Qaa hb h.2.2.2.1,Qaa hb h.2.2.2.2.1,Qaa hb h.2.2.2.2.2⟩
theorem S6.boxed (w : World) (x y : SElem) (t : TypeId) : S6 ((w.alloc (.cells #[.int .i64 x.f0, .int .i64 x.f1, .int .i64 x.f2] t)).alloc (.cells #[.int .i64 y.f0, .int .i64 y.f1, .int .i64 y.f2] t)) w.heap.size x y:=by
 have hz : (w.alloc (.cells #[.int .i64 x.f0, .int .i64 x.f1, .int .i64 x.f2] t)).heap.size = w.heap.size + 1:=by simp
 have hb:=Qad (Below.refl _ (w.alloc (.cells #[.int .i64 x.f0, .int .i64 x.f1, .int .i64 x.f2] t))) (.cells #[.int .i64 y.f0, .int .i64 y.f1, .int .i64 y.f2] t)
 refine ⟨Qaa hb (by simp),Qaa hb (by simp),Qaa hb (by simp), ?_, ?_, ?_⟩
 ·rw [<- hz]; exact (tp_cell _ _ _ _ 0 rfl).trans rfl
 ·rw [<- hz]; exact (tp_cell _ _ _ _ 1 rfl).trans rfl
 ·rw [<- hz]; exact (tp_cell _ _ _ _ 2 rfl).trans rfl
theorem three_C (w : World) (a b c : Int) (t : TypeId) : Kd.C (Kd.int .i64) (w.alloc (.cells #[.int .i64 a, .int .i64 b, .int .i64 c] t)) (some ⟨w.heap.size,0,none⟩) 3 [a,b,c]:=by
 refine ⟨rfl,by omega,fun _ => ⟨_,rfl,fun j p hp => ?_⟩⟩
 have hc : ∀ i,(w.alloc (.cells #[.int .i64 a, .int .i64 b, .int .i64 c] t)).cell? ⟨w.heap.size,i,none⟩ = (#[Value.int .i64 a, .int .i64 b, .int .i64 c] : Array Value)[i]?:=fun i => tp_cell _ _ _ _ i rfl
 refine ⟨[.int .i64 p],rfl,rfl,fun i u hu => ?_⟩
 have hi : i = 0:=by
  rcases i with _ | i
  ·rfl
  ·simp at hu
 subst hi
 have ea : (⟨w.heap.size,0,none⟩ : Addr).add (j * (Kd.int .i64).sz + 0) = ⟨w.heap.size,j,none⟩:=by rw [Addr.add_lit,Nat.zero_add,Nat.add_zero]; show (⟨w.heap.size,j * 1,none⟩ : Addr) = _; rw [Nat.mul_one]
 rw [ea,hc]
 rcases j with _ | _ | _ | j
 ·simp at hp hu; rw [<- hu,<- hp]; rfl
 ·simp at hp hu; rw [<- hu,<- hp]; rfl
 ·simp at hp hu; rw [<- hu,<- hp]; rfl
 ·simp at hp
theorem compare_calls (x y : SElem) (W : World) : Calls Try.prog 17 #[elV x,elV y] W fun e w' => e = .returned (.int .i64 (cmpE x y)) /\ GD W w':=by
 have HC0:=Zz.k (fun w => cmp_Compare_int.calls x.f0 y.f0 (cmpI x.f0 y.f0) w (Qby _ _))
 have HC1:=Zz.k (fun w => cmp_Compare_int.calls x.f1 y.f1 (cmpI x.f1 y.f1) w (Qby _ _))
 have HC2:=Zz.k (fun w => cmp_Compare_int.calls x.f2 y.f2 (cmpI x.f2 y.f2) w (Qby _ _))
 have HOR:=Zz.k (fun w => cmp_Or_int.calls 5 (some ⟨w.heap.size,0,none⟩) 3 [cmpI x.f0 y.f0,cmpI x.f1 y.f1,cmpI x.f2 y.f2] (cmpE x y) (w.alloc (.cells #[.int .i64 (cmpI x.f0 y.f0), .int .i64 (cmpI x.f1 y.f1), .int .i64 (cmpI x.f2 y.f2)] 3)) (three_C w _ _ _ _) (Nat.le_refl _) (cmp_Or_three _ _ _))
 have HG:=Zz.k (((GD.refl W).alloc (.cells #[.int .i64 x.f0, .int .i64 x.f1, .int .i64 x.f2] 30)).alloc (.cells #[.int .i64 y.f0, .int .i64 y.f1, .int .i64 y.f2] 30))
 have HS:=Zz.k (S6.boxed W x y 30)
 generalize hr : cmpE x y = r at HOR
 generalize cmpI x.f0 y.f0 = r0 at HC0 HOR
 generalize cmpI x.f1 y.f1 = r1 at HC1 HOR
 generalize cmpI x.f2 y.f2 = r2 at HC2 HOR
 unfold elV
 go_enter Try.func17,Try.ntmps17
 go_upto_region 1 with (fail)
 refine stR (S:=fun w' => S6 w' W.heap.size x y) 18 t_op_Compare.bits1 t_op_Compare.tab1 (hS:=HS.out) (h:=fun hS HT HW => ?_)
 have HG2:=Zz.k HG.out.drew
 generalize ((W.alloc (.cells #[.int .i64 x.f0, .int .i64 x.f1, .int .i64 x.f2] 30)).alloc (.cells #[.int .i64 y.f0, .int .i64 y.f1, .int .i64 y.f2] 30)).drew = w1 at HG2 hS ⊢
 clear HG HS
 refine pu HT 0 5 1 (h := ?_)
 refine pu HT 2 7 5 (h := ?_)
 refine pu HT 5 10 37 (h := ?_)
 refine pu HT 7 12 165 (h := ?_)
 refine pu HT 10 15 1189 (h := ?_)
 refine pu HT 12 17 5285 (h := ?_)
 refine tk HT HW hS 1 6 5287 (h := ?_)
 refine tk HT HW hS 3 8 5295 (h := ?_)
 refine tk HT HW hS 6 11 5359 (h := ?_)
 refine tk HT HW hS 8 13 5615 (h := ?_)
 refine tk HT HW hS 11 16 7663 (h := ?_)
 refine tk HT HW hS 13 18 15855 (h := ?_)
 refine ca HT 4 (some 9) 15871 #[.int .i64 x.f0, .int .i64 y.f0] Try.func34 (h:=fun K hK => ?_)
 refine (HC0.out w1).mono ?_
 rintro e w2 ⟨rfl,⟨n0,rfl⟩⟩
 refine ⟨_,rfl, ?_⟩
 refine hK.out _ _ hS (fun _ => ?_)
 clear hK
 refine nm (h := ?_)
 refine ca HT 9 (some 14) 16383 #[.int .i64 x.f1, .int .i64 y.f1] Try.func34 (h:=fun K hK => ?_)
 refine (HC1.out _).mono ?_
 rintro e w2 ⟨rfl,⟨n1,rfl⟩⟩
 refine ⟨_,rfl, ?_⟩
 refine hK.out _ _ hS (fun _ => ?_)
 clear hK
 refine nm (h := ?_)
 refine ca HT 14 (some 19) 32767 #[.int .i64 x.f2, .int .i64 y.f2] Try.func34 (h:=fun K hK => ?_)
 refine (HC2.out _).mono ?_
 rintro e w2 ⟨rfl,⟨n2,rfl⟩⟩
 refine ⟨_,rfl, ?_⟩
 have HG3:=Zz.k (((HG2.out.drawn n0).drawn n1).drawn n2)
 refine hK.out _ _ hS (fun hS' => ?_)
 clear hK
 refine nm (h := ?_)
 generalize (((w1.drewN n0).drewN n1).drewN n2) = w3 at HG3 hS' ⊢
 refine exS HT 15 (some 20) 65535 (.slice (some ⟨w3.heap.size,0,none⟩) 3 3) (w3.alloc (.cells #[.int .i64 r0, .int .i64 r1, .int .i64 r2] 3)) (hrun := ?_) (hS:=S6.below hS' (Qad (Below.refl _ _) _)) (h:=fun hS2 => ?_)
 ·clear HT HW hS hS'
  go_simp
 refine nm (h := ?_)
 refine ca HT 16 (some 21) 131071 #[.slice (some ⟨w3.heap.size,0,none⟩) 3 3] Try.func33 (h:=fun K hK => ?_)
 refine (HOR.out w3).mono ?_
 rintro e w2 ⟨rfl,⟨n3,rfl⟩⟩
 refine ⟨_,rfl, ?_⟩
 have HG4:=Zz.k ((HG3.out.alloc (.cells #[.int .i64 r0, .int .i64 r1, .int .i64 r2] 3)).drawn n3)
 refine hK.out _ _ hS2 (fun _ => ?_)
 clear hK
 refine nm (h := ?_)
 refine pu HT 17 4 262143 (h := ?_)
 refine dn HT (h := ?_)
 clear HT HW hS hS' hS2
 go_wp2
 go_ret
 exact ⟨re,HG4.out⟩
end
section
instance inhE : Inhabited SElem:=⟨⟨0,0,0⟩⟩
def Qbh (x : SElem) : List Value:=[.int .i64 x.f0, .int .i64 x.f1, .int .i64 x.f2]
def sortL (l : List SElem) : List SElem:=l.mergeSort fun x y => !Qca y x
theorem ltE (x y : SElem) : ltOf cmpE x y = Qca x y:=cmpE_neg x y
theorem elLess_iff (x y : SElem) : Qca x y = true ↔ x.f0 < y.f0 \/ (x.f0 = y.f0 /\ (x.f1 < y.f1 \/ (x.f1 = y.f1 /\ x.f2 < y.f2))):=by
 unfold Qca
 simp only [Bool.or_eq_true,Bool.and_eq_true,decide_eq_true_eq,beq_iff_eq]
theorem elLess_not (x y : SElem) : Qca x y = false ↔ ¬ (x.f0 < y.f0 \/ (x.f0 = y.f0 /\ (x.f1 < y.f1 \/ (x.f1 = y.f1 /\ x.f2 < y.f2)))):=by
 rw [<- elLess_iff,Bool.not_eq_true]
theorem swoE : SWO (ltOf cmpE) where
 irrefl x:=by rw [ltE,elLess_not]; omega
 trans x y z h1 h2:=by rw [ltE,elLess_iff] at *; omega
 ntrans x y z h1 h2:=by rw [ltE,elLess_not] at *; omega
theorem totE (x y : SElem) (h1 : ltOf cmpE x y = false) (h2 : ltOf cmpE y x = false) : x = y:=by
 rw [ltE,elLess_not] at h1 h2
 cases x; cases y
 simp only at h1 h2
 rw [SElem.mk.injEq]
 exact ⟨by omega,by omega,by omega⟩
theorem flat_at (d : Array SElem) {j : Nat} (hj : j < d.size) {i : Nat} (hi : i < 3) : (flatK Qbh 3 d)[j * 3 + i]! = (Qbh d[j])[i]!:=by
 rw [get_flatK _ _ _ _ (by omega),show (j * 3 + i) / 3 = j by omega,show (j * 3 + i) % 3 = i by omega,getElem!_pos d j hj]
theorem HoldsK_of {w : World} {base g c : Nat} {xs : List SElem} (h : RE w base (.slice (some ⟨g,0,none⟩) xs.length c) xs) : HoldsK Qbh 3 w g 0 xs.toArray:=by
 intro t ht
 rw [size_flatK] at ht
 have hs : xs.toArray.size = xs.length:=rfl
 have hj : t / 3 < xs.length:=by omega
 obtain ⟨cs,hl,hM,hc,hf⟩:=Kd.R_elem h zElem ((t / 3 : Nat) : Int) (by omega) (by omega)
 have hcs : cs = Qbh xs[t / 3]:=by
  have:=Qat xs (t / 3) hj
  unfold Qab at this
  rw [Int.toNat_natCast] at this hM
  rw [this] at hM
  exact kElem_openM hM
 have ht3 : t = t / 3 * 3 + t % 3:=by omega
 have hv : (flatK Qbh 3 xs.toArray)[t]! = (Qbh xs[t / 3])[t % 3]!:=by
  conv => lhs; rw [ht3]
  rw [flat_at _ (by rw [hs]; exact hj) (by omega)]
  rfl
 rw [hv,Nat.zero_add]
 have hi3 : t % 3 < 3:=by omega
 have h3 : Qaw.sz = 3:=rfl
 refine ⟨?_, ?_⟩
 ·have:=hc (t % 3) ((Qbh xs[t / 3])[t % 3]!) (by
   rw [hcs]
   have hle : t % 3 < (Qbh xs[t / 3]).length:=by unfold Qbh; exact hi3
   rw [List.getElem?_eq_getElem hle,getElem!_pos (Qbh xs[t / 3]) (t % 3) hle])
  rw [Int.toNat_natCast,h3] at this
  rw [<- ht3] at this
  exact this
 ·have:=hf (t % 3)
  rw [Int.toNat_natCast,h3] at this
  rw [<- ht3] at this
  exact this
theorem heap_mapBlock {w : World} {g : Nat} {cur : Array Value} {T : TypeId} {fr : Nat × Nat} (f : Array Value -> Array Value) (h : w.heap[g]? = some (.cells cur T fr)) : (mapBlock w g f).heap[g]? = some (.cells (f cur) T fr):=by
 show (w.heap.modify g (onCells f))[g]? = _
 rw [Array.getElem?_modify,if_pos rfl,h]
 rfl
theorem heap_mapBlock_far {w : World} {g k : Nat} (f : Array Value -> Array Value) (h : k ≠ g) : (mapBlock w g f).heap[k]? = w.heap[k]?:=by
 show (w.heap.modify g (onCells f))[k]? = _
 rw [Array.getElem?_modify,if_neg (Ne.symm h)]
theorem flat_inner (d : Array SElem) (ok : World -> Nat -> (Nat -> Prop) -> Prop) {w : World} {base : Nat} {okp : Nat -> Prop} : Reps (Qaw.M w base okp) 3 d.toList (flatK Qbh 3 d).toList:=by
 refine ⟨by rw [Array.length_toList,size_flatK,Array.length_toList],fun j p hp => ?_⟩
 have hj : j < d.size:=by
  have:=(List.getElem?_eq_some_iff.1 hp).1
  rwa [Array.length_toList] at this
 have hp' : d[j] = p:=by
  have:=(List.getElem?_eq_some_iff.1 hp).2
  rw [<- this]; rfl
 have hl : (flatK Qbh 3 d).toList.length = d.size * 3:=by rw [Array.length_toList,size_flatK]
 have e : ((flatK Qbh 3 d).toList.drop (j * 3)).take 3 = [.int .i64 p.f0, .int .i64 p.f1, .int .i64 p.f2]:=by
  refine List.ext_getElem (by rw [List.length_take,List.length_drop,hl]; show min 3 _ = 3; omega) (fun i h1 h2 => ?_)
  have hi : i < 3:=h2
  rw [List.getElem_take,List.getElem_drop]
  have ha : (flatK Qbh 3 d).toList[j * 3 + i]'(by rw [hl]; omega) = (flatK Qbh 3 d)[j * 3 + i]!:=by
   rw [Array.getElem_toList,getElem!_pos _ _ (by rw [size_flatK]; omega)]
  rw [ha,flat_at d hj hi,hp']
  have hle : i < (Qbh p).length:=hi
  rw [getElem!_pos (Qbh p) i hle]
  rfl
 rw [e]
 exact kElem_mkM _ _ _ p
theorem RE_sorted {w : World} {base g c : Nat} {xs : List SElem} (h : RE w base (.slice (some ⟨g,0,none⟩) xs.length c) xs) (d : Array SElem) (hd : d.size = xs.length) (n : Nat) (os : Array Obj) :
  RE (sortWorldK Qbh 3 w g 0 n d os) base (.slice (some ⟨g,0,none⟩) xs.length c) d.toList /\ w.grownBy (sortWorldK Qbh 3 w g 0 n d os) (some g):=by
 obtain ⟨hok,inner,ho,hr⟩:=h
 obtain ⟨ho1,ho2⟩:=ho
 rcases ho2 with ⟨hv,_⟩ | ⟨g',cap',cur,hv,hb,hh,hnc',hcm,hcs,ht⟩
 ·cases hv
 injection hv with hA _ hc
 injection hA with hA
 injection hA with hg
 subst hg; subst hc
 have h3 : Qaw.sz = 3:=rfl
 have hglt : g < w.heap.size:=by
  rcases Nat.lt_or_ge g w.heap.size with hx | hx
  ·exact hx
  ·rw [Array.getElem?_eq_none hx] at hh; cases hh
 have hsz : (putCells id 0 (flatK Qbh 3 d) cur).size = cur.size:=by simp [putCells]
 have hrow : (sortWorldK Qbh 3 w g 0 n d os).heap[g]? = some (.cells (putCells id 0 (flatK Qbh 3 d) cur) 30 (0,0)):=by
  have h1:=heap_mapBlock (w:=Sort.ahead w n) (putCells id 0 (flatK Qbh 3 d)) (show (Sort.ahead w n).heap[g]? = _ from hh)
  show ((mapBlock (Sort.ahead w n) g (putCells id 0 (flatK Qbh 3 d))).heap ++ os)[g]? = _
  rw [Array.getElem?_append_left (by show g < (w.heap.modify g (onCells (putCells id 0 (flatK Qbh 3 d)))).size; rw [Array.size_modify]; exact hglt)]
  exact h1
 have htake : (putCells id 0 (flatK Qbh 3 d) cur).toList.take (xs.length * 3) = (flatK Qbh 3 d).toList:=by
  have hlen : xs.length * 3 <= cur.size:=by
   rw [hcs,h3]
   exact Nat.mul_le_mul_right 3 hnc'
  have hL : (putCells id 0 (flatK Qbh 3 d) cur).toList.length = cur.size:=by rw [Array.length_toList,hsz]
  have hF : (flatK Qbh 3 d).toList.length = xs.length * 3:=by rw [Array.length_toList,size_flatK,hd]
  refine List.ext_getElem (by rw [List.length_take,hL,hF]; omega) (fun i h1 h2 => ?_)
  have hi : i < xs.length * 3:=by rw [List.length_take] at h1; omega
  rw [List.getElem_take,Array.getElem_toList,Array.getElem_toList]
  unfold putCells
  rw [Array.getElem_mapIdx,if_pos ⟨Nat.zero_le _,by rw [Nat.zero_add,size_flatK,hd]; exact hi⟩]
  show (flatK Qbh 3 d)[i - 0]! = _
  rw [Nat.sub_zero,getElem!_pos _ _ (by rw [size_flatK,hd]; exact hi)]
 have hdl : d.toList.length = xs.length:=by rw [Array.length_toList,hd]
 have h0 : (flatK Qbh 3 d).toList.length = d.toList.length * Qaw.sz:=by rw [Array.length_toList,size_flatK,Array.length_toList]; rfl
 have hgrow : w.grownBy (sortWorldK Qbh 3 w g 0 n d os) (some g):=by
  refine ⟨rfl,rfl,rfl, ?_,fun k hk hne => ?_⟩
  ·show w.heap.size <= ((w.heap.modify g (onCells (putCells id 0 (flatK Qbh 3 d)))) ++ os).size
   rw [Array.size_append,Array.size_modify]; omega
  ·show ((mapBlock (Sort.ahead w n) g (putCells id 0 (flatK Qbh 3 d))).heap ++ os)[k]? = _
   rw [Array.getElem?_append_left (by show k < (w.heap.modify g (onCells (putCells id 0 (flatK Qbh 3 d)))).size; rw [Array.size_modify]; exact hk)]
   exact heap_mapBlock_far _ (fun e => hne (by rw [e]))
 refine ⟨⟨hok,(flatK Qbh 3 d).toList,⟨h0, .inr ⟨g,c,putCells id 0 (flatK Qbh 3 d) cur,by rw [hdl],hb,hrow,by rw [hdl]; exact hnc',hcm,by rw [hsz]; exact hcs,by rw [hdl,h3]; exact htake⟩⟩,flat_inner d (fun _ _ _ => True)⟩,hgrow⟩
theorem cmpLays (blk off size : Nat) (w : World) : CmpLays Try.prog 17 #[] Qbh 3 cmpE blk off size w:=fun _ _ _ _ x y => compare_calls x y _
theorem sort_calls {w : World} {base g c : Nat} {xs : List SElem} (h : RE w base (.slice (some ⟨g,0,none⟩) xs.length c) xs) (hg : g < w.heap.size) (hl : xs.length <= 1000000) :
  Calls Try.prog 16 #[.slice (some ⟨g,0,none⟩) xs.length c, .func (.func 17) #[] #[]] w fun e w' =>
   e = .returned (.tuple #[]) /\ RE w' base (.slice (some ⟨g,0,none⟩) xs.length c) (sortL xs) /\ w.grownBy w' (some g):=by
 have hcon:=AnyQ.slices_SortFunc Try.sortEl 3 Try.isAgg30 Try.sizeOf30 Qbh (fun _ => rfl) (fun x v hv => by simp [Qbh] at hv; rcases hv with rfl | rfl | rfl <;> rfl) cmpE swoE 17 #[] g 0 c xs.toArray w
  (enters_at Try.func17 (by kernel_rfl) rfl) (cmpLays _ _ _ _) (HoldsK_of h) hg (by show xs.length < _; omega)
 change Calls Try.prog 16 _ _ _ at hcon
 refine hcon.mono ?_
 rintro e w' ⟨rfl,d',n,os,hp,hs,rfl⟩
 have hu:=sorted_unique_holds swoE totE xs.toArray d' hp hs
 have hd : d'.size = xs.length:=hp.1
 obtain ⟨r1,r2⟩:=RE_sorted h d' hd n os
 have e1 : d'.toList = sortL xs:=by
  rw [hu]
  unfold sortL
  congr 1
  funext x y
  rw [ltE]
 rw [e1] at r1
 exact ⟨rfl,r1,r2⟩
end
end Go.Proofs.Ytlllghajjamdpaa.L
end

section
namespace Go.Proofs.Ytlllghajjamdpaa.L
open Go.RowKit Go.Proofs.YtlllghajjamdpaaW.PrintWords Go.Proofs.YtlllghajjamdpaaW.PrintLast Go.Proofs.YtlllghajjamdpaaW.PrintMore
set_option linter.unusedVariables false
set_option linter.unusedSimpArgs false
set_option maxHeartbeats 40000000
set_option maxRecDepth 1000000
section
def repA (L : List SOp) (a : Nat) (t : ByteArray) : SElem:=if 0 < a /\ t.toList.isEmpty = false then Qab (Qak L) ((a - 1 : Nat) : Int) else ⟨0,0,0⟩
def repG (L : List SOp) (a n : Nat) : List SElem:=sortL (((Qak L).drop a).take n)
def repO (L : List SOp) (s : Int) (a n : Nat) (t : ByteArray) : SOp:=⟨s,((Qbg L s + 1 : Nat) : Int),1,repA L a t,t,repG L a n,0,0,0⟩
theorem sort_len (l : List SElem) : (sortL l).length = l.length:=List.length_mergeSort l
end
section
theorem kElem_openK {w : World} {x : SElem} {cs : List Value} (h : Qaw.K w x cs) : cs = [.int .i64 x.f0, .int .i64 x.f1, .int .i64 x.f2]:=by
 obtain ⟨_,_,rfl,rfl,⟨_,_,rfl,rfl,rfl⟩⟩:=h
 exact rfl
theorem infoE3 : (Try.prog.info? 30).map (fun i => (i.zero,i.size,i.bytes)) = some (some (.agg #[(.int .i64 0),(.int .i64 0),(.int .i64 0)]),3,24):=by kernel_rfl
theorem clone_calls (A : Option Addr) (c : Nat) (l : List SElem) (w : World) (hr : Kd.C Qaw w A l.length l) (hl : l.length <= 1000000) :
  Calls Try.prog 15 #[.slice A l.length c] w fun e w' => ∃ v,e = .returned v /\ RE w' w.heap.size v l /\ Below w.heap.size w w':=by
 have q22 : ∀ (w : World) (a : Option Addr) (n c n' c' : Nat),(binOp .eql 23 (.slice a n c) (.slice none n' c')).run Try.prog w = .ok (.bool a.isNone) w:=fun w a n c n' c' => Lib.run_eql_slice_nil w _ _ a n c n' c' Try.underlying23
 rcases A with _ | ad
 ·have hz : l.length = 0:=by
   rcases Nat.eq_zero_or_pos l.length with h | h
   ·exact h
   ·obtain ⟨_,h',_⟩:=hr.2.2 h
    cases h'
  obtain rfl : l = []:=List.eq_nil_of_length_eq_zero hz
  clear hr hz hl
  go_enter Try.func15,Try.ntmps15
  go_wp2
  go_ret
  exact ⟨_,rfl,Kd.R_nil _ _ _ _ _,Below.refl _ _⟩
 ·obtain ⟨i0,hi,hiv⟩:=Option.map_eq_some_iff.1 infoE3
  simp only [Prod.mk.injEq] at hiv
  obtain ⟨hz0,hz1,hz2⟩:=hiv
  obtain ⟨news,hnr,hnc⟩:=Qbe.inner_ hr
  have hnl : news.length = l.length * 3:=hnr.1
  have HNC:=Zz.k hnc
  have HNR:=Zz.k hnr
  have h1 : ∀ u ∈ news,u.oneCell' = true:=Kd.reps_one hnr (by decide) (fun p c h => Qaw.K_one h)
  clear hr hnc hnr
  go_enter Try.func15,Try.ntmps15
  go_wp2_with (at_builtin; refine wpList_append_own _ rfl _ _ 23 rfl w.heap.size 30 i0 _ 3 24 Try.underlying23 hi hz0 hz1 hz2 rfl (by decide) _ _ _ rfl (World.ownsRow_made w #[] 0 (Nat.le_refl _) (Nat.zero_le _) (by simp)) ad l.length c news rfl ?qc1 ?qc2 ?qc3 ?qc4 ?qc5 ?qc6 ?_)
  case qc1 => exact hnl
  case qc2 =>
   intro j u hj
   exact Qaa (Qad (Below.refl _ _) _) (HNC.out j u hj)
  case qc3 => exact h1
  case qc4 => rw [Nat.zero_add]; unfold maxLen; omega
  case qc5 => rw [Nat.zero_add]; omega
  case qc6 => simp
  intro v' w1 hown hgrow hnil
  have HO:=Zz.k hown
  have HG:=Zz.k hgrow
  clear hown hgrow hnil
  go_wp2
  go_ret
  have ho : w1.ownsRow w.heap.size 30 3 v' l.length news:=by simpa using HO.out
  refine ⟨v',rfl,⟨fun _ _ => trivial,news,ho,⟨HNR.out.1,fun j p hp => ?_⟩⟩,((Below.refl _ w).alloc (Nat.le_refl _) _).grown HG.out (by simp) (by intro k hk; simp [Value.ownBlock] at hk; omega)⟩
  rw [kElem_openK (HNR.out.2 j p hp)]
  exact kElem_mkM _ _ _ p
end
section
def t_edit_Replace.T8 : Bool × List (List Nat × List Nat):=(true,[([],[]),([],[]),([],[]),([1,2],[1,2]),([],[]),([],[]),([],[]),([],[]),([],[]),([7,8],[7,8]),([5,6,9],[5,6,9]),([10,3],[10]),([0,3,4,11],[0,3,4,11]),([],[]),([13,12,11,0,1,2,3,4,5,6,7,8,9,10,11,12,13],[12,13])])
def t_edit_Replace.B8 : List Nat:=[0,0,0,6,0,0,0,0,0,384,992,2030,4095,0,16383]
theorem t_edit_Replace.tab8 : rtab .any (opsOf Try.f4 8) = t_edit_Replace.T8:=by kernel_rfl
theorem t_edit_Replace.bits8 : Qau t_edit_Replace.T8.2 t_edit_Replace.B8 = true:=by kernel_rfl
def t_lectionarylaw7_EditMany.T18 : Bool × List (List Nat × List Nat):=(true,[([],[]),([],[]),([0,1],[0,1]),([],[]),([2,3],[2,3]),([],[]),([],[]),([],[]),([6,7],[6,7]),([5,8],[5,8]),([4,9],[4,9]),([10,0,1,2,3,4,5,6,7,8,9,10],[0,5,10])])
def t_lectionarylaw7_EditMany.B18 : List Nat:=[0,0,3,0,15,0,0,0,192,480,1023,2047]
theorem t_lectionarylaw7_EditMany.tab18 : rtab .any (opsOf Try.f3 18) = t_lectionarylaw7_EditMany.T18:=by kernel_rfl
theorem t_lectionarylaw7_EditMany.bits18 : Qau t_lectionarylaw7_EditMany.T18.2 t_lectionarylaw7_EditMany.B18 = true:=by kernel_rfl
end
section
theorem cntR_app (l : List SOp) (o : SOp) (s q : Int) : cntR (l ++ [o]) s q = cntStep s q (cntR l s q) o:=by unfold cntR; rw [List.foldl_append]; rfl
theorem any_same {α : Type} : ∀ (ms : List α) (f g : α -> Bool),(∀ o ∈ ms,f o = g o) -> ms.any f = ms.any g
 | [],_,_,_ => rfl
 | o :: ms,f,g,h => by rw [List.any_cons,List.any_cons,h o List.mem_cons_self,any_same ms f g (fun x hx => h x (List.mem_cons_of_mem _ hx))]
theorem workE_cnt {L M : List SOp} {o : SOp} (h : cntR M o.f0 o.f1 = cntR L o.f0 o.f1) : workE M o = workE L o:=by unfold workE; rw [h]
theorem smalls_snoc {l : List SOp} (h : smalls l = true) (hl : l.length <= 1000000) {o : SOp} (h4 : o.f4.size <= 1000000) (h5 : o.f5.length <= 1000000) : smalls (l ++ [o]) = true:=by
 unfold smalls SmB at h ⊢
 simp only [Bool.and_eq_true,decide_eq_true_eq,List.all_eq_true] at h ⊢
 refine ⟨by rw [List.length_append,List.length_singleton]; omega,fun x hx => ?_⟩
 rcases List.mem_append.1 hx with hx | hx
 ·exact h.2 x hx
 ·rw [List.mem_singleton] at hx; subst hx; exact ⟨by omega,by omega⟩
theorem cnt_other {L : List SOp} {o : SOp} (h1 : o.f2 ≠ 2) (s q : Int) : cntR (L ++ [o]) s q = cntR L s q:=by
 rw [cntR_app]; unfold cntStep; rw [if_neg (fun hh => h1 hh.1)]
theorem cnt_fresh {L : List SOp} (h : RowOk L) : ∀ {s q : Int},(∀ p ∈ L,¬ (p.f0 = s /\ p.f1 = q)) -> cntR L s q = 0:=by
 induction h with
 | nil => intro s q _; rfl
 | snoc h1 h2 ih =>
  rename_i l o
  intro s q hf
  rw [cntR_app,ih (fun p hp => hf p (List.mem_append_left _ hp))]
  unfold cntStep
  rw [if_neg]
  rintro ⟨k2,e6,e7,_⟩
  obtain ⟨p,hp,_,e0,e1⟩:=h2.tog k2
  exact hf p (List.mem_append_left _ hp) ⟨by rw [e0,e6],by rw [e1,e7]⟩
end
section
def siteOk (s : Int) : Bool:=decide (1 <= s) && decide (s <= 8)
theorem Site_calls (s : Int) (W : World) : Calls Try.prog 10 #[.int .i64 s] W fun e w' => e = .returned (.bool (siteOk s)) /\ Below W.heap.size W w':=by
 refine (op_IsSite.calls s (siteOk s) W ?_).mono (fun e w' h => ⟨h.1,h.2.below⟩)
 unfold op_IsSite.f siteOk
 by_cases h : s >= 1
 ·rw [if_pos h,Zd (show 1 <= s from h),Bool.true_and]
 ·rw [if_neg h,Ze (show ¬ 1 <= s from h),Bool.false_and]
def badB (l0 : List SOp) (s : Int) (t : ByteArray) : Bool:=!mayB l0 || !siteOk s || !Qbz t
theorem Rep_bad (A0 : Option Addr) (c0 : Nat) (l0 : List SOp) (s a n : Int) (t : ByteArray) (w : World) (hr0 : Kd.C kOp w A0 l0.length l0) (hc0 : l0.length <= c0) (hsm : smalls l0 = true) (ht : t.size <= 1000000) (hbad : badB l0 s t = true) :
  Calls Try.prog 4 #[.slice A0 l0.length c0, .int .i64 s, .int .i64 a, .int .i64 n, .string t] w fun e w' => ∃ v7 : Value,e = .returned (.tuple #[.agg #[.int .i64 0, .int .i64 0, .int .i64 0, .int .i64 0, .int .i64 0, .int .i64 0, .string (⟨#[]⟩ : ByteArray),v7, .int .i64 0, .int .i64 0, .int .i64 0], .int .i64 1]) /\ RE w' w.heap.size v7 [] /\ Below w.heap.size w w':=by
 have hu32:=Try.underlying32
 have HB:=Zz.k (Below.refl w.heap.size w)
 have HC0:=Zz.k hc0
 have HT:=Zz.k ht
 have HR0:=Zz.k hr0
 have HSM:=Zz.k hsm
 have HMay:=Zz.k (fun W (hb : Below w.heap.size w W) => tree_May.calls A0 c0 l0 (mayB l0) W (Kd.C_below hr0 hb) hc0 (tree_May_f hsm))
 have HSite:=Zz.k (fun W (_ : Below w.heap.size w W) => Site_calls s W)
 have HText:=Zz.k (fun W (_ : Below w.heap.size w W) => text_May.calls t (Qbz t) W rfl)
 clear hr0 hc0 hsm ht
 unfold badB at hbad
 cases hm : mayB l0
 ·rw [hm] at HMay
  clear hm hbad
  go_enter Try.func4,Try.ntmps4
  go_wp2_with (first | ((with_reducible refine Qaf (N:=10) rfl ?_); refine bx 10 #[.int .i64 0, .int .i64 0, .int .i64 0, .int .i64 0, .int .i64 0, .int .i64 0, .string (⟨#[]⟩ : ByteArray), .slice none 0 0, .int .i64 0, .int .i64 0, .int .i64 0] 32 (h := ?_); intro gb1 hg w1 hbox hb; have BK1:=Zz.k hbox; have GE1:=Zz.k ((by rw [hg]; exact (Qap (bw HB)) : w.heap.size <= gb1)); replace HB:=bs HB hb; clear hb hbox hg) | ((with_reducible refine Qac (f:=9) rfl ?_); (try (refine Qah (by rfl) ?_; dsimp only)); refine gl (some 15) Try.func9 #[.slice A0 l0.length c0] (h := ?_); (refine (HMay.out _ (bw HB)).mono ?_); rintro e w2 ⟨rfl,hb⟩; refine ⟨_,rfl, ?_⟩; replace BK1:=bl BK1 hb; replace HB:=bs HB hb; clear hb; obtain ⟨_,_,_,_,_,_,_,_,_,_,_,_,_,_,_,_,_,_,_,_,_,_⟩:=kc11 BK1))
  refine bodyPost_ret (Qaz rfl _ _ gb1 32 #[.int .i64 0, .int .i64 0, .int .i64 0, .int .i64 0, .int .i64 0, .int .i64 0, .string (⟨#[]⟩ : ByteArray), .slice none 0 0, .int .i64 0, .int .i64 0, .int .i64 0] (0,0) _ rfl (bp11 (kk BK1)) hu32 rfl (by kernel_rfl)) rfl ?_
  exact ⟨_,rfl,Kd.R_nil _ _ _ _ _,bw HB⟩
 ·rw [hm,Bool.not_true,Bool.false_or] at hbad
  rw [hm] at HMay
  clear hm
  cases hs : siteOk s
  ·rw [hs] at HSite
   clear hs hbad
   go_enter Try.func4,Try.ntmps4
   go_wp2_with (first | ((with_reducible refine Qaf (N:=10) rfl ?_); refine bx 10 #[.int .i64 0, .int .i64 0, .int .i64 0, .int .i64 0, .int .i64 0, .int .i64 0, .string (⟨#[]⟩ : ByteArray), .slice none 0 0, .int .i64 0, .int .i64 0, .int .i64 0] 32 (h := ?_); intro gb1 hg w1 hbox hb; have BK1:=Zz.k hbox; have GE1:=Zz.k ((by rw [hg]; exact (Qap (bw HB)) : w.heap.size <= gb1)); replace HB:=bs HB hb; clear hb hbox hg) | ((with_reducible refine Qac (f:=9) rfl ?_); (try (refine Qah (by rfl) ?_; dsimp only)); refine gl (some 15) Try.func9 #[.slice A0 l0.length c0] (h := ?_); (refine (HMay.out _ (bw HB)).mono ?_); rintro e w2 ⟨rfl,hb⟩; refine ⟨_,rfl, ?_⟩; replace BK1:=bl BK1 hb; replace HB:=bs HB hb; clear hb) | ((with_reducible refine Qac (f:=10) rfl ?_); (try (refine Qah (by rfl) ?_; dsimp only)); refine gl (some 19) Try.func10 #[.int .i64 s] (h := ?_); (refine (HSite.out _ (bw HB)).mono ?_); rintro e w2 ⟨rfl,hb⟩; refine ⟨_,rfl, ?_⟩; replace BK1:=bl BK1 hb; replace HB:=bs HB hb; clear hb; obtain ⟨_,_,_,_,_,_,_,_,_,_,_,_,_,_,_,_,_,_,_,_,_,_⟩:=kc11 BK1))
   refine bodyPost_ret (Qaz rfl _ _ gb1 32 #[.int .i64 0, .int .i64 0, .int .i64 0, .int .i64 0, .int .i64 0, .int .i64 0, .string (⟨#[]⟩ : ByteArray), .slice none 0 0, .int .i64 0, .int .i64 0, .int .i64 0] (0,0) _ rfl (bp11 (kk BK1)) hu32 rfl (by kernel_rfl)) rfl ?_
   exact ⟨_,rfl,Kd.R_nil _ _ _ _ _,bw HB⟩
  ·rw [hs,Bool.not_true,Bool.false_or,Bool.not_eq_true'] at hbad
   rw [hs] at HSite
   rw [hbad] at HText
   clear hs hbad
   go_enter Try.func4,Try.ntmps4
   go_wp2_with (first | ((with_reducible refine Qaf (N:=10) rfl ?_); refine bx 10 #[.int .i64 0, .int .i64 0, .int .i64 0, .int .i64 0, .int .i64 0, .int .i64 0, .string (⟨#[]⟩ : ByteArray), .slice none 0 0, .int .i64 0, .int .i64 0, .int .i64 0] 32 (h := ?_); intro gb1 hg w1 hbox hb; have BK1:=Zz.k hbox; have GE1:=Zz.k ((by rw [hg]; exact (Qap (bw HB)) : w.heap.size <= gb1)); replace HB:=bs HB hb; clear hb hbox hg) | ((with_reducible refine Qac (f:=9) rfl ?_); (try (refine Qah (by rfl) ?_; dsimp only)); refine gl (some 15) Try.func9 #[.slice A0 l0.length c0] (h := ?_); (refine (HMay.out _ (bw HB)).mono ?_); rintro e w2 ⟨rfl,hb⟩; refine ⟨_,rfl, ?_⟩; replace BK1:=bl BK1 hb; replace HB:=bs HB hb; clear hb) | ((with_reducible refine Qac (f:=10) rfl ?_); (try (refine Qah (by rfl) ?_; dsimp only)); refine gl (some 19) Try.func10 #[.int .i64 s] (h := ?_); (refine (HSite.out _ (bw HB)).mono ?_); rintro e w2 ⟨rfl,hb⟩; refine ⟨_,rfl, ?_⟩; replace BK1:=bl BK1 hb; replace HB:=bs HB hb; clear hb) | ((with_reducible refine Qac (f:=11) rfl ?_); (try (refine Qah (by rfl) ?_; dsimp only)); refine gl (some 24) Try.func11 #[.string t] (h := ?_); (refine (HText.out _ (bw HB)).mono ?_); rintro e w2 ⟨rfl,hb⟩; refine ⟨_,rfl, ?_⟩; replace BK1:=bl BK1 hb; replace HB:=bs HB hb; clear hb; obtain ⟨_,_,_,_,_,_,_,_,_,_,_,_,_,_,_,_,_,_,_,_,_,_⟩:=kc11 BK1))
   refine bodyPost_ret (Qaz rfl _ _ gb1 32 #[.int .i64 0, .int .i64 0, .int .i64 0, .int .i64 0, .int .i64 0, .int .i64 0, .string (⟨#[]⟩ : ByteArray), .slice none 0 0, .int .i64 0, .int .i64 0, .int .i64 0] (0,0) _ rfl (bp11 (kk BK1)) hu32 rfl (by kernel_rfl)) rfl ?_
   exact ⟨_,rfl,Kd.R_nil _ _ _ _ _,bw HB⟩
def limB (l0 : List SOp) (a n : Int) (t : ByteArray) : Prop:=a < 0 \/ a > ((Qak l0).length : Int) \/ n < 0 \/ n > ((Qak l0).length : Int) - a \/ (Qaq t).length > 12
theorem Seen_at (A0 : Option Addr) (c0 : Nat) (l0 : List SOp) (W : World) (hr0 : Kd.C kOp W A0 l0.length l0) (hc0 : l0.length <= c0) (hsm : smalls l0 = true) (hm : mayB l0 = true) :
  Calls Try.prog 12 #[.slice A0 l0.length c0] W fun e w' => ∃ AS cS,e = .returned (.slice AS (Qak l0).length cS) /\ (Qak l0).length <= cS /\ Kd.C Qaw w' AS (Qak l0).length (Qak l0) /\ Below W.heap.size W w':=by
 refine (doc_Seen.calls A0 c0 l0 (Qak l0) W hr0 hc0 (by unfold doc_Seen.f; exact if_pos ⟨hsm,hm⟩)).mono ?_
 rintro e w' ⟨v,rfl,hR,hb⟩
 obtain ⟨A,c,rfl,hc,hC⟩:=Kd.R_reads hR
 exact ⟨A,c,rfl,hc,hC,hb⟩
theorem Cnt_at (t : ByteArray) (W : World) (ht : t.size <= 1000000) : Calls Try.prog 13 #[.string t] W fun e w' => e = .returned (.int .i64 ((Qaq t).length : Int)) /\ Below W.heap.size W w':=utf8_RuneCountInString.calls t _ W (by unfold utf8_RuneCountInString.f; rw [if_pos (by omega)])
theorem seen_200 {L : List SOp} (h : RowOk L) : (Qak L).length <= 200:=Nat.le_trans (List.length_filter_le _ _) (by rw [(Qbw h).2]; exact h.sums.2)
theorem Rep_lim (A0 : Option Addr) (c0 : Nat) (l0 : List SOp) (s a n : Int) (t : ByteArray) (w : World) (hr0 : Kd.C kOp w A0 l0.length l0) (hc0 : l0.length <= c0) (hsm : smalls l0 = true) (ht : t.size <= 1000000) (hok : badB l0 s t = false) (hlim : limB l0 a n t) :
  Calls Try.prog 4 #[.slice A0 l0.length c0, .int .i64 s, .int .i64 a, .int .i64 n, .string t] w fun e w' => ∃ v7 : Value,e = .returned (.tuple #[.agg #[.int .i64 0, .int .i64 0, .int .i64 0, .int .i64 0, .int .i64 0, .int .i64 0, .string (⟨#[]⟩ : ByteArray),v7, .int .i64 0, .int .i64 0, .int .i64 0], .int .i64 2]) /\ RE w' w.heap.size v7 [] /\ Below w.heap.size w w':=by
 have hgood : mayB l0 = true /\ siteOk s = true /\ Qbz t = true:=by
  unfold badB at hok
  revert hok
  cases mayB l0 <;> cases siteOk s <;> cases Qbz t <;> simp
 obtain ⟨hm,hs,hx⟩:=hgood
 have HSeen:=Zz.k (fun W (hb : Below w.heap.size w W) => Seen_at A0 c0 l0 W (Kd.C_below hr0 hb) hc0 hsm hm)
 have HCnt:=Zz.k (fun W (_ : Below w.heap.size w W) => Cnt_at t W ht)
 have hle:=seen_200 ((Qbp l0).1 hm)
 have hu32:=Try.underlying32
 have HB:=Zz.k (Below.refl w.heap.size w)
 have HC0:=Zz.k hc0
 have HT:=Zz.k ht
 have HR0:=Zz.k hr0
 have HSM:=Zz.k hsm
 have HMay:=Zz.k (fun W (hb : Below w.heap.size w W) => tree_May.calls A0 c0 l0 (mayB l0) W (Kd.C_below hr0 hb) hc0 (tree_May_f hsm))
 have HSite:=Zz.k (fun W (_ : Below w.heap.size w W) => Site_calls s W)
 have HText:=Zz.k (fun W (_ : Below w.heap.size w W) => text_May.calls t (Qbz t) W rfl)
 clear hr0 hc0 hsm ht
 rw [hm] at HMay
 rw [hs] at HSite
 rw [hx] at HText
 have HMB:=Zz.k (And.intro hm (And.intro hs hx))
 clear hm hs hx hok
 have hq : ∃ q : Nat,q = (Qaq t).length:=⟨_,rfl⟩
 obtain ⟨q,hq⟩:=hq
 have hk : ∃ k : Nat,k = (Qak l0).length:=⟨_,rfl⟩
 obtain ⟨k,hk⟩:=hk
 unfold limB at hlim
 rw [<- hq] at HCnt
 rw [<- hk] at hle HSeen
 rw [<- hq,<- hk] at hlim
 clear hq hk
 have c1 : a < 0 \/ (¬ a < 0 /\ a > (k : Int)) \/ (¬ a < 0 /\ ¬ a > (k : Int) /\ n < 0) \/ (¬ a < 0 /\ ¬ a > (k : Int) /\ ¬ n < 0 /\ n > (k : Int) - a) \/ (¬ a < 0 /\ ¬ a > (k : Int) /\ ¬ n < 0 /\ ¬ n > (k : Int) - a /\ ((q : Int) > 12)):=by omega
 clear hlim
 rcases c1 with h1 | ⟨h1,h2⟩ | ⟨h1,h2,h3⟩ | ⟨h1,h2,h3,h4⟩ | ⟨h1,h2,h3,h4,h5⟩
 ·go_enter Try.func4,Try.ntmps4
  go_wp2_with (first | ((with_reducible refine Qaf (N:=10) rfl ?_); refine bx 10 #[.int .i64 0, .int .i64 0, .int .i64 0, .int .i64 0, .int .i64 0, .int .i64 0, .string (⟨#[]⟩ : ByteArray), .slice none 0 0, .int .i64 0, .int .i64 0, .int .i64 0] 32 (h := ?_); intro gb1 hg w1 hbox hb; have BK1:=Zz.k hbox; have GE1:=Zz.k ((by rw [hg]; exact (Qap (bw HB)) : w.heap.size <= gb1)); replace HB:=bs HB hb; clear hb hbox hg) | ((with_reducible refine Qac (f:=9) rfl ?_); (try (refine Qah (by rfl) ?_; dsimp only)); refine gl (some 15) Try.func9 #[.slice A0 l0.length c0] (h := ?_); (refine (HMay.out _ (bw HB)).mono ?_); rintro e w2 ⟨rfl,hb⟩; refine ⟨_,rfl, ?_⟩; replace BK1:=bl BK1 hb; replace HB:=bs HB hb; clear hb) | ((with_reducible refine Qac (f:=10) rfl ?_); (try (refine Qah (by rfl) ?_; dsimp only)); refine gl (some 19) Try.func10 #[.int .i64 s] (h := ?_); (refine (HSite.out _ (bw HB)).mono ?_); rintro e w2 ⟨rfl,hb⟩; refine ⟨_,rfl, ?_⟩; replace BK1:=bl BK1 hb; replace HB:=bs HB hb; clear hb) | ((with_reducible refine Qac (f:=11) rfl ?_); (try (refine Qah (by rfl) ?_; dsimp only)); refine gl (some 24) Try.func11 #[.string t] (h := ?_); (refine (HText.out _ (bw HB)).mono ?_); rintro e w2 ⟨rfl,hb⟩; refine ⟨_,rfl, ?_⟩; replace BK1:=bl BK1 hb; replace HB:=bs HB hb; clear hb) | ((with_reducible refine Qac (f:=12) rfl ?_); refine gl (some 29) Try.func12 #[.slice A0 l0.length c0] (h := ?_); (refine (HSeen.out _ (bw HB)).mono ?_); rintro e w2 ⟨AS,cS,rfl,hcS,hCS,hb⟩; refine ⟨_,rfl, ?_⟩; have HCS:=Zz.k hCS; have HcS:=Zz.k hcS; replace BK1:=bl BK1 hb; replace HB:=bs HB hb; clear hb hCS hcS; obtain ⟨_,_,_,_,_,_,_,_,_,_,_,_,_,_,_,_,_,_,_,_,_,_⟩:=kc11 BK1))
  refine bodyPost_ret (Qaz rfl _ _ gb1 32 #[.int .i64 0, .int .i64 0, .int .i64 0, .int .i64 0, .int .i64 0, .int .i64 0, .string (⟨#[]⟩ : ByteArray), .slice none 0 0, .int .i64 0, .int .i64 0, .int .i64 0] (0,0) _ rfl (bp11 (kk BK1)) hu32 rfl (by kernel_rfl)) rfl ?_
  exact ⟨_,rfl,Kd.R_nil _ _ _ _ _,bw HB⟩
 ·go_enter Try.func4,Try.ntmps4
  go_wp2_with (first | ((with_reducible refine Qaf (N:=10) rfl ?_); refine bx 10 #[.int .i64 0, .int .i64 0, .int .i64 0, .int .i64 0, .int .i64 0, .int .i64 0, .string (⟨#[]⟩ : ByteArray), .slice none 0 0, .int .i64 0, .int .i64 0, .int .i64 0] 32 (h := ?_); intro gb1 hg w1 hbox hb; have BK1:=Zz.k hbox; have GE1:=Zz.k ((by rw [hg]; exact (Qap (bw HB)) : w.heap.size <= gb1)); replace HB:=bs HB hb; clear hb hbox hg) | ((with_reducible refine Qac (f:=9) rfl ?_); (try (refine Qah (by rfl) ?_; dsimp only)); refine gl (some 15) Try.func9 #[.slice A0 l0.length c0] (h := ?_); (refine (HMay.out _ (bw HB)).mono ?_); rintro e w2 ⟨rfl,hb⟩; refine ⟨_,rfl, ?_⟩; replace BK1:=bl BK1 hb; replace HB:=bs HB hb; clear hb) | ((with_reducible refine Qac (f:=10) rfl ?_); (try (refine Qah (by rfl) ?_; dsimp only)); refine gl (some 19) Try.func10 #[.int .i64 s] (h := ?_); (refine (HSite.out _ (bw HB)).mono ?_); rintro e w2 ⟨rfl,hb⟩; refine ⟨_,rfl, ?_⟩; replace BK1:=bl BK1 hb; replace HB:=bs HB hb; clear hb) | ((with_reducible refine Qac (f:=11) rfl ?_); (try (refine Qah (by rfl) ?_; dsimp only)); refine gl (some 24) Try.func11 #[.string t] (h := ?_); (refine (HText.out _ (bw HB)).mono ?_); rintro e w2 ⟨rfl,hb⟩; refine ⟨_,rfl, ?_⟩; replace BK1:=bl BK1 hb; replace HB:=bs HB hb; clear hb) | ((with_reducible refine Qac (f:=12) rfl ?_); refine gl (some 29) Try.func12 #[.slice A0 l0.length c0] (h := ?_); (refine (HSeen.out _ (bw HB)).mono ?_); rintro e w2 ⟨AS,cS,rfl,hcS,hCS,hb⟩; refine ⟨_,rfl, ?_⟩; have HCS:=Zz.k hCS; have HcS:=Zz.k hcS; replace BK1:=bl BK1 hb; replace HB:=bs HB hb; clear hb hCS hcS; obtain ⟨_,_,_,_,_,_,_,_,_,_,_,_,_,_,_,_,_,_,_,_,_,_⟩:=kc11 BK1))
  refine bodyPost_ret (Qaz rfl _ _ gb1 32 #[.int .i64 0, .int .i64 0, .int .i64 0, .int .i64 0, .int .i64 0, .int .i64 0, .string (⟨#[]⟩ : ByteArray), .slice none 0 0, .int .i64 0, .int .i64 0, .int .i64 0] (0,0) _ rfl (bp11 (kk BK1)) hu32 rfl (by kernel_rfl)) rfl ?_
  exact ⟨_,rfl,Kd.R_nil _ _ _ _ _,bw HB⟩
 ·go_enter Try.func4,Try.ntmps4
  go_wp2_with (first | ((with_reducible refine Qaf (N:=10) rfl ?_); refine bx 10 #[.int .i64 0, .int .i64 0, .int .i64 0, .int .i64 0, .int .i64 0, .int .i64 0, .string (⟨#[]⟩ : ByteArray), .slice none 0 0, .int .i64 0, .int .i64 0, .int .i64 0] 32 (h := ?_); intro gb1 hg w1 hbox hb; have BK1:=Zz.k hbox; have GE1:=Zz.k ((by rw [hg]; exact (Qap (bw HB)) : w.heap.size <= gb1)); replace HB:=bs HB hb; clear hb hbox hg) | ((with_reducible refine Qac (f:=9) rfl ?_); (try (refine Qah (by rfl) ?_; dsimp only)); refine gl (some 15) Try.func9 #[.slice A0 l0.length c0] (h := ?_); (refine (HMay.out _ (bw HB)).mono ?_); rintro e w2 ⟨rfl,hb⟩; refine ⟨_,rfl, ?_⟩; replace BK1:=bl BK1 hb; replace HB:=bs HB hb; clear hb) | ((with_reducible refine Qac (f:=10) rfl ?_); (try (refine Qah (by rfl) ?_; dsimp only)); refine gl (some 19) Try.func10 #[.int .i64 s] (h := ?_); (refine (HSite.out _ (bw HB)).mono ?_); rintro e w2 ⟨rfl,hb⟩; refine ⟨_,rfl, ?_⟩; replace BK1:=bl BK1 hb; replace HB:=bs HB hb; clear hb) | ((with_reducible refine Qac (f:=11) rfl ?_); (try (refine Qah (by rfl) ?_; dsimp only)); refine gl (some 24) Try.func11 #[.string t] (h := ?_); (refine (HText.out _ (bw HB)).mono ?_); rintro e w2 ⟨rfl,hb⟩; refine ⟨_,rfl, ?_⟩; replace BK1:=bl BK1 hb; replace HB:=bs HB hb; clear hb) | ((with_reducible refine Qac (f:=12) rfl ?_); refine gl (some 29) Try.func12 #[.slice A0 l0.length c0] (h := ?_); (refine (HSeen.out _ (bw HB)).mono ?_); rintro e w2 ⟨AS,cS,rfl,hcS,hCS,hb⟩; refine ⟨_,rfl, ?_⟩; have HCS:=Zz.k hCS; have HcS:=Zz.k hcS; replace BK1:=bl BK1 hb; replace HB:=bs HB hb; clear hb hCS hcS; obtain ⟨_,_,_,_,_,_,_,_,_,_,_,_,_,_,_,_,_,_,_,_,_,_⟩:=kc11 BK1))
  refine bodyPost_ret (Qaz rfl _ _ gb1 32 #[.int .i64 0, .int .i64 0, .int .i64 0, .int .i64 0, .int .i64 0, .int .i64 0, .string (⟨#[]⟩ : ByteArray), .slice none 0 0, .int .i64 0, .int .i64 0, .int .i64 0] (0,0) _ rfl (bp11 (kk BK1)) hu32 rfl (by kernel_rfl)) rfl ?_
  exact ⟨_,rfl,Kd.R_nil _ _ _ _ _,bw HB⟩
 ·have hw1 : wrap64 ((k : Int) - a) = (k : Int) - a:=Qai (by omega) (by omega)
  go_enter Try.func4,Try.ntmps4
  go_wp2_with (first | ((with_reducible refine Qaf (N:=10) rfl ?_); refine bx 10 #[.int .i64 0, .int .i64 0, .int .i64 0, .int .i64 0, .int .i64 0, .int .i64 0, .string (⟨#[]⟩ : ByteArray), .slice none 0 0, .int .i64 0, .int .i64 0, .int .i64 0] 32 (h := ?_); intro gb1 hg w1 hbox hb; have BK1:=Zz.k hbox; have GE1:=Zz.k ((by rw [hg]; exact (Qap (bw HB)) : w.heap.size <= gb1)); replace HB:=bs HB hb; clear hb hbox hg) | ((with_reducible refine Qac (f:=9) rfl ?_); (try (refine Qah (by rfl) ?_; dsimp only)); refine gl (some 15) Try.func9 #[.slice A0 l0.length c0] (h := ?_); (refine (HMay.out _ (bw HB)).mono ?_); rintro e w2 ⟨rfl,hb⟩; refine ⟨_,rfl, ?_⟩; replace BK1:=bl BK1 hb; replace HB:=bs HB hb; clear hb) | ((with_reducible refine Qac (f:=10) rfl ?_); (try (refine Qah (by rfl) ?_; dsimp only)); refine gl (some 19) Try.func10 #[.int .i64 s] (h := ?_); (refine (HSite.out _ (bw HB)).mono ?_); rintro e w2 ⟨rfl,hb⟩; refine ⟨_,rfl, ?_⟩; replace BK1:=bl BK1 hb; replace HB:=bs HB hb; clear hb) | ((with_reducible refine Qac (f:=11) rfl ?_); (try (refine Qah (by rfl) ?_; dsimp only)); refine gl (some 24) Try.func11 #[.string t] (h := ?_); (refine (HText.out _ (bw HB)).mono ?_); rintro e w2 ⟨rfl,hb⟩; refine ⟨_,rfl, ?_⟩; replace BK1:=bl BK1 hb; replace HB:=bs HB hb; clear hb) | ((with_reducible refine Qac (f:=12) rfl ?_); refine gl (some 29) Try.func12 #[.slice A0 l0.length c0] (h := ?_); (refine (HSeen.out _ (bw HB)).mono ?_); rintro e w2 ⟨AS,cS,rfl,hcS,hCS,hb⟩; refine ⟨_,rfl, ?_⟩; have HCS:=Zz.k hCS; have HcS:=Zz.k hcS; replace BK1:=bl BK1 hb; replace HB:=bs HB hb; clear hb hCS hcS; obtain ⟨_,_,_,_,_,_,_,_,_,_,_,_,_,_,_,_,_,_,_,_,_,_⟩:=kc11 BK1))
  refine bodyPost_ret (Qaz rfl _ _ gb1 32 #[.int .i64 0, .int .i64 0, .int .i64 0, .int .i64 0, .int .i64 0, .int .i64 0, .string (⟨#[]⟩ : ByteArray), .slice none 0 0, .int .i64 0, .int .i64 0, .int .i64 0] (0,0) _ rfl (bp11 (kk BK1)) hu32 rfl (by kernel_rfl)) rfl ?_
  exact ⟨_,rfl,Kd.R_nil _ _ _ _ _,bw HB⟩
 ·have hw1 : wrap64 ((k : Int) - a) = (k : Int) - a:=Qai (by omega) (by omega)
  go_enter Try.func4,Try.ntmps4
  go_wp2_with (first | ((with_reducible refine Qaf (N:=10) rfl ?_); refine bx 10 #[.int .i64 0, .int .i64 0, .int .i64 0, .int .i64 0, .int .i64 0, .int .i64 0, .string (⟨#[]⟩ : ByteArray), .slice none 0 0, .int .i64 0, .int .i64 0, .int .i64 0] 32 (h := ?_); intro gb1 hg w1 hbox hb; have BK1:=Zz.k hbox; have GE1:=Zz.k ((by rw [hg]; exact (Qap (bw HB)) : w.heap.size <= gb1)); replace HB:=bs HB hb; clear hb hbox hg) | ((with_reducible refine Qac (f:=9) rfl ?_); (try (refine Qah (by rfl) ?_; dsimp only)); refine gl (some 15) Try.func9 #[.slice A0 l0.length c0] (h := ?_); (refine (HMay.out _ (bw HB)).mono ?_); rintro e w2 ⟨rfl,hb⟩; refine ⟨_,rfl, ?_⟩; replace BK1:=bl BK1 hb; replace HB:=bs HB hb; clear hb) | ((with_reducible refine Qac (f:=10) rfl ?_); (try (refine Qah (by rfl) ?_; dsimp only)); refine gl (some 19) Try.func10 #[.int .i64 s] (h := ?_); (refine (HSite.out _ (bw HB)).mono ?_); rintro e w2 ⟨rfl,hb⟩; refine ⟨_,rfl, ?_⟩; replace BK1:=bl BK1 hb; replace HB:=bs HB hb; clear hb) | ((with_reducible refine Qac (f:=11) rfl ?_); (try (refine Qah (by rfl) ?_; dsimp only)); refine gl (some 24) Try.func11 #[.string t] (h := ?_); (refine (HText.out _ (bw HB)).mono ?_); rintro e w2 ⟨rfl,hb⟩; refine ⟨_,rfl, ?_⟩; replace BK1:=bl BK1 hb; replace HB:=bs HB hb; clear hb) | ((with_reducible refine Qac (f:=12) rfl ?_); refine gl (some 29) Try.func12 #[.slice A0 l0.length c0] (h := ?_); (refine (HSeen.out _ (bw HB)).mono ?_); rintro e w2 ⟨AS,cS,rfl,hcS,hCS,hb⟩; refine ⟨_,rfl, ?_⟩; have HCS:=Zz.k hCS; have HcS:=Zz.k hcS; replace BK1:=bl BK1 hb; replace HB:=bs HB hb; clear hb hCS hcS) | ((with_reducible refine Qac (f:=13) rfl ?_); (try (refine Qah (by rfl) ?_; dsimp only)); refine gl (some 53) Try.func13 #[.string t] (h := ?_); (refine (HCnt.out _ (bw HB)).mono ?_); rintro e w2 ⟨rfl,hb⟩; refine ⟨_,rfl, ?_⟩; replace BK1:=bl BK1 hb; replace HB:=bs HB hb; clear hb; obtain ⟨_,_,_,_,_,_,_,_,_,_,_,_,_,_,_,_,_,_,_,_,_,_⟩:=kc11 BK1))
  refine bodyPost_ret (Qaz rfl _ _ gb1 32 #[.int .i64 0, .int .i64 0, .int .i64 0, .int .i64 0, .int .i64 0, .int .i64 0, .string (⟨#[]⟩ : ByteArray), .slice none 0 0, .int .i64 0, .int .i64 0, .int .i64 0] (0,0) _ rfl (bp11 (kk BK1)) hu32 rfl (by kernel_rfl)) rfl ?_
  exact ⟨_,rfl,Kd.R_nil _ _ _ _ _,bw HB⟩
theorem Rep_none (A0 : Option Addr) (c0 : Nat) (l0 : List SOp) (s a : Int) (t : ByteArray) (w : World) (hr0 : Kd.C kOp w A0 l0.length l0) (hc0 : l0.length <= c0) (hsm : smalls l0 = true) (ht : t.size <= 1000000) (hok : badB l0 s t = false) (hlim : ¬ limB l0 a 0 t) (hte : t.toList.isEmpty = true) :
  Calls Try.prog 4 #[.slice A0 l0.length c0, .int .i64 s, .int .i64 a, .int .i64 0, .string t] w fun e w' => ∃ v7 : Value,e = .returned (.tuple #[.agg #[.int .i64 0, .int .i64 0, .int .i64 0, .int .i64 0, .int .i64 0, .int .i64 0, .string (⟨#[]⟩ : ByteArray),v7, .int .i64 0, .int .i64 0, .int .i64 0], .int .i64 3]) /\ RE w' w.heap.size v7 [] /\ Below w.heap.size w w':=by
 have hgood : mayB l0 = true /\ siteOk s = true /\ Qbz t = true:=by
  unfold badB at hok
  revert hok
  cases mayB l0 <;> cases siteOk s <;> cases Qbz t <;> simp
 obtain ⟨hm,hs,hx⟩:=hgood
 have HSeen:=Zz.k (fun W (hb : Below w.heap.size w W) => Seen_at A0 c0 l0 W (Kd.C_below hr0 hb) hc0 hsm hm)
 have HCnt:=Zz.k (fun W (_ : Below w.heap.size w W) => Cnt_at t W ht)
 have hle:=seen_200 ((Qbp l0).1 hm)
 have hu32:=Try.underlying32
 have HB:=Zz.k (Below.refl w.heap.size w)
 have HC0:=Zz.k hc0
 have HT:=Zz.k ht
 have HR0:=Zz.k hr0
 have HSM:=Zz.k hsm
 have HMay:=Zz.k (fun W (hb : Below w.heap.size w W) => tree_May.calls A0 c0 l0 (mayB l0) W (Kd.C_below hr0 hb) hc0 (tree_May_f hsm))
 have HSite:=Zz.k (fun W (_ : Below w.heap.size w W) => Site_calls s W)
 have HText:=Zz.k (fun W (_ : Below w.heap.size w W) => text_May.calls t (Qbz t) W rfl)
 clear hr0 hc0 hsm ht
 rw [hm] at HMay
 rw [hs] at HSite
 rw [hx] at HText
 have HMB:=Zz.k (And.intro hm (And.intro hs hx))
 clear hm hs hx hok
 have hq : ∃ q : Nat,q = (Qaq t).length:=⟨_,rfl⟩
 obtain ⟨q,hq⟩:=hq
 have hk : ∃ k : Nat,k = (Qak l0).length:=⟨_,rfl⟩
 obtain ⟨k,hk⟩:=hk
 unfold limB at hlim
 rw [<- hq] at HCnt
 rw [<- hk] at hle HSeen
 rw [<- hq,<- hk] at hlim
 have h1 : ¬ a < 0:=by omega
 have h2 : ¬ a > (k : Int):=by omega
 have h4 : ¬ (0 : Int) > (k : Int) - a:=by omega
 have h5 : ¬ (q : Int) > 12:=by omega
 have hw1 : wrap64 ((k : Int) - a) = (k : Int) - a:=Qai (by omega) (by omega)
 clear hq hk hlim
 go_enter Try.func4,Try.ntmps4
 go_wp2_with (first | ((with_reducible refine Qaf (N:=10) rfl ?_); refine bx 10 #[.int .i64 0, .int .i64 0, .int .i64 0, .int .i64 0, .int .i64 0, .int .i64 0, .string (⟨#[]⟩ : ByteArray), .slice none 0 0, .int .i64 0, .int .i64 0, .int .i64 0] 32 (h := ?_); intro gb1 hg w1 hbox hb; have BK1:=Zz.k hbox; have GE1:=Zz.k ((by rw [hg]; exact (Qap (bw HB)) : w.heap.size <= gb1)); replace HB:=bs HB hb; clear hb hbox hg) | ((with_reducible refine Qac (f:=9) rfl ?_); (try (refine Qah (by rfl) ?_; dsimp only)); refine gl (some 15) Try.func9 #[.slice A0 l0.length c0] (h := ?_); (refine (HMay.out _ (bw HB)).mono ?_); rintro e w2 ⟨rfl,hb⟩; refine ⟨_,rfl, ?_⟩; replace BK1:=bl BK1 hb; replace HB:=bs HB hb; clear hb) | ((with_reducible refine Qac (f:=10) rfl ?_); (try (refine Qah (by rfl) ?_; dsimp only)); refine gl (some 19) Try.func10 #[.int .i64 s] (h := ?_); (refine (HSite.out _ (bw HB)).mono ?_); rintro e w2 ⟨rfl,hb⟩; refine ⟨_,rfl, ?_⟩; replace BK1:=bl BK1 hb; replace HB:=bs HB hb; clear hb) | ((with_reducible refine Qac (f:=11) rfl ?_); (try (refine Qah (by rfl) ?_; dsimp only)); refine gl (some 24) Try.func11 #[.string t] (h := ?_); (refine (HText.out _ (bw HB)).mono ?_); rintro e w2 ⟨rfl,hb⟩; refine ⟨_,rfl, ?_⟩; replace BK1:=bl BK1 hb; replace HB:=bs HB hb; clear hb) | ((with_reducible refine Qac (f:=12) rfl ?_); refine gl (some 29) Try.func12 #[.slice A0 l0.length c0] (h := ?_); (refine (HSeen.out _ (bw HB)).mono ?_); rintro e w2 ⟨AS,cS,rfl,hcS,hCS,hb⟩; refine ⟨_,rfl, ?_⟩; have HCS:=Zz.k hCS; have HcS:=Zz.k hcS; replace BK1:=bl BK1 hb; replace HB:=bs HB hb; clear hb hCS hcS) | ((with_reducible refine Qac (f:=13) rfl ?_); (try (refine Qah (by rfl) ?_; dsimp only)); refine gl (some 53) Try.func13 #[.string t] (h := ?_); (refine (HCnt.out _ (bw HB)).mono ?_); rintro e w2 ⟨rfl,hb⟩; refine ⟨_,rfl, ?_⟩; replace BK1:=bl BK1 hb; replace HB:=bs HB hb; clear hb; obtain ⟨_,_,_,_,_,_,_,_,_,_,_,_,_,_,_,_,_,_,_,_,_,_⟩:=kc11 BK1))
 refine bodyPost_ret (Qaz rfl _ _ gb1 32 #[.int .i64 0, .int .i64 0, .int .i64 0, .int .i64 0, .int .i64 0, .int .i64 0, .string (⟨#[]⟩ : ByteArray), .slice none 0 0, .int .i64 0, .int .i64 0, .int .i64 0] (0,0) _ rfl (bp11 (kk BK1)) hu32 rfl (by kernel_rfl)) rfl ?_
 exact ⟨_,rfl,Kd.R_nil _ _ _ _ _,bw HB⟩
theorem Next_loop (l : List SOp) (hl : l.length <= 1000000) (s : Int) : ∀ d i (c : Nat),i + d = l.length -> c <= i + 1 -> Ev (fun k => edit_Next.l0 k s (c : Int) l (l.length : Int) (i : Int)) ((c + Qbg (l.drop i) s : Nat) : Int)
 | 0,i,c,h,hc => Ev.step (f:=fun _ => some ((c + Qbg (l.drop i) s : Nat) : Int)) (fun k => by
   simp only [edit_Next.l0]
   rw [if_neg (by omega),List.drop_of_length_le (by omega)]; rfl) (Ev.now _)
 | d + 1,i,c,h,hc => by
  have hi : i < l.length:=by omega
  have hw : wrap64 ((i : Int) + 1) = ((i + 1 : Nat) : Int):=by rw [Qai (by omega) (by omega)]; omega
  have hwc : wrap64 ((c : Int) + 1) = ((c + 1 : Nat) : Int):=by rw [Qai (by omega) (by omega)]; omega
  have hd : l.drop i = l[i] :: l.drop (i + 1):=List.drop_eq_getElem_cons hi
  have hcs : Qbg (l.drop i) s = Qbg (l.drop (i + 1)) s + if l[i].f0 = s then 1 else 0:=by
   rw [hd]; unfold Qbg; rw [List.countP_cons]; simp
  by_cases hs : l[i].f0 = s
  ·have ih:=Next_loop l hl s d (i + 1) (c + 1) (by omega) (by omega)
   rw [hcs,if_pos hs,show c + (Qbg (l.drop (i + 1)) s + 1) = c + 1 + Qbg (l.drop (i + 1)) s by omega]
   refine Ev.step (fun k => ?_) ih
   simp only [edit_Next.l0]
   rw [if_pos (by omega),if_pos (by omega),if_pos (by omega),Qax _ _ hi,if_pos hs,hw,hwc]
  ·have ih:=Next_loop l hl s d (i + 1) c (by omega) (by omega)
   rw [hcs,if_neg hs,Nat.add_zero]
   refine Ev.step (fun k => ?_) ih
   simp only [edit_Next.l0]
   rw [if_pos (by omega),if_pos (by omega),if_pos (by omega),Qax _ _ hi,if_neg hs,hw]
theorem Next_at (A0 : Option Addr) (c0 : Nat) (l0 : List SOp) (s : Int) (W : World) (hr0 : Kd.C kOp W A0 l0.length l0) (hc0 : l0.length <= c0) (hl : l0.length <= 1000000) :
  Calls Try.prog 14 #[.slice A0 l0.length c0, .int .i64 s] W fun e w' => e = .returned (.int .i64 ((Qbg l0 s + 1 : Nat) : Int)) /\ Below W.heap.size W w':=by
 obtain ⟨k,hk⟩:=(Next_loop l0 hl s l0.length 0 1 (Nat.zero_add _) (by omega)).rounds
 rw [List.drop_zero,Nat.add_comm] at hk
 exact edit_Next.calls k A0 c0 l0 s _ W hr0 hc0 hk
theorem Clone_at {A : Option Addr} {k cS a n : Nat} {v : List SElem} {W : World} (hC : Kd.C Qaw W A k v) (hk : k = v.length) (hcs : k <= cS) (han : a + n <= k) (h6 : k <= 1000000) (m : Nat) (hm : m = n) (gv : List SElem) (hgv : gv = (v.drop a).take n) :
  Calls Try.prog 15 #[.slice (if cS = a then A else Option.map (fun x => x.add (a * 3)) A) m (cS - a)] W fun e w' => ∃ v',e = .returned v' /\ RE w' W.heap.size v' gv /\ Below W.heap.size W w':=by
 subst hk hm hgv
 have h:=Kd.C_mid (lo:=a) (hi:=a + m) (c:=cS) hC (by omega) han hcs
 have e : (v.take (a + m)).drop a = (v.drop a).take m:=by rw [List.drop_take]; congr 1; omega
 rw [e] at h
 have hl : ((v.drop a).take m).length = m:=by rw [List.length_take,List.length_drop]; omega
 have:=clone_calls (if cS = a then A else A.map (·.add (a * Qaw.sz))) (cS - a) ((v.drop a).take m) W h (by rw [hl]; omega)
 rw [hl] at this
 exact this
abbrev put11 (W : World) (g : Nat) (v0 v1 v2 v3 v4 v5 v6 v7 v8 v9 v10 : Value) : World:=((((((((((W.setCell ⟨g,0,none⟩ v0).setCell ⟨g,1,none⟩ v1).setCell ⟨g,2,none⟩ v2).setCell ⟨g,3,none⟩ v3).setCell ⟨g,4,none⟩ v4).setCell ⟨g,5,none⟩ v5).setCell ⟨g,6,none⟩ v6).setCell ⟨g,7,none⟩ v7).setCell ⟨g,8,none⟩ v8).setCell ⟨g,9,none⟩ v9).setCell ⟨g,10,none⟩ v10
theorem put11_far {W : World} {g g1 : Nat} {t : TypeId} {cs : Array Value} (h : W.heap[g1]? = some (.cells cs t (0,0))) (hne : g1 ≠ g) (v0 v1 v2 v3 v4 v5 v6 v7 v8 v9 v10 : Value) : (put11 W g v0 v1 v2 v3 v4 v5 v6 v7 v8 v9 v10).heap[g1]? = some (.cells cs t (0,0)):=by
 exact Qbo (p:=⟨g,10,none⟩) (Qbo (p:=⟨g,9,none⟩) (Qbo (p:=⟨g,8,none⟩) (Qbo (p:=⟨g,7,none⟩) (Qbo (p:=⟨g,6,none⟩) (Qbo (p:=⟨g,5,none⟩) (Qbo (p:=⟨g,4,none⟩) (Qbo (p:=⟨g,3,none⟩) (Qbo (p:=⟨g,2,none⟩) (Qbo (p:=⟨g,1,none⟩) (Qbo (p:=⟨g,0,none⟩) h hne v0) hne v1) hne v2) hne v3) hne v4) hne v5) hne v6) hne v7) hne v8) hne v9) hne v10
theorem put11_below {n : Nat} {w W : World} {g : Nat} (h : Below n w W) (hg : n <= g) (v0 v1 v2 v3 v4 v5 v6 v7 v8 v9 v10 : Value) : Below n w (put11 W g v0 v1 v2 v3 v4 v5 v6 v7 v8 v9 v10):=by
 exact Below.setCell (Below.setCell (Below.setCell (Below.setCell (Below.setCell (Below.setCell (Below.setCell (Below.setCell (Below.setCell (Below.setCell (Below.setCell h hg v0) hg v1) hg v2) hg v3) hg v4) hg v5) hg v6) hg v7) hg v8) hg v9) hg v10
theorem put11_here {W : World} {g : Nat} {t : TypeId} {b0 b1 b2 b3 b4 b5 b6 b7 b8 b9 b10 : Value} (h : W.heap[g]? = some (.cells #[b0,b1,b2,b3,b4,b5,b6,b7,b8,b9,b10] t (0,0))) (v0 v1 v2 v3 v4 v5 v6 v7 v8 v9 v10 : Value) : (put11 W g v0 v1 v2 v3 v4 v5 v6 v7 v8 v9 v10).heap[g]? = some (.cells #[v0,v1,v2,v3,v4,v5,v6,v7,v8,v9,v10] t (0,0)):=bp11 h
theorem put11_R {W : World} {base g : Nat} {v : Value} {xs : List SElem} {cs : Array Value} (h : RE W base v xs) (hb : W.heap[g]? = some (.cells cs 32 (0,0))) (v0 v1 v2 v3 v4 v5 v6 v7 v8 v9 v10 : Value) : RE (put11 W g v0 v1 v2 v3 v4 v5 v6 v7 v8 v9 v10) base v xs :=
 Kd.R_mono (rf11 (Kd.R_types h hb (by decide))) (fun _ _ => trivial)
theorem case_after (a : Nat) (t : ByteArray) : (0 < a /\ t.toList.isEmpty = false) \/ t.toList.isEmpty = true \/ (t.toList.isEmpty = false /\ a = 0):=by
 cases h : t.toList.isEmpty
 ·rcases Nat.eq_zero_or_pos a with h0 | h0
  ·exact .inr (.inr ⟨rfl,h0⟩)
  ·exact .inl ⟨h0,rfl⟩
 ·exact .inr (.inl rfl)
theorem put3_far {W : World} {g g1 : Nat} {t : TypeId} {cs : Array Value} (h : W.heap[g1]? = some (.cells cs t (0,0))) (hne : g1 ≠ g) (v3 v4 v5 : Value) : (((W.setCell ⟨g,3,none⟩ v3).setCell ⟨g,4,none⟩ v4).setCell ⟨g,5,none⟩ v5).heap[g1]? = some (.cells cs t (0,0)):=Qbo (p:=⟨g,5,none⟩) (Qbo (p:=⟨g,4,none⟩) (Qbo (p:=⟨g,3,none⟩) h hne v3) hne v4) hne v5
theorem put3_below {n : Nat} {w W : World} {g : Nat} (h : Below n w W) (hg : n <= g) (v3 v4 v5 : Value) : Below n w (((W.setCell ⟨g,3,none⟩ v3).setCell ⟨g,4,none⟩ v4).setCell ⟨g,5,none⟩ v5):=Below.setCell (Below.setCell (Below.setCell h hg v3) hg v4) hg v5
theorem put3_here {W : World} {g : Nat} {t : TypeId} {b0 b1 b2 b3 b4 b5 b6 b7 b8 b9 b10 : Value} (h : W.heap[g]? = some (.cells #[b0,b1,b2,b3,b4,b5,b6,b7,b8,b9,b10] t (0,0))) (v3 v4 v5 : Value) : (((W.setCell ⟨g,3,none⟩ v3).setCell ⟨g,4,none⟩ v4).setCell ⟨g,5,none⟩ v5).heap[g]? = some (.cells #[b0,b1,b2,v3,v4,v5,b6,b7,b8,b9,b10] t (0,0)):=bp (bp (bp h 3) 4) 5
theorem put3_R {W : World} {base g : Nat} {v : Value} {xs : List SElem} {cs : Array Value} (h : RE W base v xs) (hb : W.heap[g]? = some (.cells cs 32 (0,0))) (v3 v4 v5 : Value) : RE (((W.setCell ⟨g,3,none⟩ v3).setCell ⟨g,4,none⟩ v4).setCell ⟨g,5,none⟩ v5) base v xs :=
 Kd.R_mono (Kd.R_far (p:=⟨g,5,none⟩) (Kd.R_far (p:=⟨g,4,none⟩) (Kd.R_far (p:=⟨g,3,none⟩) (Kd.R_types h hb (by decide)) (fun _ hk => hk.2) v3) (fun _ hk => hk.2) v4) (fun _ hk => hk.2) v5) (fun _ _ => trivial)
def RepPost (l0 : List SOp) (s : Int) (a n : Nat) (t : ByteArray) (b : Bool) (w : World) (e : Ending) (w' : World) : Prop:=∃ v7 : Value,(if b = true then e = .returned (.tuple #[.agg #[.int .i64 s, .int .i64 ((Qbg l0 s + 1 : Nat) : Int), .int .i64 1, .int .i64 (repA l0 a t).f0, .int .i64 (repA l0 a t).f1, .int .i64 (repA l0 a t).f2, .string t,v7, .int .i64 0, .int .i64 0, .int .i64 0], .int .i64 0]) /\ RE w' w.heap.size v7 (repG l0 a n) else e = .returned (.tuple #[.agg #[.int .i64 0, .int .i64 0, .int .i64 0, .int .i64 0, .int .i64 0, .int .i64 0, .string (⟨#[]⟩ : ByteArray),v7, .int .i64 0, .int .i64 0, .int .i64 0], .int .i64 6]) /\ v7 = .slice none 0 0) /\ Below w.heap.size w w'
theorem sort_any {W : World} {base : Nat} {v : Value} {xs : List SElem} (h : RE W base v xs) (hl : xs.length <= 1000000) :
  Calls Try.prog 16 #[v, .func (.func 17) #[] #[]] W fun e w' => e = .returned (.tuple #[]) /\ RE w' base v (sortL xs) /\ ∃ row,W.grownBy w' row /\ ∀ k,row = some k -> v.ownBlock = some k:=by
 rcases Nat.eq_zero_or_pos xs.length with h0 | h0
 ·obtain rfl : xs = []:=List.eq_nil_of_length_eq_zero h0
  obtain ⟨A,c,rfl⟩:=Kd.R_slice h
  have hc:=AnyF.slices_SortFunc_none Try.sortEl A c (.func (.func 17) #[] #[]) W
  change Calls Try.prog 16 _ _ _ at hc
  refine hc.mono ?_
  rintro e w' ⟨rfl,rfl⟩
  have hs : sortL [] = []:=List.eq_nil_of_length_eq_zero (List.length_mergeSort _)
  exact ⟨rfl,by rw [hs]; exact h,none,World.grownBy.refl _ _,fun k hk => by cases hk⟩
 ·obtain ⟨g,c,rfl,hb,hlt,_⟩:=Kd.R_form h h0
  refine (sort_calls h hlt hl).mono ?_
  rintro e w' ⟨rfl,h1,h2⟩
  exact ⟨rfl,h1,some g,h2,fun k hk => hk⟩
theorem sort_keep {W w' : World} {base g : Nat} {v : Value} {xs : List SElem} {cs : Array Value} {row : Option Nat} (h : RE W base v xs) (hb : W.heap[g]? = some (.cells cs 32 (0,0))) (hg : W.grownBy w' row) (hr : ∀ k,row = some k -> v.ownBlock = some k) : w'.heap[g]? = some (.cells cs 32 (0,0)):=by
 have hne : some g ≠ row:=by
  intro e
  have h1:=(Kd.R_types h hb (by decide)).1 g (hr g e.symm)
  exact h1.2 rfl
 exact (hg.block g (blk_lt hb) hne).trans hb
theorem full_n (A0 : Option Addr) (c0 : Nat) (l0 : List SOp) (a0 a1 a2 a3 a4 a5 : Int) (a6 : ByteArray) (l7 : List SElem) (a8 a9 a10 : Int) (A7 : Option Addr) (m c7 : Nat) (hm7 : l7.length = m) (b : Bool) (w : World) (hr0 : Kd.C kOp w A0 l0.length l0) (hc0 : l0.length <= c0) (base : Nat) (hr7 : RE w base (.slice A7 m c7) l7) (hl : l0.length <= 1000000) (hsm : smalls (l0 ++ [⟨a0,a1,a2,⟨a3,a4,a5⟩,a6,l7,a8,a9,a10⟩]) = true) (hm : mayB (l0 ++ [⟨a0,a1,a2,⟨a3,a4,a5⟩,a6,l7,a8,a9,a10⟩]) = b) :
  Calls Try.prog 18 #[.slice A0 l0.length c0, .agg #[.int .i64 a0, .int .i64 a1, .int .i64 a2, .int .i64 a3, .int .i64 a4, .int .i64 a5, .string a6, .slice A7 m c7, .int .i64 a8, .int .i64 a9, .int .i64 a10]] w fun e w' =>
   (if b = true then e = .returned (.tuple #[.agg #[.int .i64 a0, .int .i64 a1, .int .i64 a2, .int .i64 a3, .int .i64 a4, .int .i64 a5, .string a6, .slice A7 m c7, .int .i64 a8, .int .i64 a9, .int .i64 a10], .int .i64 0]) else e = .returned (.tuple #[.agg #[.int .i64 0, .int .i64 0, .int .i64 0, .int .i64 0, .int .i64 0, .int .i64 0, .string (⟨#[]⟩ : ByteArray), .slice none 0 0, .int .i64 0, .int .i64 0, .int .i64 0], .int .i64 6])) /\ Below w.heap.size w w':=by
 subst hm7
 have h:=Kd.R_reads' hr7
 exact full_calls A0 c0 l0 a0 a1 a2 a3 a4 a5 a6 l7 a8 a9 a10 A7 c7 b w hr0 hc0 h.2.2 h.2.1 hl hsm hm
theorem exKe {P : Program} {ops : Array Oper} {Q : Exit -> Act -> World -> Prop} {S : World -> Prop} {F : Act -> World -> Prop} {K : Act -> World -> Prop} {oi : Oper} {a : Act} {w : World} {N : Option Tmp} (hK : Shut (∀ a' w',S w' -> (S w' -> F a' w') -> K a' w')) (u : Value) (w' : World) (hw : Region.wanted oi (yielded ops a.tmps) = true:=by rfl) (hN : oi.dst = N:=by rfl)
  (hrun : (execOp a.eval oi).run P w = .ok (.value u) w') (hS : S w') (h : S w' -> F (a.put N u) w') : if Region.wanted oi (yielded ops a.tmps) = true then Oper.wp P oi a w K Q else K (a.put N undef) w:=by
 rw [if_pos hw]
 unfold Oper.wp
 rw [hrun,Oper.upon_value,hN]
 exact hK.out _ w' hS h
theorem Rep_ok (A0 : Option Addr) (c0 : Nat) (l0 : List SOp) (s : Int) (a n : Nat) (t : ByteArray) (w : World) (hr0 : Kd.C kOp w A0 l0.length l0) (hc0 : l0.length <= c0) (hsm : smalls l0 = true) (ht : t.size <= 1000000) (hok : badB l0 s t = false) (hlim : ¬ limB l0 (a : Int) (n : Int) t) (hne : ¬ (n = 0 /\ t.toList.isEmpty = true)) (b : Bool) (hbb : mayB (l0 ++ [repO l0 s a n t]) = b) :
  Calls Try.prog 4 #[.slice A0 l0.length c0, .int .i64 s, .int .i64 (a : Int), .int .i64 (n : Int), .string t] w fun e w' => RepPost l0 s a n t b w e w':=by
 have HBB:=Zz.k hbb
 clear hbb
 obtain ⟨c1,hc1⟩ : ∃ c1 : Int,c1 = ((Qbg l0 s + 1 : Nat) : Int):=⟨_,rfl⟩
 obtain ⟨gv,hgv⟩ : ∃ gv : List SElem,gv = ((Qak l0).drop a).take n:=⟨_,rfl⟩
 have HGV:=Zz.k hgv
 have HC1:=Zz.k hc1
 have HSN0:=Zz.k (fun x => smalls_snoc (o:=⟨s,c1,1,x,t,sortL gv,0,0,0⟩) hsm (by have:=((Qbp l0).1 (by unfold badB at hok; revert hok; cases mayB l0 <;> simp)).sums.1; omega) ht (by have h200:=seen_200 ((Qbp l0).1 (by unfold badB at hok; revert hok; cases mayB l0 <;> simp)); show (sortL _).length <= 1000000; unfold sortL; rw [List.length_mergeSort,hgv,List.length_take,List.length_drop]; omega))
 have hl40:=((Qbp l0).1 (by unfold badB at hok; revert hok; cases mayB l0 <;> simp)).sums.1
 have HL:=Zz.k (show l0.length <= 1000000 by omega)
 have HGL:=Zz.k (show gv.length <= 1000000 by have h200:=seen_200 ((Qbp l0).1 (by unfold badB at hok; revert hok; cases mayB l0 <;> simp)); rw [hgv,List.length_take,List.length_drop]; omega)
 have HRL:=Zz.k (show repG l0 a n = sortL gv by unfold repG; rw [hgv])
 have HNext:=Zz.k (fun W (hb : Below w.heap.size w W) => show Calls Try.prog 14 #[.slice A0 l0.length c0, .int .i64 s] W fun e w' => e = .returned (.int .i64 c1) /\ Below W.heap.size W w' by rw [hc1]; exact Next_at A0 c0 l0 s W (Kd.C_below hr0 hb) hc0 (by omega))
 clear hgv hc1
 have hgood : mayB l0 = true /\ siteOk s = true /\ Qbz t = true:=by
  unfold badB at hok
  revert hok
  cases mayB l0 <;> cases siteOk s <;> cases Qbz t <;> simp
 obtain ⟨hm,hs,hx⟩:=hgood
 have HSeen:=Zz.k (fun W (hb : Below w.heap.size w W) => Seen_at A0 c0 l0 W (Kd.C_below hr0 hb) hc0 hsm hm)
 have HCnt:=Zz.k (fun W (_ : Below w.heap.size w W) => Cnt_at t W ht)
 have hle:=seen_200 ((Qbp l0).1 hm)
 have hu32:=Try.underlying32
 have HB:=Zz.k (Below.refl w.heap.size w)
 have HC0:=Zz.k hc0
 have HT:=Zz.k ht
 have HR0:=Zz.k hr0
 have HSM:=Zz.k hsm
 have HMay:=Zz.k (fun W (hb : Below w.heap.size w W) => tree_May.calls A0 c0 l0 (mayB l0) W (Kd.C_below hr0 hb) hc0 (tree_May_f hsm))
 have HSite:=Zz.k (fun W (_ : Below w.heap.size w W) => Site_calls s W)
 have HText:=Zz.k (fun W (_ : Below w.heap.size w W) => text_May.calls t (Qbz t) W rfl)
 clear hr0 hc0 hsm ht
 rw [hm] at HMay
 rw [hs] at HSite
 rw [hx] at HText
 have HMB:=Zz.k (And.intro hm (And.intro hs hx))
 clear hm hs hx hok
 have hq : ∃ q : Nat,q = (Qaq t).length:=⟨_,rfl⟩
 obtain ⟨q,hq⟩:=hq
 have hk : ∃ k : Nat,k = (Qak l0).length:=⟨_,rfl⟩
 obtain ⟨k,hk⟩:=hk
 unfold limB at hlim
 rw [<- hq] at HCnt
 rw [<- hk] at hle HSeen
 rw [<- hq,<- hk] at hlim
 have h1 : ¬ (a : Int) < 0:=by omega
 have h2 : ¬ (a : Int) > (k : Int):=by omega
 have h3 : ¬ (n : Int) < 0:=by omega
 have h4 : ¬ (n : Int) > (k : Int) - (a : Int):=by omega
 have h5 : ¬ (q : Int) > 12:=by omega
 have hw1 : wrap64 ((k : Int) - (a : Int)) = (k : Int) - (a : Int):=Qai (by omega) (by omega)
 have HK:=Zz.k hk
 have HAN:=Zz.k (show a + n <= k by omega)
 have HLE:=Zz.k (show k <= 1000000 by omega)
 clear hq hk hlim
 go_enter Try.func4,Try.ntmps4
 go_upto_region 6 with (first | ((with_reducible refine Qaf (N:=10) rfl ?_); refine bx 10 #[.int .i64 0, .int .i64 0, .int .i64 0, .int .i64 0, .int .i64 0, .int .i64 0, .string (⟨#[]⟩ : ByteArray), .slice none 0 0, .int .i64 0, .int .i64 0, .int .i64 0] 32 (h := ?_); intro gb1 hg w1 hbox hb; have BK1:=Zz.k hbox; have GE1:=Zz.k ((by rw [hg]; exact (Qap (bw HB)) : w.heap.size <= gb1)); replace HB:=bs HB hb; clear hb hbox hg) | ((with_reducible refine Qac (f:=9) rfl ?_); (try (refine Qah (by rfl) ?_; dsimp only)); refine gl (some 15) Try.func9 #[.slice A0 l0.length c0] (h := ?_); (refine (HMay.out _ (bw HB)).mono ?_); rintro e w2 ⟨rfl,hb⟩; refine ⟨_,rfl, ?_⟩; replace BK1:=bl BK1 hb; replace HB:=bs HB hb; clear hb) | ((with_reducible refine Qac (f:=10) rfl ?_); (try (refine Qah (by rfl) ?_; dsimp only)); refine gl (some 19) Try.func10 #[.int .i64 s] (h := ?_); (refine (HSite.out _ (bw HB)).mono ?_); rintro e w2 ⟨rfl,hb⟩; refine ⟨_,rfl, ?_⟩; replace BK1:=bl BK1 hb; replace HB:=bs HB hb; clear hb) | ((with_reducible refine Qac (f:=11) rfl ?_); (try (refine Qah (by rfl) ?_; dsimp only)); refine gl (some 24) Try.func11 #[.string t] (h := ?_); (refine (HText.out _ (bw HB)).mono ?_); rintro e w2 ⟨rfl,hb⟩; refine ⟨_,rfl, ?_⟩; replace BK1:=bl BK1 hb; replace HB:=bs HB hb; clear hb) | ((with_reducible refine Qac (f:=12) rfl ?_); refine gl (some 29) Try.func12 #[.slice A0 l0.length c0] (h := ?_); (refine (HSeen.out _ (bw HB)).mono ?_); rintro e w2 ⟨AS,cS,rfl,hcS,hCS,hb⟩; refine ⟨_,rfl, ?_⟩; have HCS:=Zz.k hCS; have HcS:=Zz.k hcS; replace BK1:=bl BK1 hb; replace HB:=bs HB hb; clear hb hCS hcS) | ((with_reducible refine Qac (f:=13) rfl ?_); (try (refine Qah (by rfl) ?_; dsimp only)); refine gl (some 53) Try.func13 #[.string t] (h := ?_); (refine (HCnt.out _ (bw HB)).mono ?_); rintro e w2 ⟨rfl,hb⟩; refine ⟨_,rfl, ?_⟩; replace HCS:=Zz.k (Kd.C_below HCS.out hb); replace BK1:=bl BK1 hb; replace HB:=bs HB hb; clear hb))
 go_cut [3,57] from 14 (fun s3 s57 wx => s3 = .int .i64 (n : Int) /\ s57 = .bool false /\ wx = w2)
 case first =>
  by_cases hn0 : (n : Int) = 0
  ·have ht0 : t.toList.isEmpty = false:=by
    cases ht : t.toList.isEmpty
    ·rfl
    ·exact absurd ⟨by omega,ht⟩ hne
   go_wp2
   go_meet
   case rel => exact ⟨by rw [hn0],rfl,rfl⟩
  ·go_wp2
   go_meet
   case rel => exact ⟨rfl,rfl,rfl⟩
 case rest =>
  clear hne
  obtain ⟨rfl,rfl,rfl⟩:=hcut
  go_upto_region 8 with (fail)
  go_cut [13] from 65 (fun s13 wx => ∃ (gbo : Nat) (AG : Option Addr) (cG : Nat),s13 = .pointer (some ⟨gbo,0,none⟩) /\ Zz (wx.heap[gbo]? = some (.cells #[.int .i64 s, .int .i64 c1, .int .i64 1, .int .i64 0, .int .i64 0, .int .i64 0, .string t, .slice AG gv.length cG, .int .i64 0, .int .i64 0, .int .i64 0] 32 (0,0))) /\ Zz (RE wx w.heap.size (.slice AG gv.length cG) gv) /\ Zz (wx.heap[gb1]? = some (.cells #[.int .i64 0, .int .i64 0, .int .i64 0, .int .i64 0, .int .i64 0, .int .i64 0, .string (⟨#[]⟩ : ByteArray), .slice none 0 0, .int .i64 0, .int .i64 0, .int .i64 0] 32 (0,0))) /\ Zz (Below w.heap.size w wx) /\ Zz (Kd.C Qaw wx AS k (Qak l0)) /\ Zz (gb1 ≠ gbo) /\ Zz (gbo ≠ gb1) /\ Zz (w.heap.size <= gbo))
  case first =>
   have hwa : wrap64 ((a : Int) + (n : Int)) = (a : Int) + (n : Int):=Qai (by omega) (by omega)
   have hwa0 : wrap64 (a : Int) = (a : Int):=Qai (by omega) (by omega)
   have hcS:=HcS.out
   have hs1 : (0 : Int) <= (a : Int) + (n : Int):=by omega
   have hs2 : (a : Int) + (n : Int) <= (cS : Int):=by have:=HAN.out; omega
   have hs3 : (a : Int) <= (cS : Int):=by omega
   have hs4 : ((a : Int) + (n : Int)).toNat = a + n:=by omega
   refine stL (S:=fun _ => True) [14] 15 t_edit_Replace.bits8 t_edit_Replace.tab8 (hS:=trivial) (h:=fun hS HT HW => ?_)
   have HB8:=Zz.k (show Below w.heap.size w wc.drew from bw HB)
   replace BK1:=Zz.k (show wc.drew.heap[gb1]? = some _ from kk BK1)
   have HC8:=Zz.k (show Kd.C Qaw wc.drew AS k (Qak l0) from HCS.out)
   clear HB HCS
   generalize wc.drew = wd at HB8 BK1 HC8 ⊢
   have HD:=Zz.k (Below.refl wd.heap.size wd)
   have HE8:=HC8
   refine pu HT 0 65 1 (h := ?_)
   refine pu HT 1 66 3 (h := ?_)
   refine pu HT 2 67 7 (h := ?_)
   refine pu HT 4 69 23 (h := ?_)
   refine pu HT 5 70 55 (h := ?_)
   refine pu HT 6 71 119 (h := ?_)
   refine pu HT 7 72 247 (h := ?_)
   refine pu HT 8 73 503 (h := ?_)
   refine pu HT 9 74 1015 (h := ?_)
   refine pu HT 10 75 2039 (h := ?_)
   refine two_ (i:=3) (j:=13) (Ni:=some 68) (Nj:=some 13) (bA 15 2047) (bA 15 10231) rfl rfl rfl rfl (two_of HT.out (by kernel_rfl)) (by decide) (by decide) (fun K hK => ?o1y) (fun K hK => ?o2y)
   case' o1y =>
    refine gS Try.func14 #[.slice A0 l0.length c0, .int .i64 s] (h := ?_)
    refine (HNext.out _ (Qal HB8.out (bw HD))).mono ?_
    rintro e w3 ⟨rfl,hb⟩
    replace HC8:=Zz.k (Kd.C_below HC8.out hb)
    replace BK1:=bl BK1 hb
    replace HD:=bs HD hb
    refine ⟨_,rfl, ?_⟩
    refine hK.out _ _ trivial (fun hS => ?_)
    clear hK hb
    refine nm (h := ?_)
    refine two_ (i:=11) (j:=13) (Ni:=some 76) (Nj:=some 13) (bA 15 4095) (bA 15 10239) rfl rfl rfl rfl (two_of HT.out (by kernel_rfl)) (by decide) (by decide) (fun K hK => ?o3y) (fun K hK => ?o4y)
   case' o3y =>
    refine gS Try.func15 #[.slice (if cS = a then AS else Option.map (fun x => x.add (a * 3)) AS) n (cS - a)] (h := ?_)
    refine (Clone_at HC8.out HK.out HcS.out HAN.out HLE.out n rfl gv HGV.out).mono ?_
    rintro e w4 ⟨v4,rfl,hR,hb⟩
    obtain ⟨AG,cG,rfl⟩:=Kd.R_slice hR
    have HRG:=Zz.k (Kd.R_lower hR (Qal HB8.out (bw HD)).size)
    replace BK1:=bl BK1 hb
    replace HD:=bs HD hb
    refine ⟨_,rfl, ?_⟩
    refine hK.out _ _ trivial (fun hS => ?_)
    clear hK hb hR HC8
    refine nm (h := ?_)
    refine pu HT 12 77 8191 (h := ?_)
    have hbox:=heap_alloc_new w4 (.cells #[.int .i64 0, .int .i64 0, .int .i64 0, .int .i64 0, .int .i64 0, .int .i64 0, .string (⟨#[]⟩ : ByteArray), .slice none 0 0, .int .i64 0, .int .i64 0, .int .i64 0] 32 (0,0))
    have hbb:=Qad (Below.refl w4.heap.size w4) (.cells #[.int .i64 0, .int .i64 0, .int .i64 0, .int .i64 0, .int .i64 0, .int .i64 0, .string (⟨#[]⟩ : ByteArray), .slice none 0 0, .int .i64 0, .int .i64 0, .int .i64 0] 32 (0,0))
    have GEo:=Zz.k (show wd.heap.size <= w4.heap.size from Qap (bw HD))
    have NBo1:=bn BK1 (show w4.heap.size = w4.heap.size from rfl)
    have NBo2:=bm BK1 (show w4.heap.size = w4.heap.size from rfl)
    refine exS HT 13 (some 13) 16383 (.pointer (some ⟨w4.heap.size,0,none⟩)) (w4.alloc (.cells #[.int .i64 0, .int .i64 0, .int .i64 0, .int .i64 0, .int .i64 0, .int .i64 0, .string (⟨#[]⟩ : ByteArray), .slice none 0 0, .int .i64 0, .int .i64 0, .int .i64 0] 32 (0,0))) (hrun:=by first | (go_simp; done) | (go_simp; rfl)) (hS:=trivial) (h:=fun hS => ?_)
    replace HRG:=Zz.k (Kd.R_below HRG.out hbb)
    replace BK1:=bl BK1 hbb
    replace HD:=bs HD hbb
    generalize w4.alloc (.cells #[.int .i64 0, .int .i64 0, .int .i64 0, .int .i64 0, .int .i64 0, .int .i64 0, .string (⟨#[]⟩ : ByteArray), .slice none 0 0, .int .i64 0, .int .i64 0, .int .i64 0] 32 (0,0)) = wa at hbox BK1 HD HRG ⊢
    generalize hgo : w4.heap.size = gbo at hbox NBo1 NBo2 ⊢
    replace GEo:=Zz.k (show wd.heap.size <= gbo by have:=GEo.out; omega)
    clear hgo
    have BKo:=Zz.k hbox
    clear hbox hbb
    refine nm (h := ?_)
    obtain ⟨_,_,_,_,_,_,_,_,_,_,_,_,_,_,_,_,_,_,_,_,_,_⟩:=kc11 BKo
    refine skL HT 14 32767 (put11 wa gbo (.int .i64 s) (.int .i64 c1) (.int .i64 1) (.int .i64 0) (.int .i64 0) (.int .i64 0) (.string t) (.slice AG gv.length cG) (.int .i64 0) (.int .i64 0) (.int .i64 0)) (hrun:=by first | (go_simp; done) | (go_simp; rfl)) (h := ?_)
    replace HD:=Zz.k (put11_below HD.out GEo.out (.int .i64 s) (.int .i64 c1) (.int .i64 1) (.int .i64 0) (.int .i64 0) (.int .i64 0) (.string t) (.slice AG gv.length cG) (.int .i64 0) (.int .i64 0) (.int .i64 0))
    replace HRG:=Zz.k (put11_R HRG.out BKo.out (.int .i64 s) (.int .i64 c1) (.int .i64 1) (.int .i64 0) (.int .i64 0) (.int .i64 0) (.string t) (.slice AG gv.length cG) (.int .i64 0) (.int .i64 0) (.int .i64 0))
    replace BK1:=Zz.k (put11_far BK1.out NBo1.out (.int .i64 s) (.int .i64 c1) (.int .i64 1) (.int .i64 0) (.int .i64 0) (.int .i64 0) (.string t) (.slice AG gv.length cG) (.int .i64 0) (.int .i64 0) (.int .i64 0))
    replace BKo:=Zz.k (put11_here BKo.out (.int .i64 s) (.int .i64 c1) (.int .i64 1) (.int .i64 0) (.int .i64 0) (.int .i64 0) (.string t) (.slice AG gv.length cG) (.int .i64 0) (.int .i64 0) (.int .i64 0))
    generalize put11 wa gbo (.int .i64 s) (.int .i64 c1) (.int .i64 1) (.int .i64 0) (.int .i64 0) (.int .i64 0) (.string t) (.slice AG gv.length cG) (.int .i64 0) (.int .i64 0) (.int .i64 0) = w8 at HD HRG BK1 BKo ⊢
    refine dn HT (h := ?_)
    clear HT HW hS
    generalize (if cS = a then AS else Option.map (fun x => x.add (a * 3)) AS) = AX
    go_wp2
    go_meet
    case rel => exact ⟨gbo,AG,cG,rfl,BKo,HRG,BK1,⟨Qal HB8.out HD.out⟩,⟨Kd.C_below HE8.out HD.out⟩,NBo1,NBo2,⟨Nat.le_trans HB8.out.size GEo.out⟩⟩
   case' o4y =>
    have hbox:=heap_alloc_new w3 (.cells #[.int .i64 0, .int .i64 0, .int .i64 0, .int .i64 0, .int .i64 0, .int .i64 0, .string (⟨#[]⟩ : ByteArray), .slice none 0 0, .int .i64 0, .int .i64 0, .int .i64 0] 32 (0,0))
    have hbb:=Qad (Below.refl w3.heap.size w3) (.cells #[.int .i64 0, .int .i64 0, .int .i64 0, .int .i64 0, .int .i64 0, .int .i64 0, .string (⟨#[]⟩ : ByteArray), .slice none 0 0, .int .i64 0, .int .i64 0, .int .i64 0] 32 (0,0))
    have GEo:=Zz.k (show wd.heap.size <= w3.heap.size from Qap (bw HD))
    have NBo1:=bn BK1 (show w3.heap.size = w3.heap.size from rfl)
    have NBo2:=bm BK1 (show w3.heap.size = w3.heap.size from rfl)
    refine exKe hK (.pointer (some ⟨w3.heap.size,0,none⟩)) (w3.alloc (.cells #[.int .i64 0, .int .i64 0, .int .i64 0, .int .i64 0, .int .i64 0, .int .i64 0, .string (⟨#[]⟩ : ByteArray), .slice none 0 0, .int .i64 0, .int .i64 0, .int .i64 0] 32 (0,0))) (hrun:=by first | (go_simp; done) | (go_simp; rfl)) (hS:=trivial) (h:=fun hS => ?_)
    clear hK
    replace HC8:=Zz.k (Kd.C_below HC8.out hbb)
    replace BK1:=bl BK1 hbb
    replace HD:=bs HD hbb
    generalize w3.alloc (.cells #[.int .i64 0, .int .i64 0, .int .i64 0, .int .i64 0, .int .i64 0, .int .i64 0, .string (⟨#[]⟩ : ByteArray), .slice none 0 0, .int .i64 0, .int .i64 0, .int .i64 0] 32 (0,0)) = wa at hbox BK1 HD HC8 ⊢
    generalize hgo : w3.heap.size = gbo at hbox NBo1 NBo2 ⊢
    replace GEo:=Zz.k (show wd.heap.size <= gbo by have:=GEo.out; omega)
    clear hgo
    have BKo:=Zz.k hbox
    clear hbox hbb
    refine nm (h := ?_)
    refine ca HT 11 (some 76) 12287 #[.slice (if cS = a then AS else Option.map (fun x => x.add (a * 3)) AS) n (cS - a)] Try.func15 (h:=fun K hK => ?_)
    refine (Clone_at HC8.out HK.out HcS.out HAN.out HLE.out n rfl gv HGV.out).mono ?_
    rintro e w4 ⟨v4,rfl,hR,hb⟩
    obtain ⟨AG,cG,rfl⟩:=Kd.R_slice hR
    have HRG:=Zz.k (Kd.R_lower hR (Qal HB8.out (bw HD)).size)
    replace BKo:=bl BKo hb
    replace BK1:=bl BK1 hb
    replace HD:=bs HD hb
    refine ⟨_,rfl, ?_⟩
    refine hK.out _ _ trivial (fun hS => ?_)
    clear hK hb hR HC8
    refine nm (h := ?_)
    refine pu HT 12 77 16383 (h := ?_)
    obtain ⟨_,_,_,_,_,_,_,_,_,_,_,_,_,_,_,_,_,_,_,_,_,_⟩:=kc11 BKo
    refine skL HT 14 32767 (put11 w4 gbo (.int .i64 s) (.int .i64 c1) (.int .i64 1) (.int .i64 0) (.int .i64 0) (.int .i64 0) (.string t) (.slice AG gv.length cG) (.int .i64 0) (.int .i64 0) (.int .i64 0)) (hrun:=by first | (go_simp; done) | (go_simp; rfl)) (h := ?_)
    replace HD:=Zz.k (put11_below HD.out GEo.out (.int .i64 s) (.int .i64 c1) (.int .i64 1) (.int .i64 0) (.int .i64 0) (.int .i64 0) (.string t) (.slice AG gv.length cG) (.int .i64 0) (.int .i64 0) (.int .i64 0))
    replace HRG:=Zz.k (put11_R HRG.out BKo.out (.int .i64 s) (.int .i64 c1) (.int .i64 1) (.int .i64 0) (.int .i64 0) (.int .i64 0) (.string t) (.slice AG gv.length cG) (.int .i64 0) (.int .i64 0) (.int .i64 0))
    replace BK1:=Zz.k (put11_far BK1.out NBo1.out (.int .i64 s) (.int .i64 c1) (.int .i64 1) (.int .i64 0) (.int .i64 0) (.int .i64 0) (.string t) (.slice AG gv.length cG) (.int .i64 0) (.int .i64 0) (.int .i64 0))
    replace BKo:=Zz.k (put11_here BKo.out (.int .i64 s) (.int .i64 c1) (.int .i64 1) (.int .i64 0) (.int .i64 0) (.int .i64 0) (.string t) (.slice AG gv.length cG) (.int .i64 0) (.int .i64 0) (.int .i64 0))
    generalize put11 w4 gbo (.int .i64 s) (.int .i64 c1) (.int .i64 1) (.int .i64 0) (.int .i64 0) (.int .i64 0) (.string t) (.slice AG gv.length cG) (.int .i64 0) (.int .i64 0) (.int .i64 0) = w8 at HD HRG BK1 BKo ⊢
    refine dn HT (h := ?_)
    clear HT HW hS
    generalize (if cS = a then AS else Option.map (fun x => x.add (a * 3)) AS) = AX
    go_wp2
    go_meet
    case rel => exact ⟨gbo,AG,cG,rfl,BKo,HRG,BK1,⟨Qal HB8.out HD.out⟩,⟨Kd.C_below HE8.out HD.out⟩,NBo1,NBo2,⟨Nat.le_trans HB8.out.size GEo.out⟩⟩
   case' o2y =>
    have hbox:=heap_alloc_new wd (.cells #[.int .i64 0, .int .i64 0, .int .i64 0, .int .i64 0, .int .i64 0, .int .i64 0, .string (⟨#[]⟩ : ByteArray), .slice none 0 0, .int .i64 0, .int .i64 0, .int .i64 0] 32 (0,0))
    have hbb:=Qad (Below.refl wd.heap.size wd) (.cells #[.int .i64 0, .int .i64 0, .int .i64 0, .int .i64 0, .int .i64 0, .int .i64 0, .string (⟨#[]⟩ : ByteArray), .slice none 0 0, .int .i64 0, .int .i64 0, .int .i64 0] 32 (0,0))
    have GEo:=Zz.k (show wd.heap.size <= wd.heap.size from Qap (bw HD))
    have NBo1:=bn BK1 (show wd.heap.size = wd.heap.size from rfl)
    have NBo2:=bm BK1 (show wd.heap.size = wd.heap.size from rfl)
    refine exKe hK (.pointer (some ⟨wd.heap.size,0,none⟩)) (wd.alloc (.cells #[.int .i64 0, .int .i64 0, .int .i64 0, .int .i64 0, .int .i64 0, .int .i64 0, .string (⟨#[]⟩ : ByteArray), .slice none 0 0, .int .i64 0, .int .i64 0, .int .i64 0] 32 (0,0))) (hrun:=by first | (go_simp; done) | (go_simp; rfl)) (hS:=trivial) (h:=fun hS => ?_)
    clear hK
    replace HC8:=Zz.k (Kd.C_below HC8.out hbb)
    replace BK1:=bl BK1 hbb
    replace HD:=bs HD hbb
    generalize wd.alloc (.cells #[.int .i64 0, .int .i64 0, .int .i64 0, .int .i64 0, .int .i64 0, .int .i64 0, .string (⟨#[]⟩ : ByteArray), .slice none 0 0, .int .i64 0, .int .i64 0, .int .i64 0] 32 (0,0)) = wa at hbox BK1 HD HC8 ⊢
    generalize hgo : wd.heap.size = gbo at hbox NBo1 NBo2 ⊢
    replace GEo:=Zz.k (show wd.heap.size <= gbo by have:=GEo.out; omega)
    clear hgo
    have BKo:=Zz.k hbox
    clear hbox hbb
    refine nm (h := ?_)
    refine ca HT 3 (some 68) 10239 #[.slice A0 l0.length c0, .int .i64 s] Try.func14 (h:=fun K hK => ?_)
    refine (HNext.out _ (Qal HB8.out (bw HD))).mono ?_
    rintro e w3 ⟨rfl,hb⟩
    replace BKo:=bl BKo hb
    replace HC8:=Zz.k (Kd.C_below HC8.out hb)
    replace BK1:=bl BK1 hb
    replace HD:=bs HD hb
    refine ⟨_,rfl, ?_⟩
    refine hK.out _ _ trivial (fun hS => ?_)
    clear hK hb
    refine nm (h := ?_)
    refine ca HT 11 (some 76) 12287 #[.slice (if cS = a then AS else Option.map (fun x => x.add (a * 3)) AS) n (cS - a)] Try.func15 (h:=fun K hK => ?_)
    refine (Clone_at HC8.out HK.out HcS.out HAN.out HLE.out n rfl gv HGV.out).mono ?_
    rintro e w4 ⟨v4,rfl,hR,hb⟩
    obtain ⟨AG,cG,rfl⟩:=Kd.R_slice hR
    have HRG:=Zz.k (Kd.R_lower hR (Qal HB8.out (bw HD)).size)
    replace BKo:=bl BKo hb
    replace BK1:=bl BK1 hb
    replace HD:=bs HD hb
    refine ⟨_,rfl, ?_⟩
    refine hK.out _ _ trivial (fun hS => ?_)
    clear hK hb hR HC8
    refine nm (h := ?_)
    refine pu HT 12 77 16383 (h := ?_)
    obtain ⟨_,_,_,_,_,_,_,_,_,_,_,_,_,_,_,_,_,_,_,_,_,_⟩:=kc11 BKo
    refine skL HT 14 32767 (put11 w4 gbo (.int .i64 s) (.int .i64 c1) (.int .i64 1) (.int .i64 0) (.int .i64 0) (.int .i64 0) (.string t) (.slice AG gv.length cG) (.int .i64 0) (.int .i64 0) (.int .i64 0)) (hrun:=by first | (go_simp; done) | (go_simp; rfl)) (h := ?_)
    replace HD:=Zz.k (put11_below HD.out GEo.out (.int .i64 s) (.int .i64 c1) (.int .i64 1) (.int .i64 0) (.int .i64 0) (.int .i64 0) (.string t) (.slice AG gv.length cG) (.int .i64 0) (.int .i64 0) (.int .i64 0))
    replace HRG:=Zz.k (put11_R HRG.out BKo.out (.int .i64 s) (.int .i64 c1) (.int .i64 1) (.int .i64 0) (.int .i64 0) (.int .i64 0) (.string t) (.slice AG gv.length cG) (.int .i64 0) (.int .i64 0) (.int .i64 0))
    replace BK1:=Zz.k (put11_far BK1.out NBo1.out (.int .i64 s) (.int .i64 c1) (.int .i64 1) (.int .i64 0) (.int .i64 0) (.int .i64 0) (.string t) (.slice AG gv.length cG) (.int .i64 0) (.int .i64 0) (.int .i64 0))
    replace BKo:=Zz.k (put11_here BKo.out (.int .i64 s) (.int .i64 c1) (.int .i64 1) (.int .i64 0) (.int .i64 0) (.int .i64 0) (.string t) (.slice AG gv.length cG) (.int .i64 0) (.int .i64 0) (.int .i64 0))
    generalize put11 w4 gbo (.int .i64 s) (.int .i64 c1) (.int .i64 1) (.int .i64 0) (.int .i64 0) (.int .i64 0) (.string t) (.slice AG gv.length cG) (.int .i64 0) (.int .i64 0) (.int .i64 0) = w8 at HD HRG BK1 BKo ⊢
    refine dn HT (h := ?_)
    clear HT HW hS
    generalize (if cS = a then AS else Option.map (fun x => x.add (a * 3)) AS) = AX
    go_wp2
    go_meet
    case rel => exact ⟨gbo,AG,cG,rfl,BKo,HRG,BK1,⟨Qal HB8.out HD.out⟩,⟨Kd.C_below HE8.out HD.out⟩,NBo1,NBo2,⟨Nat.le_trans HB8.out.size GEo.out⟩⟩
  case rest =>
   clear BK1 HB HCS
   obtain ⟨gbo,AG,cG,rfl,BKo,HRG,BK1,HB,HCE,NBo1,NBo2,GEo⟩:=hcut
   obtain ⟨_,_,_,_,_,_,_,_,_,_,_,_,_,_,_,_,_,_,_,_,_,_⟩:=kc11 BKo
   have hCE:=HCE.out
   rcases case_after a t with hA | hA | hA
   case' inl =>
    have hapz : (a : Int) > 0:=by omega
    have hte:=hA.2
    have hwm : wrap64 ((a : Int) - 1) = ((a - 1 : Nat) : Int):=by rw [Qai (by omega) (by omega)]; omega
    have hi0 : (0 : Int) <= ((a - 1 : Nat) : Int):=by omega
    have hi1 : ((a - 1 : Nat) : Int) < (k : Int):=by omega
    obtain ⟨ad,rfl,y0,y1,y2⟩:=Qck hCE ((a - 1 : Nat) : Int) hi0 hi1
    simp only [Int.toNat_natCast] at y0 y1 y2
    have hz : Qab (Qak l0) ((a - 1 : Nat) : Int) = repA l0 a t:=by unfold repA; rw [if_pos hA]
    generalize Qab (Qak l0) ((a - 1 : Nat) : Int) = z at y0 y1 y2 hz
    have HZ:=Zz.k hz
    clear hz hA hCE
    go_upto_region 11 with (fail)
    replace HB:=Zz.k (put3_below HB.out GEo.out (.int .i64 z.f0) (.int .i64 z.f1) (.int .i64 z.f2))
    replace HRG:=Zz.k (put3_R HRG.out BKo.out (.int .i64 z.f0) (.int .i64 z.f1) (.int .i64 z.f2))
    replace BK1:=Zz.k (put3_far BK1.out NBo1.out (.int .i64 z.f0) (.int .i64 z.f1) (.int .i64 z.f2))
    replace BKo:=Zz.k (put3_here BKo.out (.int .i64 z.f0) (.int .i64 z.f1) (.int .i64 z.f2))
    generalize ((wc.setCell ⟨gbo,3,none⟩ (.int .i64 z.f0)).setCell ⟨gbo,4,none⟩ (.int .i64 z.f1)).setCell ⟨gbo,5,none⟩ (.int .i64 z.f2) = wt at HB HRG BK1 BKo ⊢
    clear y0 y1 y2 hapz hte hwm hi0 hi1
   case' inr.inl =>
    obtain ⟨z,hz0⟩ : ∃ z : SElem,z = ⟨0,0,0⟩:=⟨_,rfl⟩
    have hz : z = repA l0 a t:=by unfold repA; rw [hz0,if_neg (fun h => by rw [hA] at h; exact absurd h.2 (by decide))]
    replace BKo:=Zz.k (show wc.heap[gbo]? = some (.cells #[.int .i64 s, .int .i64 c1, .int .i64 1, .int .i64 z.f0, .int .i64 z.f1, .int .i64 z.f2, .string t, .slice AG gv.length cG, .int .i64 0, .int .i64 0, .int .i64 0] 32 (0,0)) by rw [hz0]; exact BKo.out)
    have HZ:=Zz.k hz
    clear hz hz0 hCE
    go_upto_region 11 with (fail)
    clear hA
   case' inr.inr =>
    obtain ⟨z,hz0⟩ : ∃ z : SElem,z = ⟨0,0,0⟩:=⟨_,rfl⟩
    have hz : z = repA l0 a t:=by unfold repA; rw [hz0,if_neg (fun h => by have:=hA.2; omega)]
    replace BKo:=Zz.k (show wc.heap[gbo]? = some (.cells #[.int .i64 s, .int .i64 c1, .int .i64 1, .int .i64 z.f0, .int .i64 z.f1, .int .i64 z.f2, .string t, .slice AG gv.length cG, .int .i64 0, .int .i64 0, .int .i64 0] 32 (0,0)) by rw [hz0]; exact BKo.out)
    have HZ:=Zz.k hz
    have hte:=hA.1
    have hapz : ¬ (a : Int) > 0:=by omega
    clear hz hz0 hCE hA
    go_upto_region 11 with (fail)
    clear hapz hte
   all_goals
    have HM:=Zz.k (show mayB (l0 ++ [⟨s,c1,1,⟨z.f0,z.f1,z.f2⟩,t,sortL gv,0,0,0⟩]) = b by have:=HBB.out; unfold repO at this; rw [<- HZ.out,<- HC1.out,HRL.out] at this; exact this)
    have HSN:=Zz.k (HSN0.out ⟨z.f0,z.f1,z.f2⟩)
    clear NBo1 NBo2 HCE
    obtain ⟨_,_,_,_,_,_,_,_,_,_,_,_,_,_,_,_,_,_,_,_,_,_⟩:=kc11 BKo
    cases b
    case' false =>
     go_wp2_with (first | ((with_reducible refine Qac (f:=16) rfl ?_); refine gl (some 92) Try.func16 #[.slice AG gv.length cG, .func (.func 17) #[] #[]] (h := ?_); (refine (sort_any HRG.out HGL.out).mono ?_); rintro e w9 ⟨rfl,hR9,row9,hg9,hk9⟩; refine ⟨_,rfl, ?_⟩; replace BK1:=Zz.k (sort_keep HRG.out BK1.out hg9 hk9); replace BKo:=Zz.k (sort_keep HRG.out BKo.out hg9 hk9); replace HB:=Zz.k (pw_below_grown HB.out row9 HB.out.size hg9 (fun k hk => Kd.R_base HRG.out k (hk9 k hk))); replace HRG:=Zz.k hR9; clear hR9 hg9 hk9; obtain ⟨_,_,_,_,_,_,_,_,_,_,_,_,_,_,_,_,_,_,_,_,_,_⟩:=kc11 BKo) | ((with_reducible refine Qac (f:=18) rfl ?_); refine gl (some 95) Try.func18 #[.slice A0 l0.length c0, .agg #[.int .i64 s, .int .i64 c1, .int .i64 1, .int .i64 z.f0, .int .i64 z.f1, .int .i64 z.f2, .string t, .slice AG gv.length cG, .int .i64 0, .int .i64 0, .int .i64 0]] (h := ?_); (refine (full_n A0 c0 l0 s c1 1 z.f0 z.f1 z.f2 t (sortL gv) 0 0 0 AG gv.length cG (sort_len _) false _ (Kd.C_below HR0.out HB.out) HC0.out w.heap.size HRG.out HL.out HSN.out HM.out).mono ?_); rintro e w10 ⟨hres,hb⟩; rw [if_neg nft] at hres; obtain rfl:=hres; refine ⟨_,rfl, ?_⟩; replace BK1:=bl BK1 hb; replace HB:=bs HB hb; replace HRG:=rb HRG hb; clear hb; obtain ⟨_,_,_,_,_,_,_,_,_,_,_,_,_,_,_,_,_,_,_,_,_,_⟩:=kc11 BK1))
     refine bodyPost_ret (Qaz rfl _ _ gb1 32 #[.int .i64 0, .int .i64 0, .int .i64 0, .int .i64 0, .int .i64 0, .int .i64 0, .string (⟨#[]⟩ : ByteArray), .slice none 0 0, .int .i64 0, .int .i64 0, .int .i64 0] (0,0) _ rfl (bp11 (kk BK1)) hu32 rfl (by kernel_rfl)) rfl ?_
     unfold RepPost
     refine ⟨.slice none 0 0, ?_,bw HB⟩
     rw [if_neg nft]
     exact ⟨rfl,rfl⟩
    case' true =>
     go_wp2_with (first | ((with_reducible refine Qac (f:=16) rfl ?_); refine gl (some 92) Try.func16 #[.slice AG gv.length cG, .func (.func 17) #[] #[]] (h := ?_); (refine (sort_any HRG.out HGL.out).mono ?_); rintro e w9 ⟨rfl,hR9,row9,hg9,hk9⟩; refine ⟨_,rfl, ?_⟩; replace BK1:=Zz.k (sort_keep HRG.out BK1.out hg9 hk9); replace BKo:=Zz.k (sort_keep HRG.out BKo.out hg9 hk9); replace HB:=Zz.k (pw_below_grown HB.out row9 HB.out.size hg9 (fun k hk => Kd.R_base HRG.out k (hk9 k hk))); replace HRG:=Zz.k hR9; clear hR9 hg9 hk9; obtain ⟨_,_,_,_,_,_,_,_,_,_,_,_,_,_,_,_,_,_,_,_,_,_⟩:=kc11 BKo) | ((with_reducible refine Qac (f:=18) rfl ?_); refine gl (some 95) Try.func18 #[.slice A0 l0.length c0, .agg #[.int .i64 s, .int .i64 c1, .int .i64 1, .int .i64 z.f0, .int .i64 z.f1, .int .i64 z.f2, .string t, .slice AG gv.length cG, .int .i64 0, .int .i64 0, .int .i64 0]] (h := ?_); (refine (full_n A0 c0 l0 s c1 1 z.f0 z.f1 z.f2 t (sortL gv) 0 0 0 AG gv.length cG (sort_len _) true _ (Kd.C_below HR0.out HB.out) HC0.out w.heap.size HRG.out HL.out HSN.out HM.out).mono ?_); rintro e w10 ⟨hres,hb⟩; rw [if_pos rfl] at hres; obtain rfl:=hres; refine ⟨_,rfl, ?_⟩; replace BK1:=bl BK1 hb; replace HB:=bs HB hb; replace HRG:=rb HRG hb; clear hb; obtain ⟨_,_,_,_,_,_,_,_,_,_,_,_,_,_,_,_,_,_,_,_,_,_⟩:=kc11 BK1))
     refine bodyPost_ret (Qaz rfl _ _ gb1 32 #[.int .i64 s, .int .i64 c1, .int .i64 1, .int .i64 z.f0, .int .i64 z.f1, .int .i64 z.f2, .string t, .slice AG gv.length cG, .int .i64 0, .int .i64 0, .int .i64 0] (0,0) _ rfl (bp11 (kk BK1)) hu32 rfl (by kernel_rfl)) rfl ?_
     unfold RepPost
     refine ⟨.slice AG gv.length cG, ?_,bw HB⟩
     rw [if_pos rfl,<- HZ.out,<- HC1.out,HRL.out]
     exact ⟨rfl,Kd.R_mono (rf11 (Kd.R_types HRG.out BK1.out (by decide))) (fun _ _ => trivial)⟩
end
section
instance (l0 : List SOp) (a n : Int) (t : ByteArray) : Decidable (limB l0 a n t):=by unfold limB; infer_instance
def repV (l0 : List SOp) (s a n : Int) (t : ByteArray) : SOp × Int :=
 if badB l0 s t = true then (⟨0,0,0,⟨0,0,0⟩,⟨#[]⟩,[],0,0,0⟩,1)
 else if limB l0 a n t then (⟨0,0,0,⟨0,0,0⟩,⟨#[]⟩,[],0,0,0⟩,2)
 else if n = 0 /\ t.toList.isEmpty = true then (⟨0,0,0,⟨0,0,0⟩,⟨#[]⟩,[],0,0,0⟩,3)
 else if mayB (l0 ++ [repO l0 s a.toNat n.toNat t]) = true then (repO l0 s a.toNat n.toNat t,0)
 else (⟨0,0,0,⟨0,0,0⟩,⟨#[]⟩,[],0,0,0⟩,6)
def edit_Replace.f (l0 : List (SOp)) (a1 : Int) (a2 : Int) (a3 : Int) (a4 : ByteArray) : Option (Int × Int × Int × Int × Int × Int × ByteArray × (List (SElem)) × Int × Int × Int × Int) :=
 if smalls l0 = true /\ a4.size <= 1000000 then some ((repV l0 a1 a2 a3 a4).1.f0,(repV l0 a1 a2 a3 a4).1.f1,(repV l0 a1 a2 a3 a4).1.f2,(repV l0 a1 a2 a3 a4).1.f3.f0,(repV l0 a1 a2 a3 a4).1.f3.f1,(repV l0 a1 a2 a3 a4).1.f3.f2,(repV l0 a1 a2 a3 a4).1.f4,(repV l0 a1 a2 a3 a4).1.f5,(repV l0 a1 a2 a3 a4).1.f6,(repV l0 a1 a2 a3 a4).1.f7,(repV l0 a1 a2 a3 a4).1.f8,(repV l0 a1 a2 a3 a4).2) else none
theorem Replace_calls (A0 : Option Addr) (c0 : Nat) (l0 : List SOp) (s a n : Int) (t : ByteArray) (w : World) (hr0 : Kd.C kOp w A0 l0.length l0) (hc0 : l0.length <= c0) (hsm : smalls l0 = true) (ht : t.size <= 1000000) (o : SOp) (err : Int) (hv : repV l0 s a n t = (o,err)) :
  Calls Try.prog 4 #[.slice A0 l0.length c0, .int .i64 s, .int .i64 a, .int .i64 n, .string t] w fun e w' => ∃ v7 : Value,e = .returned (.tuple #[.agg #[.int .i64 o.f0, .int .i64 o.f1, .int .i64 o.f2, .int .i64 o.f3.f0, .int .i64 o.f3.f1, .int .i64 o.f3.f2, .string o.f4,v7, .int .i64 o.f6, .int .i64 o.f7, .int .i64 o.f8], .int .i64 err]) /\ RE w' w.heap.size v7 o.f5 /\ Below w.heap.size w w':=by
 unfold repV at hv
 by_cases h1 : badB l0 s t = true
 ·rw [if_pos h1] at hv
  obtain ⟨rfl,rfl⟩:=Prod.mk.inj hv
  exact Rep_bad A0 c0 l0 s a n t w hr0 hc0 hsm ht h1
 ·rw [if_neg h1] at hv
  have h1' : badB l0 s t = false:=by cases h : badB l0 s t; rfl; exact absurd h h1
  by_cases h2 : limB l0 a n t
  ·rw [if_pos h2] at hv
   obtain ⟨rfl,rfl⟩:=Prod.mk.inj hv
   exact Rep_lim A0 c0 l0 s a n t w hr0 hc0 hsm ht h1' h2
  ·rw [if_neg h2] at hv
   by_cases h3 : n = 0 /\ t.toList.isEmpty = true
   ·rw [if_pos h3] at hv
    obtain ⟨rfl,rfl⟩:=Prod.mk.inj hv
    obtain ⟨rfl,h4⟩:=h3
    exact Rep_none A0 c0 l0 s a t w hr0 hc0 hsm ht h1' h2 h4
   ·rw [if_neg h3] at hv
    have ha : a = (a.toNat : Int):=by unfold limB at h2; omega
    have hn : n = (n.toNat : Int):=by unfold limB at h2; omega
    have hne : ¬ (n.toNat = 0 /\ t.toList.isEmpty = true):=fun h => h3 ⟨by omega,h.2⟩
    rw [ha,hn] at h2
    have hk:=Rep_ok A0 c0 l0 s a.toNat n.toNat t w hr0 hc0 hsm ht h1' h2 hne _ rfl
    rw [<- ha,<- hn] at hk
    refine hk.mono ?_
    intro e w' hp
    unfold RepPost at hp
    obtain ⟨v7,hq,hb⟩:=hp
    by_cases h5 : mayB (l0 ++ [repO l0 s a.toNat n.toNat t]) = true
    ·rw [if_pos h5] at hv hq
     obtain ⟨rfl,rfl⟩:=Prod.mk.inj hv
     exact ⟨v7,hq.1,hq.2,hb⟩
    ·rw [if_neg h5] at hv hq
     obtain ⟨rfl,rfl⟩:=Prod.mk.inj hv
     obtain ⟨rfl,rfl⟩:=hq
     exact ⟨_,rfl,Kd.R_nil _ _ _ _ _,hb⟩
theorem edit_Replace.calls (A0 : Option Addr) (c0 : Nat) (l0 : List (SOp)) (a1 : Int) (a2 : Int) (a3 : Int) (a4 : ByteArray) (r1 : Int) (r2 : Int) (r3 : Int) (r4 : Int) (r5 : Int) (r6 : Int) (r7 : ByteArray) (r8 : List (SElem)) (r9 : Int) (r10 : Int) (r11 : Int) (r12 : Int) (w : World) (hr0 : Kd.C kOp w A0 l0.length l0) (hc0 : l0.length <= c0) (h : edit_Replace.f l0 a1 a2 a3 a4 = some (r1,r2,r3,r4,r5,r6,r7,r8,r9,r10,r11,r12)) :
  Calls Try.prog 4 #[.slice A0 l0.length c0, .int .i64 a1, .int .i64 a2, .int .i64 a3, .string a4] w fun e w' => ∃ v7_ : Value,e = .returned (.tuple #[.agg #[.int .i64 r1, .int .i64 r2, .int .i64 r3, .int .i64 r4, .int .i64 r5, .int .i64 r6, .string r7,v7_, .int .i64 r9, .int .i64 r10, .int .i64 r11], .int .i64 r12]) /\ Kd.R Qaw 30 w' w.heap.size (fun _ => True) v7_ r8 /\ Below w.heap.size w w':=by
 unfold edit_Replace.f at h
 split at h
 case isFalse => cases h
 rename_i hq
 have h:=Zo h
 simp only [Prod.mk.injEq] at h
 obtain ⟨rfl,rfl,rfl,rfl,rfl,rfl,rfl,rfl,rfl,rfl,rfl,rfl⟩:=h
 exact Replace_calls A0 c0 l0 a1 a2 a3 a4 w hr0 hc0 hq.1 hq.2 _ _ rfl
end
section
def t_doc_At.T1 : Bool × List (List Nat × List Nat):=(true,[([],[]),([],[]),([],[]),([2],[2]),([],[]),([4],[4]),([1,3,5],[1,3,5]),([0,6],[0,6]),([7],[7]),([8],[8]),([9],[9]),([],[]),([11],[11]),([10,12],[10,12]),([13],[13]),([14,6,0,1,2,3,4,5,6,7,8,9,10,11,12,13,14],[14])])
def t_doc_At.B1 : List Nat:=[0,0,0,4,0,16,62,127,255,511,1023,0,2048,8191,16383,32767]
theorem t_doc_At.tab1 : rtab .any (opsOf Try.f36 1) = t_doc_At.T1:=by kernel_rfl
theorem t_doc_At.bits1 : Qau t_doc_At.T1.2 t_doc_At.B1 = true:=by kernel_rfl
end
section
theorem runesFrom_eq (s : ByteArray) : ∀ (n i : Nat) (acc : Array Value),Conv.runesFrom s n i acc = acc ++ ((decFrom s n i).map (Value.int .i32)).toArray
 | 0,i,acc => by simp [Conv.runesFrom,decFrom]
 | n + 1,i,acc => by
  unfold Conv.runesFrom decFrom
  by_cases h : i < s.size
  ·rw [if_pos h,if_pos h]
   refine (runesFrom_eq s n (i + (Utf8.decode s i).2) (acc.push (.int .i32 ((Utf8.decode s i).1 : Int)))).trans ?_
   simp
  ·rw [if_neg h,if_neg h]; simp
theorem runesFrom_all (s : ByteArray) : Conv.runesFrom s s.size 0 #[] = ((Qaq s).map (Value.int .i32)).toArray:=by rw [runesFrom_eq]; simp [Qaq]
def doc_At.f (l0 : List (SOp)) (a1_0 : Int) (a1_1 : Int) (a1_2 : Int) : Option (Int) :=
 if l0.length <= 1000000 /\ 0 <= Qay l0 a1_0 a1_1 /\ 0 <= a1_2 /\ a1_2 < (Qaj (Qar l0 (Qay l0 a1_0 a1_1)) : Int) /\ Qaj (Qar l0 (Qay l0 a1_0 a1_1)) <= 1000000 then some ((Qaq (Qar l0 (Qay l0 a1_0 a1_1)).f4).getD a1_2.toNat 0) else none
theorem doc_At.calls (A0 : Option Addr) (c0 : Nat) (l0 : List (SOp)) (a1_0 : Int) (a1_1 : Int) (a1_2 : Int) (r : Int) (w : World) (hr0 : Kd.C kOp w A0 l0.length l0) (hc0 : l0.length <= c0) (h : doc_At.f l0 a1_0 a1_1 a1_2 = some r) :
  Calls Try.prog 36 #[.slice A0 l0.length c0, .agg #[.int .i64 a1_0, .int .i64 a1_1, .int .i64 a1_2]] w fun e w' => e = .returned (.int .i32 r) /\ Below w.heap.size w w':=by
 unfold doc_At.f at h
 split at h
 case isFalse => cases h
 rename_i hq
 obtain ⟨hl,hf0,h2,h3,h4⟩:=hq
 obtain rfl:=Zo h
 clear h
 obtain ⟨i,hi,hfi⟩ : ∃ i,i < l0.length /\ Qay l0 a1_0 a1_1 = (i : Int):=by
  rcases Qbi l0 a1_0 a1_1 with ⟨i,hi,_,_,_,e⟩ | ⟨_,e⟩
  ·exact ⟨i,hi,e⟩
  ·omega
 have hcF:=fun W (hb : Below w.heap.size w W) => tree_Find.calls A0 c0 l0 a1_0 a1_1 (i : Int) W (Kd.C_below hr0 hb) hc0 (by rw [tree_Find_f hl,hfi])
 rw [hfi] at h3 h4 ⊢
 have hi0 : (0 : Int) <= (i : Int):=by omega
 have hi1 : (i : Int) < (l0.length : Int):=by omega
 obtain ⟨ad,A7,c7,rfl,x0,x1,x2,x3,x4,x5,x6,x7,x8,x9,x10,l7,g7⟩:=at_Op hr0 (i : Int) hi0 hi1
 simp only [Int.toNat_natCast] at x6
 generalize Qar l0 (i : Int) = o at x6 h3 h4 ⊢
 clear x0 x1 x2 x3 x4 x5 x7 x8 x9 x10 l7 g7 hr0 hf0 hfi hi hl
 have HF:=Zz.k hcF
 clear hcF
 obtain ⟨j,rfl⟩ : ∃ j : Nat,a1_2 = (j : Int):=⟨a1_2.toNat,by omega⟩
 have hj : j < (Qaq o.f4).length:=by have : Qaj o = (Qaq o.f4).length:=rfl; omega
 rw [Int.toNat_natCast]
 generalize hrv : (Qaq o.f4).getD j 0 = rv
 have HRV:=Zz.k hrv
 clear hrv
 have hru:=Try.underlying9
 have hrs:=Try.underlying75
 have hri:=Try.underlying21
 have hal : Below w.heap.size w (w.alloc (.cells #[.int .i64 a1_0, .int .i64 a1_1, .int .i64 (j : Int)] 30)):=Qad (Below.refl _ _) _
 have y6:=Qaa hal x6
 have b0 : (w.alloc (.cells #[.int .i64 a1_0, .int .i64 a1_1, .int .i64 (j : Int)] 30)).cell? ⟨w.heap.size,0,none⟩ = some (.int .i64 a1_0):=by simp
 have b1 : (w.alloc (.cells #[.int .i64 a1_0, .int .i64 a1_1, .int .i64 (j : Int)] 30)).cell? ⟨w.heap.size,1,none⟩ = some (.int .i64 a1_1):=by simp
 have b2 : (w.alloc (.cells #[.int .i64 a1_0, .int .i64 a1_1, .int .i64 (j : Int)] 30)).cell? ⟨w.heap.size,2,none⟩ = some (.int .i64 (j : Int)):=by simp
 have HAL:=Zz.k hal
 have HB3:=Zz.k h3
 have HB4:=Zz.k h4
 clear hal x6 h3 h4 h2
 go_enter Try.func36,Try.ntmps36
 go_wp2_with fail
 refine stL (S:=fun w' => w'.cell? ⟨w.heap.size,0,none⟩ = some (.int .i64 a1_0) /\ w'.cell? ⟨w.heap.size,1,none⟩ = some (.int .i64 a1_1) /\ w'.cell? ⟨w.heap.size,2,none⟩ = some (.int .i64 (j : Int)) /\ w'.cell? ⟨(ad.add (i * 11)).block,(ad.add (i * 11)).off + 6,none⟩ = some (.string o.f4)) [14] 16 t_doc_At.bits1 t_doc_At.tab1 (hS:=⟨b0,b1,b2,y6⟩) (h:=fun hS HT HW => ?_)
 refine pu HT 0 5 1 (h := ?_)
 refine pu HT 1 6 3 (h := ?_)
 refine pu HT 2 7 7 (h := ?_)
 refine tk HT HW hS 3 8 15 (h := ?_)
 refine pu HT 4 9 31 (h := ?_)
 refine tk HT HW hS 5 10 63 (h := ?_)
 refine pu HT 11 16 2111 (h := ?_)
 refine tk HT HW hS 12 17 6207 (h := ?_)
 refine ca HT 6 (some 11) 6271 #[.slice (some ad) l0.length c0, .int .i64 a1_0, .int .i64 a1_1] Try.func62 (h:=fun K hK => ?_)
 refine (HF.out _ (Qae HAL.out)).mono ?_
 rintro e w3 ⟨rfl,hb3⟩
 refine ⟨_,rfl, ?_⟩
 refine hK.out _ _ ⟨Qaa hb3 b0,Qaa hb3 b1,Qaa hb3 b2,Qaa hb3 y6⟩ (fun hS => ?_)
 have HBW:=Zz.k (Qal (Qae HAL.out) hb3)
 clear hK hb3 b0 b1 b2 y6 HF
 refine nm (h := ?_)
 refine pu HT 7 12 6399 (h := ?_)
 refine pu HT 8 13 6655 (h := ?_)
 refine tk HT HW hS 9 14 7167 (h := ?_)
 have hcv:=run_runes_of_string (P:=Try.prog) w3 9 75 21 o.f4 hru hrs hri (by rw [runesFrom_all]; have hs : Qaj o = (Qaq o.f4).length:=rfl; simp; have:=HB4.out; omega)
 rw [runesFrom_all] at hcv
 have hcap:=grownCap_ge w3 ((Qaq o.f4).map (Value.int .i32)).toArray.size 0 21
 generalize hgc : grownCap w3 ((Qaq o.f4).map (Value.int .i32)).toArray.size 0 21 = gc at hcv hcap
 have hsz : ((Qaq o.f4).map (Value.int .i32)).toArray.size = (Qaq o.f4).length:=by simp
 rw [hsz] at hcv hcap
 have hcell : (w3.drew.alloc (.cells (((Qaq o.f4).map (Value.int .i32)).toArray ++ Array.replicate (gc - (Qaq o.f4).length) (.int .i32 0)) 21)).cell? ⟨w3.heap.size,j,none⟩ = some (.int .i32 rv):=by
  rw [<- HRV.out]
  have:=top_cell w3.drew (((Qaq o.f4).map (Value.int .i32)).toArray ++ Array.replicate (gc - (Qaq o.f4).length) (.int .i32 0)) 21 w3.heap.size j rfl
  rw [this,Array.getElem?_append_left (by simp; exact hj)]
  simp [List.getD_eq_getElem?_getD,hj]
 have HBE:=Zz.k (Qal HBW.out (Qad (Qae (Below.refl w3.heap.size w3)) (.cells (((Qaq o.f4).map (Value.int .i32)).toArray ++ Array.replicate (gc - (Qaq o.f4).length) (.int .i32 0)) 21)))
 have hjz : (j : Int) < ((Qaq o.f4).length : Int):=by omega
 have hj0 : (0 : Int) <= (j : Int):=by omega
 have hbv:=Qad (Qae (Below.refl w3.heap.size w3)) (.cells (((Qaq o.f4).map (Value.int .i32)).toArray ++ Array.replicate (gc - (Qaq o.f4).length) (.int .i32 0)) 21)
 have s0:=Qaa hbv hS.1
 have s1:=Qaa hbv hS.2.1
 have s2:=Qaa hbv hS.2.2.1
 have s3:=Qaa hbv hS.2.2.2
 clear hbv
 generalize w3.drew.alloc (.cells (((Qaq o.f4).map (Value.int .i32)).toArray ++ Array.replicate (gc - (Qaq o.f4).length) (.int .i32 0)) 21) = w4 at hcv hcell HBE s0 s1 s2 s3
 generalize (Qaq o.f4).length = rl at hcv hjz hcap
 refine exS HT 10 (some 15) 8191 (.slice (some ⟨w3.heap.size,0,none⟩) rl gc) w4 (hrun := ?_) (hS:=⟨s0,s1,s2,s3⟩) (h:=fun hS => ?_)
 ·go_simp
 clear hcv hcap hsz hS
 refine nm (h := ?_)
 refine pu HT 13 18 16383 (h := ?_)
 refine exL HT 14 (some 19) 32767 (.int .i32 rv) w4 (hrun := ?_) (h := ?_)
 ·go_simp
 refine nm (h := ?_)
 refine pu HT 15 4 65535 (h := ?_)
 refine dn HT (h := ?_)
 clear HT HW
 go_wp2
 go_ret
 exact ⟨rfl,HBE.out⟩
end
section
theorem infoI32 : (Try.prog.info? 21).map (fun i => (i.zero,i.size,i.bytes)) = some (some (.int .i32 0),1,4):=by kernel_rfl
def atR (l : List SOp) (e : SElem) : Int:=(Qaq (Qar l (Qay l e.f0 e.f1)).f4).getD e.f2.toNat 0
def plainR (l : List SOp) : ByteArray:=runesBytes ((Qak l).map (atR l))
def doc_Plain.f (l0 : List (SOp)) : Option (ByteArray):=if smalls l0 = true /\ mayB l0 = true then some (plainR l0) else none
theorem At_ok {l : List SOp} (h : RowOk l) {e : SElem} (he : e ∈ ordL l) : doc_At.f l e.f0 e.f1 e.f2 = some (atR l e):=by
 obtain ⟨p,hp,e0,e1,h2,h3⟩:=(Qbx h e).1 he
 obtain ⟨i,hi,ef,ei⟩:=findOp_mem h hp
 rw [e0,e1] at ef
 have hs:=(Qci (h.oks p hp)).1
 have h40:=h.sums.1
 unfold doc_At.f atR
 rw [ef,Qax _ _ hi,ei,if_pos ⟨by omega,by omega,h2,h3,by omega⟩]
theorem doc_Plain.calls (A0 : Option Addr) (c0 : Nat) (l0 : List (SOp)) (r : ByteArray) (w : World) (hr0 : Kd.C kOp w A0 l0.length l0) (hc0 : l0.length <= c0) (h : doc_Plain.f l0 = some r) :
  Calls Try.prog 20 #[.slice A0 l0.length c0] w fun e w' => e = .returned (.string r) /\ Below w.heap.size w w':=by
 unfold doc_Plain.f at h
 split at h
 case isFalse => cases h
 rename_i hsm
 obtain rfl:=Zo h
 have hrow:=(Qbp l0).1 hsm.2
 have hcS:=doc_Seen.calls A0 c0 l0 (Qak l0) w hr0 hc0 (by unfold doc_Seen.f; rw [if_pos hsm])
 have hru:=Try.underlying9
 have hrs:=Try.underlying75
 have hri:=Try.underlying21
 have HR0:=Zz.k hr0
 have HC0:=Zz.k hc0
 have HS:=Zz.k hcS
 have HROW:=Zz.k hrow
 clear hr0 hc0 h hcS hsm hrow
 go_enter Try.func20,Try.ntmps20
 go_wp2_with fail
 refine HS.out.mono ?_
 rintro e wS ⟨vS,rfl,hRS,hbS⟩
 obtain ⟨AS,cS,rfl,hcS,hCS⟩:=Kd.R_reads hRS
 have HBS:=Zz.k hbS
 have HCS:=Zz.k hCS
 have hlen : (Qak l0).length <= 200:=Nat.le_trans (List.length_filter_le _ _) (by rw [(Qbw HROW.out).2]; exact HROW.out.sums.2)
 have HLEN:=Zz.k hlen
 clear hRS hbS hCS hcS hlen HS
 go_wp2
 go_loopg [3,9] (Qak l0).length (fun gg s3 s9 w' => ∃ j : Nat,j <= (Qak l0).length /\ (Qak l0).length - j <= gg /\ s9 = .int .i64 j /\ Zz (Below wS.heap.size wS w') /\ Zz (Kd.R (Kd.int .i32) 21 w' wS.heap.size (fun _ => True) s3 (((Qak l0).take j).map (atR l0))))
 case atStart => exact ⟨0,Nat.zero_le _,by omega,rfl,⟨Below.refl _ _⟩,⟨Kd.R_nil _ _ _ _ _⟩⟩
 case round =>
  obtain ⟨j,hj,hgk,rfl,HB,HR⟩:=hrel
  by_cases hjl : j < (Qak l0).length
  ·obtain ⟨g2,rfl⟩ : ∃ g2,gk = g2 + 1:=⟨gk - 1,by omega⟩
   have hjz : (j : Int) < ((Qak l0).length : Int):=by omega
   have hj0 : (0 : Int) <= (j : Int):=by omega
   obtain ⟨ad7,rfl,y0,y1,y2⟩:=Qck (Kd.C_below HCS.out HB.out) (j : Int) hj0 hjz
   simp only [Int.toNat_natCast,Qat _ _ hjl] at y0 y1 y2
   have hmem : (Qak l0)[j] ∈ ordL l0:=(seen_mem.1 (List.getElem_mem hjl)).1
   have hat:=At_ok HROW.out hmem
   have htk : ((Qak l0).take (j + 1)).map (atR l0) = ((Qak l0).take j).map (atR l0) ++ [atR l0 (Qak l0)[j]]:=by rw [List.take_succ_eq_append_getElem hjl,List.map_append]; rfl
   have HTK:=Zz.k htk
   clear htk
   generalize hxe : (Qak l0)[j] = x at y0 y1 y2 hat HTK
   generalize atR l0 x = rv at hat HTK
   have hal : Below wr.heap.size wr (wr.alloc (.cells #[.int .i64 x.f0, .int .i64 x.f1, .int .i64 x.f2] 30)):=Qad (Below.refl _ _) _
   have hbw : Below wS.heap.size wS (wr.alloc (.cells #[.int .i64 x.f0, .int .i64 x.f1, .int .i64 x.f2] 30)):=Qal HB.out hal
   have HAT:=Zz.k (doc_At.calls A0 c0 l0 x.f0 x.f1 x.f2 rv _ (Kd.C_below HR0.out (Qal HBS.out hbw)) HC0.out hat)
   have HB2:=Zz.k hbw
   have HR2:=Zz.k (Kd.R_below HR.out hal)
   clear hal hbw hat hxe hmem HB HR
   go_wp2_with fail
   refine HAT.out.mono ?_
   rintro e w5 ⟨rfl,hb5⟩
   have HB5:=Zz.k (Qal HB2.out hb5)
   have HR5:=Zz.k (Kd.R_below HR2.out hb5)
   clear hb5 HB2 HR2 HAT
   have hl200 : (((Qak l0).take j).map (atR l0)).length <= 200:=by rw [List.length_map,List.length_take]; have:=HLEN.out; omega
   have hsz5:=HB5.out.size
   have hl2:=HLEN.out
   go_wp2_with (first | ((with_reducible refine gate_builtin (b:=.append) (xs:=#[.tmp 13, .tmp 17]) rfl ?_); at_builtin; refine Kd.R_append (Kd.int .i32) (w0:=wS) wS.heap.size rfl (.tmp 13) (.tmp 17) 75 21 (.int .i32 0) 4 rfl Try.underlying75 infoI32 rfl (by decide) (by omega) u3 (((Qak l0).take j).map (atR l0)) rv [.int .i32 rv] (fun _ => True) (fun _ => False) rfl rfl ?aP (fun _ hk => hk.elim) ?aF ?aO ?aB ?aS ?aL ?_; (case aP => exact rfl); (case aB => exact HB5.out); (case aF => exact (fun _ _ => trivial)); (case aO => exact HR5.out); (case aS => exact hsz5); (case aL => omega); intro v1 w6 ho hb hg hat; have HO:=Zz.k ho; have HBB:=Zz.k hb; clear ho hb hg hat))
   go_roundg g2
   case measure => omega
   case rel => exact ⟨j + 1,by omega,by omega,by go_num,HBB,⟨by rw [HTK.out]; exact HO.out⟩⟩
  ·obtain rfl : j = (Qak l0).length:=by omega
   have hjz : ¬ ((Qak l0).length : Int) < ((Qak l0).length : Int):=by omega
   rw [List.take_length] at HR
   obtain ⟨AR,cR,rfl,hcR,hCR⟩:=Kd.R_reads HR.out
   have hcv : ∀ v,(convert 75 9 (.slice AR ((Qak l0).map (atR l0)).length cR)).run Try.prog wr = .ok v wr -> v = .string (plainR l0) -> True:=fun _ _ _ => trivial
   have hcv : (convert 75 9 (.slice AR ((Qak l0).map (atR l0)).length cR)).run Try.prog wr = .ok (.string (plainR l0)) wr:=by
    unfold plainR
    cases AR with
    | none =>
     cases hz : (Qak l0).map (atR l0) with
     | nil => exact run_convert_runes_nil wr _ _ 21 _ _ hrs hri hru
     | cons a b =>
      rw [hz] at hCR
      obtain ⟨ad,e,_⟩:=Kd.at_int hCR 0 (Int.le_refl _) (by simp)
      cases e
    | some ad =>
     have:=run_convert_runes (P:=Try.prog) wr 75 9 21 ad ((Qak l0).map (atR l0)).length cR ((Qak l0).map (atR l0)) (Nat.le_refl _) hrs hri hru (fun q hq => by
      obtain ⟨ad',e,hc⟩:=Kd.at_int hCR (q : Int) (by omega) (by omega)
      injection e with e
      subst e
      rw [Int.toNat_natCast] at hc
      rw [hc]; unfold rd; rw [Int.toNat_natCast])
     rw [List.take_length] at this
     exact this
   have HBE:=Zz.k (Qal HBS.out HB.out)
   clear hcR hCR HR HB
   generalize ((Qak l0).map (atR l0)).length = nn at hcv
   go_wp2
   go_ret
   exact ⟨rfl,HBE.out⟩
end
section
attribute [local go_sem] Qcg Qce max_two min_two Qbm Qbl Qcf Qcd
def doc_Text.f (l0 : List (SOp)) : Option (ByteArray × Int):=(tree_May.f l0).bind fun t179 => (if t179 = true then ((doc_Plain.f l0).bind fun t180 => (some (t180,0))) else (some ((⟨#[]⟩ : ByteArray),1)))
theorem doc_Text.calls (A0 : Option Addr) (c0 : Nat) (l0 : List (SOp)) (r1 : ByteArray) (r2 : Int) (w : World) (hr0 : Kd.C kOp w A0 l0.length l0) (hc0 : l0.length <= c0) (h : doc_Text.f l0 = some (r1,r2)) :
  Calls Try.prog 7 #[.slice A0 l0.length c0] w fun e w' => e = .returned (.tuple #[.string r1, .int .i64 r2]) /\ Below w.heap.size w w':=by
 have HR0:=Zz.k hr0
 have HC0:=Zz.k hc0
 clear hr0 hc0
 have HB:=Zz.k (Below.refl w.heap.size w)
 unfold doc_Text.f at h; have H:=h
 clear h
 obtain ⟨t179,A2,H⟩:=bE H
 by_cases c3 : t179 = true
 ·subst c3
  rw [if_pos rfl] at H
  obtain ⟨t180,A4,H⟩:=bE H
  simp only [Option.some.injEq,Prod.mk.injEq] at H
  obtain ⟨rfl,rfl⟩:=H
  go_enter Try.func7,Try.ntmps7
  go_wp2_with (first | ((with_reducible refine Qac (f:=9) rfl ?_); refine gl (some 5) Try.func9 #[.slice A0 l0.length c0] (h := ?_); (with_reducible refine (tree_May.calls _ _ l0 true _ ?side1 ?side2 A2.out).mono ?_); (case side1 => repeat (first | exact HR0.out | (with_reducible refine Kd.C_alloc ?_ _) | (with_reducible refine Kd.C_drewN ?_ _) | (with_reducible refine Kd.C_drew ?_))); (case side2 => exact HC0.out); rintro e w5 ⟨rfl,hb⟩; refine ⟨_,rfl, ?_⟩; replace HB:=bs HB hb; clear hb) | ((with_reducible refine Qac (f:=20) rfl ?_); refine gl (some 8) Try.func20 #[.slice A0 l0.length c0] (h := ?_); (with_reducible refine (doc_Plain.calls _ _ l0 t180 _ ?side1 ?side2 A4.out).mono ?_); (case side1 => exact cb HR0 HB); (case side2 => exact HC0.out); rintro e w6 ⟨rfl,hb⟩; refine ⟨_,rfl, ?_⟩; replace HB:=bs HB hb; clear hb))
  go_ret2
  exact ⟨re,bw HB⟩
 replace c3:=Zf c3
 subst c3
 rw [if_neg nft] at H
 simp only [Option.some.injEq,Prod.mk.injEq] at H
 obtain ⟨rfl,rfl⟩:=H
 go_enter Try.func7,Try.ntmps7
 go_wp2_with (first | ((with_reducible refine Qac (f:=9) rfl ?_); refine gl (some 5) Try.func9 #[.slice A0 l0.length c0] (h := ?_); (with_reducible refine (tree_May.calls _ _ l0 false _ ?side1 ?side2 A2.out).mono ?_); (case side1 => repeat (first | exact HR0.out | (with_reducible refine Kd.C_alloc ?_ _) | (with_reducible refine Kd.C_drewN ?_ _) | (with_reducible refine Kd.C_drew ?_))); (case side2 => exact HC0.out); rintro e w7 ⟨rfl,hb⟩; refine ⟨_,rfl, ?_⟩; replace HB:=bs HB hb; clear hb))
 go_ret2
 exact ⟨re,bw HB⟩
def edit_Insert.f (l0 : List (SOp)) (a1 : Int) (a2 : Int) (a3 : ByteArray) : Option (Int × Int × Int × Int × Int × Int × ByteArray × (List (SElem)) × Int × Int × Int × Int):=(edit_Replace.f l0 a1 a2 0 a3).bind fun bt182 => (some (bt182.1,bt182.2.1,bt182.2.2.1,bt182.2.2.2.1,bt182.2.2.2.2.1,bt182.2.2.2.2.2.1,bt182.2.2.2.2.2.2.1,bt182.2.2.2.2.2.2.2.1,bt182.2.2.2.2.2.2.2.2.1,bt182.2.2.2.2.2.2.2.2.2.1,bt182.2.2.2.2.2.2.2.2.2.2.1,bt182.2.2.2.2.2.2.2.2.2.2.2))
theorem edit_Insert.calls (A0 : Option Addr) (c0 : Nat) (l0 : List (SOp)) (a1 : Int) (a2 : Int) (a3 : ByteArray) (r1 : Int) (r2 : Int) (r3 : Int) (r4 : Int) (r5 : Int) (r6 : Int) (r7 : ByteArray) (r8 : List (SElem)) (r9 : Int) (r10 : Int) (r11 : Int) (r12 : Int) (w : World) (hr0 : Kd.C kOp w A0 l0.length l0) (hc0 : l0.length <= c0) (h : edit_Insert.f l0 a1 a2 a3 = some (r1,r2,r3,r4,r5,r6,r7,r8,r9,r10,r11,r12)) :
  Calls Try.prog 19 #[.slice A0 l0.length c0, .int .i64 a1, .int .i64 a2, .string a3] w fun e w' => ∃ v7_ : Value,e = .returned (.tuple #[.agg #[.int .i64 r1, .int .i64 r2, .int .i64 r3, .int .i64 r4, .int .i64 r5, .int .i64 r6, .string r7,v7_, .int .i64 r9, .int .i64 r10, .int .i64 r11], .int .i64 r12]) /\ Kd.R Qaw 30 w' w.heap.size (fun _ => True) v7_ r8 /\ Below w.heap.size w w':=by
 have hu32:=Try.underlying32
 have HR0:=Zz.k hr0
 have HC0:=Zz.k hc0
 clear hr0 hc0
 have HB:=Zz.k (Below.refl w.heap.size w)
 unfold edit_Insert.f at h; have H:=h
 clear h
 obtain ⟨⟨t182,t183,t184,t185,t186,t187,t188,t189,t192,t193,t194,t195⟩,A5,H⟩:=bE H
 try dsimp only at H
 simp only [Option.some.injEq,Prod.mk.injEq] at H
 obtain ⟨rfl,rfl,rfl,rfl,rfl,rfl,rfl,rfl,rfl,rfl,rfl,rfl⟩:=H
 go_enter Try.func19,Try.ntmps19
 go_wp2_with (first | ((with_reducible refine Qaf (N:=8) rfl ?_); refine bx 8 #[.int .i64 0, .int .i64 0, .int .i64 0, .int .i64 0, .int .i64 0, .int .i64 0, .string (⟨#[]⟩ : ByteArray), .slice none 0 0, .int .i64 0, .int .i64 0, .int .i64 0] 32 (h := ?_); intro gb181 hg w6 hbox hb; have BK181:=Zz.k (hbox); have GW181:=bz HB hg; have GE181:=bz HB hg; replace HB:=bs HB hb; clear hb hbox hg) | ((with_reducible refine Qac (f:=4) rfl ?_); refine gl (some 14) Try.func4 #[.slice A0 l0.length c0, .int .i64 a1, .int .i64 a2, .int .i64 0, .string a3] (h := ?_); (with_reducible refine (edit_Replace.calls _ _ l0 a1 a2 0 a3 t182 t183 t184 t185 t186 t187 t188 t189 t192 t193 t194 t195 _ ?side1 ?side2 A5.out).mono ?_); (case side1 => exact cb HR0 HB); (case side2 => exact HC0.out); rintro e w7 ⟨v190,rfl,ho0,hb⟩; refine ⟨_,rfl, ?_⟩; have HO191:=Zz.k (Kd.R_lower ho0 (Qap (bw HB))); replace BK181:=bl BK181 hb; replace HB:=bs HB hb; clear hb; clear ho0; obtain ⟨_,_,_,_,_,_,_,_,_,_,_,_,_,_,_,_,_,_,_,_,_,_⟩:=kc11 BK181; obtain ⟨Ao9,co9,eo9⟩:=Kd.R_slice HO191.out; subst eo9))
 refine bodyPost_ret (Qaz rfl _ _ gb181 32 #[.int .i64 t182, .int .i64 t183, .int .i64 t184, .int .i64 t185, .int .i64 t186, .int .i64 t187, .string t188, .slice Ao9 t189.length co9, .int .i64 t192, .int .i64 t193, .int .i64 t194] (0,0) _ rfl (bp11 (kk BK181)) Try.underlying32 rfl (by kernel_rfl)) rfl ?_
 exact ⟨_,re,by (with_reducible repeat (first | apply Kd.R_alloc | apply Kd.R_drewN | apply Kd.R_drew)); exact Kd.R_mono (rf11 (Kd.R_types HO191.out BK181.out (by decide))) (fun _ hk => trivial),bw HB⟩
end
section
attribute [local go_sem] Qcg Qce max_two min_two Qbm Qbl Qcf Qcd
def w7_num.f (a0 : Int) : Option (Int):=some a0
theorem w7_num.calls (a0 : Int) (r : Int) (w : World) (h : w7_num.f a0 = some r) :
  Calls Try.prog 5 #[.int .i64 a0] w fun e w' => e = .returned (.int .i64 r) /\ Drawn0 w w':=by
 unfold w7_num.f at h; have H:=h
 clear h
 obtain rfl:=Zo H
 go_enter Try.func5,Try.ntmps5
 go_wp2
 go_ret
 exact ⟨rf,by repeat (first | exact Drawn0.refl _ | apply Drawn0.step)⟩
end
end Go.Proofs.Ytlllghajjamdpaa.L
end
