/- Part 10 of the proof that for every argument the laws DocWrites, DocGoes, DocUndoes and DocIdles answer true: with more and more that is written, that goes, that is toggled, or that is toggled idly, a row's text and its visible elements are the page's. -/
import Derived.Test.YtonoaflfobajcaaDoorZDW9
import Derived.Laws.IdiomStrings
import Derived.Laws.Cover4
section
namespace Go.Proofs.YtonoaflfobajcaaDoor.L
open Go.RowKit Go.Proofs.YtonoaflfobajcaaDoorW.PrintWords Go.Proofs.YtonoaflfobajcaaDoorW.PrintLast Go.Proofs.YtonoaflfobajcaaDoorW.PrintMore
set_option linter.unusedVariables false
set_option linter.unusedSimpArgs false
def mkE (k : Int × Int × Int) : SElem:=⟨k.1,k.2.1,k.2.2⟩
def goneS (l ms : List SOp) : Int × Int × Int → Bool:=fun k => ms.any fun o => workE l o && decide (mkE k ∈ o.f5)
def theS (l ms : List SOp) : Int × Int × Int → Bool:=fun k => ms.any fun o => workE l o && decide (mkE k ∈ chainE o)
def addS (S : Int × Int × Int → Bool) (es : List SElem) : Int × Int × Int → Bool:=fun k => S k || decide (mkE k ∈ es)
theorem addS_nil (S : Int × Int × Int → Bool) : addS S [] = S:=by funext k; simp [addS]
theorem addS_snoc (S : Int × Int × Int → Bool) (es : List SElem) (x : SElem) : updB (addS S es) (x.f0,x.f1,x.f2) = addS S (es ++ [x]):=by
 funext k
 unfold updB addS
 by_cases h : k = (x.f0,x.f1,x.f2)
 ·rw [if_pos h]
  have : mkE k = x:=by rw [h]; rfl
  simp [this]
 ·rw [if_neg h]
  have : mkE k ≠ x:=fun e => h (by rw [← e]; rfl)
  simp [this]
theorem goneS_snoc (l ms : List SOp) (o : SOp) : goneS l (ms ++ [o]) = if workE l o = true then addS (goneS l ms) o.f5 else goneS l ms:=by
 funext k
 have h1 : ∀ b : Bool,(if b = true then (fun k => goneS l ms k || decide (mkE k ∈ o.f5)) else goneS l ms) k = (goneS l ms k || (b && decide (mkE k ∈ o.f5))):=by intro b; cases b <;> simp
 refine Eq.trans ?_ (h1 (workE l o)).symm
 unfold goneS
 rw [List.any_append]; simp
theorem theS_snoc (l ms : List SOp) (o : SOp) : theS l (ms ++ [o]) = if workE l o = true then addS (theS l ms) (chainE o) else theS l ms:=by
 funext k
 have h1 : ∀ b : Bool,(if b = true then (fun k => theS l ms k || decide (mkE k ∈ chainE o)) else theS l ms) k = (theS l ms k || (b && decide (mkE k ∈ chainE o))):=by intro b; cases b <;> simp
 refine Eq.trans ?_ (h1 (workE l o)).symm
 unfold theS
 rw [List.any_append]; simp
structure K2 (b1 b2 : Nat) (w w' : World) : Prop where
 os : w'.os = w.os
 tape : w'.tape = w.tape
 output : w'.output = w.output
 size : w.heap.size ≤ w'.heap.size
 block : ∀ k,k < w.heap.size → k ≠ b1 → k ≠ b2 → w'.heap[k]? = w.heap[k]?
theorem K2.refl (b1 b2 : Nat) (w : World) : K2 b1 b2 w w:=⟨rfl,rfl,rfl,Nat.le_refl _,fun _ _ _ _ => rfl⟩
theorem K2.below {b1 b2 : Nat} {w w1 w2 : World} (h : K2 b1 b2 w w1) (k : Below w1.heap.size w1 w2) : K2 b1 b2 w w2 :=
 ⟨k.os.trans h.os,k.tape.trans h.tape,k.output.trans h.output,Nat.le_trans h.size k.size,fun i hi h1 h2 => (k.block i (Nat.lt_of_lt_of_le hi h.size)).trans (h.block i hi h1 h2)⟩
theorem K2.grown {b1 b2 b : Nat} {w w1 w2 : World} (h : K2 b1 b2 w w1) (k : w1.grownBy w2 (some b)) (hb : b = b1 ∨ b = b2) : K2 b1 b2 w w2 :=
 ⟨k.os.trans h.os,k.tape.trans h.tape,k.output.trans h.output,Nat.le_trans h.size k.size,fun i hi h1 h2 => (k.block i (Nat.lt_of_lt_of_le hi h.size) (fun e => by injection e with e; rcases hb with rfl | rfl; exact h1 e; exact h2 e)).trans (h.block i hi h1 h2)⟩
theorem K2.cell {b1 b2 : Nat} {w w' : World} (h : K2 b1 b2 w w') {a : Addr} {v : Value} (hc : w.cell? a = some v) (h1 : a.block ≠ b1) (h2 : a.block ≠ b2) : w'.cell? a = some v:=by
 have:=h.block a.block (World.block_lt_of_cell? w a hc) h1 h2
 simpa [World.cell?,this] using hc
theorem K2.toBelow {b1 b2 B : Nat} {w0 w w' : World} (hb : Below B w0 w) (h : K2 b1 b2 w w') (hB : B ≤ w.heap.size) (h1 : B ≤ b1) (h2 : B ≤ b2) : Below B w0 w' :=
 hb.trans ⟨h.os,h.tape,h.output,h.size,fun i hi => h.block i (Nat.lt_of_lt_of_le hi hB) (by omega) (by omega)⟩
theorem smalls_Sm {l : List SOp} (h : smalls l = true) : ∀ o ∈ l,Sm o:=by
 unfold smalls SmB at h
 simp only [Bool.and_eq_true,decide_eq_true_eq,List.all_eq_true] at h
 intro o ho
 have:=h.2 o ho
 exact ⟨by omega,by omega⟩
theorem opOk_gone200 {o : SOp} (h : opOk o = true) : o.f5.length ≤ 200:=by
 rcases opOk_kinds h with ⟨_,h2⟩ | ⟨_,h2⟩
 ·unfold editOk goneOk at h2
  simp only [Bool.and_eq_true,decide_eq_true_eq] at h2
  omega
 ·unfold toggleOk at h2
  simp only [Bool.and_eq_true,List.isEmpty_iff] at h2
  rw [h2.2]; simp
theorem gone_in {o : SOp} (h : opOk o = true) : ∀ e ∈ o.f5,inI e.f0 ∧ inI e.f1 ∧ inI e.f2:=by
 intro e he
 obtain ⟨hb,hk,_⟩:=opOk_goneMem h e he
 obtain ⟨i0,i1⟩:=elemOk_in hk hb
 have:=elemOk_pos hk hb
 exact ⟨i0,i1,by unfold inI; omega⟩
theorem chain_in {o : SOp} (h : opOk o = true) : ∀ e ∈ chainE o,inI e.f0 ∧ inI e.f1 ∧ inI e.f2:=by
 intro e he
 obtain ⟨e0,e1,h2,h3⟩:=(mem_chain o e).1 he
 have hn:=opOk_name h
 have hs:=(opOk_size2 h).1
 rw [← e0,← e1]
 exact ⟨hn.1,hn.2,by unfold inI; omega⟩
theorem K2.trans {b1 b2 : Nat} {w w1 w2 : World} (h : K2 b1 b2 w w1) (k : K2 b1 b2 w1 w2) : K2 b1 b2 w w2 :=
 ⟨k.os.trans h.os,k.tape.trans h.tape,k.output.trans h.output,Nat.le_trans h.size k.size,fun i hi h1 h2 => (k.block i (Nat.lt_of_lt_of_le hi h.size) h1 h2).trans (h.block i hi h1 h2)⟩
theorem ord_in {l : List SOp} (h : RowOk l) : ∀ e,e ∈ ordL l → inI e.f0 ∧ inI e.f1 ∧ inI e.f2:=by
 intro e he
 obtain ⟨p,hp,e0,e1,h2,h3⟩:=(mem_ordL h e).1 he
 exact chain_in (h.oks p hp) e ((mem_chain p e).2 ⟨e0,e1,h2,h3⟩)
theorem mk_runE (t : TypeId) (w : World) : (Instr.makeMap t none).run Tryd.prog w = .ok (.map (some w.heap.size)) (w.alloc (.map #[] 0)):=rfl
theorem seen_start (w : World) : Below w.heap.size w ((((w.alloc (.map #[] 0)).alloc (.cells #[.map (some w.heap.size)] 117)).alloc (.map #[] 0)).alloc (.cells #[.map (some (w.heap.size + 1 + 1))] 117)) ∧
  MapE ((((w.alloc (.map #[] 0)).alloc (.cells #[.map (some w.heap.size)] 117)).alloc (.map #[] 0)).alloc (.cells #[.map (some (w.heap.size + 1 + 1))] 117)) w.heap.size 0 (fun _ => false) ∧
  MapE ((((w.alloc (.map #[] 0)).alloc (.cells #[.map (some w.heap.size)] 117)).alloc (.map #[] 0)).alloc (.cells #[.map (some (w.heap.size + 1 + 1))] 117)) (w.heap.size + 1 + 1) 0 (fun _ => false) ∧
  (((((w.alloc (.map #[] 0)).alloc (.cells #[.map (some w.heap.size)] 117)).alloc (.map #[] 0)).alloc (.cells #[.map (some (w.heap.size + 1 + 1))] 117)).cell? ⟨w.heap.size + 1,0,none⟩ = some (.map (some w.heap.size)) ∧
   ((((w.alloc (.map #[] 0)).alloc (.cells #[.map (some w.heap.size)] 117)).alloc (.map #[] 0)).alloc (.cells #[.map (some (w.heap.size + 1 + 1))] 117)).cell? ⟨w.heap.size + 1 + 1 + 1,0,none⟩ = some (.map (some (w.heap.size + 1 + 1)))) ∧
  ((((w.alloc (.map #[] 0)).alloc (.cells #[.map (some w.heap.size)] 117)).alloc (.map #[] 0)).alloc (.cells #[.map (some (w.heap.size + 1 + 1))] 117)).heap.size = w.heap.size + 4:=by
 have m1 : MapE (w.alloc (.map #[] 0)) w.heap.size 0 (fun _ => false):=MapB.made _ _ _ _
 have m1':=m1.kept (World.grownBy_alloc _ (.cells #[.map (some w.heap.size)] 117) none) (by simp)
 have hs2 : ((w.alloc (.map #[] 0)).alloc (.cells #[.map (some w.heap.size)] 117)).heap.size = w.heap.size + 1 + 1:=by simp
 have hb2 : Below w.heap.size w ((w.alloc (.map #[] 0)).alloc (.cells #[.map (some w.heap.size)] 117)):=below_alloc (below_alloc (Below.refl _ _) _) _
 have hc2 : ((w.alloc (.map #[] 0)).alloc (.cells #[.map (some w.heap.size)] 117)).cell? ⟨w.heap.size + 1,0,none⟩ = some (.map (some w.heap.size)):=top_cell _ _ _ _ 0 (by simp)
 generalize (w.alloc (.map #[] 0)).alloc (.cells #[.map (some w.heap.size)] 117) = w2 at m1' hs2 hb2 hc2 ⊢
 have m2 : MapE (w2.alloc (.map #[] 0)) (w.heap.size + 1 + 1) 0 (fun _ => false):=by
  have:=MapB.made encE 43 4 w2; rw [hs2] at this; exact this
 have m1'':=m1'.kept (World.grownBy_alloc _ (.map #[] 0) none) (by simp)
 have hs3 : (w2.alloc (.map #[] 0)).heap.size = w.heap.size + 1 + 1 + 1:=by simp [hs2]
 have hb3:=below_alloc hb2 (.map #[] 0)
 have hc3:=pw_cell_below (below_alloc (Below.refl w2.heap.size w2) (.map #[] 0)) hc2
 generalize w2.alloc (.map #[] 0) = w3 at m1'' m2 hs3 hb3 hc3 ⊢
 have m1a:=m1''.kept (World.grownBy_alloc _ (.cells #[.map (some (w.heap.size + 1 + 1))] 117) none) (by simp)
 have m2a:=m2.kept (World.grownBy_alloc _ (.cells #[.map (some (w.heap.size + 1 + 1))] 117) none) (by simp)
 exact ⟨below_alloc hb3 _,m1a,m2a,⟨pw_cell_below (below_alloc (Below.refl w3.heap.size w3) _) hc3,top_cell _ _ _ _ 0 hs3⟩,by simp [hs3]⟩
def doc_Seen.f (l0 : List (SOp)) : Option ((List (SElem))):=if smalls l0 = true ∧ mayB l0 = true then some (seenL l0) else none
set_option maxHeartbeats 4000000 in
set_option maxRecDepth 1000000 in
theorem doc_Seen.calls (A0 : Option Addr) (c0 : Nat) (l0 : List (SOp)) (r : List (SElem)) (w : World) (hr0 : Kd.C kOp w A0 l0.length l0) (hc0 : l0.length ≤ c0) (h : doc_Seen.f l0 = some r) :
  Calls Tryd.prog 77 #[.slice A0 l0.length c0] w fun e w' => ∃ v0_ : Value,e = .returned (v0_) ∧ Kd.R kElem 43 w' w.heap.size (fun _ => True) v0_ r ∧ Below w.heap.size w w':=by
 unfold doc_Seen.f at h
 split at h
 case isFalse => cases h
 rename_i hsm
 obtain ⟨hs,hm⟩:=hsm
 obtain rfl:=Option.some.inj h
 have hrow:=(mayB_iff l0).1 hm
 obtain ⟨kw,hkw⟩:=Ev.rounds (Works_ev hrow)
 have HR0:=Aside0.mk hr0
 have HC0:=Aside0.mk hc0
 have HW:=Aside0.mk (fun (W : World) (hb : Below w.heap.size w W) => doc_Works.calls kw A0 c0 l0 (worksL l0) W (Kd.C_below hr0 hb) hc0 hkw)
 have HROW:=Aside0.mk hrow
 have HSM:=Aside0.mk hs
 clear hr0 hc0 h hm hs hkw hrow
 go_enter Tryd.func77,Tryd.ntmps77
 have mk1:=fun w => mk_runE 117 w
 obtain ⟨s0,s1,s2,s3,s4⟩:=seen_start w
 have S1:=Aside0.mk s1
 have S2:=Aside0.mk s2
 have hW4:=HW.out _ s0
 have S0:=Aside0.mk s0
 have HW4:=Aside0.mk hW4
 have S3:=Aside0.mk s3
 have S4:=Aside0.mk s4
 clear s0 s1 s2 s3 s4 hW4 HW
 go_wp2_with fail
 refine HW4.out.mono ?_
 rintro e wW ⟨vW,rfl,hRW,hbW⟩
 obtain ⟨HBW,M1,M2,c1,c2,lW⟩ : Aside0 (Below w.heap.size w wW) ∧ Aside0 (MapE wW w.heap.size 0 (fun _ => false)) ∧ Aside0 (MapE wW (w.heap.size + 1 + 1) 0 (fun _ => false)) ∧ wW.cell? ⟨w.heap.size + 1,0,none⟩ = some (.map (some w.heap.size)) ∧ wW.cell? ⟨w.heap.size + 1 + 1 + 1,0,none⟩ = some (.map (some (w.heap.size + 1 + 1))) ∧ w.heap.size + 4 ≤ wW.heap.size:=by
  refine ⟨⟨below_step S0.out hbW⟩,⟨S1.out.below hbW S1.out.lt⟩,⟨S2.out.below hbW S2.out.lt⟩,pw_cell_below hbW S3.out.1,pw_cell_below hbW S3.out.2, ?_⟩
  have:=hbW.size; rw [S4.out] at this; exact this
 have hRW2:=Kd.R_mono (Kd.R_bound hRW) (ok':=fun k => k ≠ w.heap.size ∧ k ≠ w.heap.size + 1 + 1) (fun k hk => by have:=hk.2.1; rw [S4.out] at this; exact ⟨by omega,by omega⟩)
 have hlW : (worksL l0).length = l0.length:=by simp [worksL]
 obtain ⟨AW,cW,rfl,hcW,_⟩:=Kd.R_reads hRW2
 rw [hlW] at hcW ⊢
 have HCW:=Aside0.mk (fun (wr : World) (hk : K2 w.heap.size (w.heap.size + 1 + 1) wW wr) => (Kd.R_reads' (Kd.R_step hRW2 (fun k ho hlt => hk.block k hlt ho.1 ho.2))).2.2)
 have HC1:=Aside0.mk c1
 have HC2:=Aside0.mk c2
 have LW:=Aside0.mk lW
 clear hRW hRW2 hbW c1 c2 lW S0 S1 S2 S3 S4 HW4 hcW mk1
 rw [hlW] at HCW
 clear hlW
 go_wp2
 go_loopg [16] l0.length (fun gg s16 wr => ∃ i : Nat,i ≤ l0.length ∧ l0.length - i ≤ gg ∧ s16 = .int .i64 i ∧ Aside0 (K2 w.heap.size (w.heap.size + 1 + 1) wW wr) ∧ Aside0 (∃ n1 n2,n1 ≤ 200 * i ∧ n2 ≤ 12 * i ∧ MapE wr w.heap.size n1 (goneS l0 (l0.take i)) ∧ MapE wr (w.heap.size + 1 + 1) n2 (theS l0 (l0.take i))))
 case atStart => exact ⟨0,Nat.zero_le _,by omega,rfl,⟨K2.refl _ _ _⟩,⟨0,0,Nat.le_refl _,Nat.le_refl _,M1.out,M2.out⟩⟩
 case round =>
  clear M1 M2
  obtain ⟨i,hi,hgk,rfl,HK,HM⟩:=hrel
  have h40:=HROW.out.sums.1
  by_cases hlt : i < l0.length
  ·obtain ⟨g',rfl⟩ : ∃ g',gk = g' + 1:=⟨gk - 1,by omega⟩
   have hltz : (i : Int) < (l0.length : Int):=by omega
   have h0z : (0 : Int) ≤ (i : Int):=by omega
   obtain ⟨adW,rfl,xw⟩:=Kd.at_bool (HCW.out wr HK.out) (i : Int) h0z (by omega)
   simp only [Int.toNat_natCast] at xw
   have hrdw : rdOf false (worksL l0) (i : Int) = workE l0 l0[i]:=by
    unfold rdOf worksL
    rw [Int.toNat_natCast,List.getD_eq_getElem?_getD,List.getElem?_map,List.getElem?_eq_getElem hlt]; rfl
   rw [hrdw] at xw
   cases hwk : workE l0 l0[i] with
   | false =>
    rw [hwk] at xw
    have HM2:=Aside0.mk (show ∃ n1 n2,n1 ≤ 200 * (i + 1) ∧ n2 ≤ 12 * (i + 1) ∧ MapE wr w.heap.size n1 (goneS l0 (l0.take (i + 1))) ∧ MapE wr (w.heap.size + 1 + 1) n2 (theS l0 (l0.take (i + 1))) by
     obtain ⟨n1,n2,h1,h2,h3,h4⟩:=HM.out
     rw [List.take_succ_eq_append_getElem hlt,goneS_snoc,theS_snoc,hwk]
     exact ⟨n1,n2,by omega,by omega,h3,h4⟩)
    clear hwk hrdw HM
    go_wp2
    go_roundg g'
    case measure => omega
    case rel => exact ⟨i + 1,by omega,by omega,by go_num,HK,HM2⟩
   | true =>
    rw [hwk] at xw
    have hoi:=HROW.out.oks _ (List.getElem_mem hlt)
    have hSm:=smalls_Sm HSM.out _ (List.getElem_mem hlt)
    obtain ⟨ad,A7,c7,rfl,x0,x1,x2,x3,x4,x5,x6,x7,x8,x9,x10,l7,g7⟩:=at_Op HR0.out (i : Int) h0z hltz
    have LW1:=LW.out
    have hbr : Below w.heap.size w wr:=K2.toBelow HBW.out HK.out (by omega) (Nat.le_refl _) (by omega)
    simp only [Int.toNat_natCast,rd_Op_nat _ _ hlt] at x0 x1 x2 x3 x4 x5 x6 x7 x8 x9 x10 l7 g7
    generalize hoe : l0[i] = o at x0 x1 x2 x3 x4 x5 x6 x7 x8 x9 x10 l7 g7 hwk hoi hSm
    have HOE:=Aside0.mk hoe
    have HWK:=Aside0.mk hwk
    have HOI:=Aside0.mk hoi
    have HSO:=Aside0.mk hSm
    have HG7:=Aside0.mk g7
    have HL7:=Aside0.mk l7
    have HX:=Aside0.mk (And.intro x0 (And.intro x1 (And.intro x2 (And.intro x3 (And.intro x4 (And.intro x5 (And.intro x6 (And.intro x7 (And.intro x8 (And.intro x9 x10))))))))))
    have e7:=pw_cell_below hbr x7
    have h200:=opOk_gone200 hoi
    clear x0 x1 x2 x3 x4 x5 x6 x7 x8 x9 x10 l7 g7 hwk hoi hSm hoe hrdw hbr
    go_wp2
    go_loopg [29] o.f5.length (fun gg s29 w' => ∃ j : Nat,j ≤ o.f5.length ∧ o.f5.length - j ≤ gg ∧ s29 = .int .i64 j ∧ Aside0 (K2 w.heap.size (w.heap.size + 1 + 1) wW w') ∧ Aside0 (∃ n1 n2,n1 ≤ 200 * i + j ∧ n2 ≤ 12 * i ∧ MapE w' w.heap.size n1 (addS (goneS l0 (l0.take i)) (o.f5.take j)) ∧ MapE w' (w.heap.size + 1 + 1) n2 (theS l0 (l0.take i))))
    case atStart =>
     obtain ⟨n1,n2,h1,h2,h3,h4⟩:=HM.out
     exact ⟨0,Nat.zero_le _,by omega,rfl,HK,⟨n1,n2,by omega,by omega,by rw [List.take_zero,addS_nil]; exact h3,h4⟩⟩
    case round =>
     clear HM HK xw e7
     obtain ⟨j,hj,hgk2,rfl,HK,HM⟩:=hrel
     by_cases hjl : j < o.f5.length
     ·obtain ⟨g2,rfl⟩ : ∃ g2,gk = g2 + 1:=⟨gk - 1,by omega⟩
      have hjz : (j : Int) < (o.f5.length : Int):=by omega
      have hj0 : (0 : Int) ≤ (j : Int):=by omega
      have hbr : Below w.heap.size w wr:=K2.toBelow HBW.out HK.out (by omega) (Nat.le_refl _) (by omega)
      obtain ⟨ad7,rfl,y0,y1,y2⟩:=at_Elem (Kd.C_below HG7.out hbr) (j : Int) hj0 hjz
      simp only [Int.toNat_natCast,rd_Elem_nat _ _ hjl] at y0 y1 y2
      have hxi:=gone_in HOI.out _ (List.getElem_mem hjl)
      have hsn:=addS_snoc (goneS l0 (l0.take i)) (o.f5.take j) o.f5[j]
      rw [← List.take_succ_eq_append_getElem hjl] at hsn
      generalize o.f5[j] = x at y0 y1 y2 hxi hsn
      obtain ⟨n1,n2,h1,h2,h3,h4⟩:=HM.out
      have hal : Below wr.heap.size wr (wr.alloc (.cells #[.int .i64 x.f0, .int .i64 x.f1, .int .i64 x.f2] 43)):=below_alloc (Below.refl _ _) _
      obtain ⟨kl,hkl⟩:=keyE (x:=(x.f0,x.f1,x.f2)) hxi.1 hxi.2.1 hxi.2.2
      obtain ⟨w6,hrun,hm6,hg6⟩:=(h3.below hal h3.lt).store lawE Tryd.underlying117 Tryd.underlying4 (Nat.lt_of_le_of_lt (m:=10000) (by omega) (by decide)) encE_inj (x.f0,x.f1,x.f2) hkl
      rw [hsn] at hm6
      simp only [encE] at hrun
      have q1:=pw_cell_below hal (HK.out.cell HC1.out (by simp) (by simp))
      have HK6:=Aside0.mk ((HK.out.below hal).grown hg6 (.inl rfl))
      have HM6:=Aside0.mk (show ∃ n1 n2,n1 ≤ 200 * i + (j + 1) ∧ n2 ≤ 12 * i ∧ MapE w6 w.heap.size n1 (addS (goneS l0 (l0.take i)) (o.f5.take (j + 1))) ∧ MapE w6 (w.heap.size + 1 + 1) n2 (theS l0 (l0.take i)) from
       ⟨n1 + 1,n2,by omega,h2,hm6,(h4.below hal h4.lt).kept hg6 (fun e => by injection e with e; omega)⟩)
      clear h1 h2 h3 h4 hm6 hg6 hsn hxi hkl hal hbr HM HK
      go_wp2
      go_roundg g2
      case measure => omega
      case rel => exact ⟨j + 1,by omega,by omega,by go_num,HK6,HM6⟩
     ·obtain rfl : j = o.f5.length:=by omega
      have hjz : ¬ (o.f5.length : Int) < (o.f5.length : Int):=by omega
      have hbr : Below w.heap.size w wr:=K2.toBelow HBW.out HK.out (by omega) (Nat.le_refl _) (by omega)
      obtain ⟨x0,x1,x2,x3,x4,x5,x6,x7,x8,x9,x10⟩:=HX.out
      replace x0:=pw_cell_below hbr x0
      replace x1:=pw_cell_below hbr x1
      replace x2:=pw_cell_below hbr x2
      replace x3:=pw_cell_below hbr x3
      replace x4:=pw_cell_below hbr x4
      replace x5:=pw_cell_below hbr x5
      replace x6:=pw_cell_below hbr x6
      replace x7:=pw_cell_below hbr x7
      replace x8:=pw_cell_below hbr x8
      replace x9:=pw_cell_below hbr x9
      replace x10:=pw_cell_below hbr x10
      have hsz:=(opOk_size2 HOI.out).1
      obtain ⟨ka,hka⟩:=Ev.rounds (All_ev o HSO.out (by omega))
      have HAL:=Aside0.mk (op_All.calls ka o.f0 o.f1 o.f2 o.f3.f0 o.f3.f1 o.f3.f2 o.f4 A7 c7 o.f5 o.f6 o.f7 o.f8 (chainE o) wr (Kd.C_below HG7.out hbr) HL7.out hka)
      have HSZ:=Aside0.mk hsz
      clear hbr hka hsz
      go_wp2_with fail
      refine HAL.out.mono ?_
      rintro e wA ⟨vA,rfl,hRA,hbA⟩
      have hsr:=HK.out.size
      have hRA2:=Kd.R_mono (Kd.R_bound hRA) (ok':=fun k => k ≠ w.heap.size ∧ k ≠ w.heap.size + 1 + 1) (fun k hk => by have:=hk.2.1; exact ⟨by omega,by omega⟩)
      have hlA : (chainE o).length = sizeOf' o:=chain_length o
      obtain ⟨AA,cA,rfl,hcA,_⟩:=Kd.R_reads hRA2
      have HCA:=Aside0.mk (fun (w' : World) (hk : K2 w.heap.size (w.heap.size + 1 + 1) wA w') => (Kd.R_reads' (Kd.R_step hRA2 (fun k ho hlt => hk.block k hlt ho.1 ho.2))).2.2)
      have HKA:=Aside0.mk (HK.out.below hbA)
      have HMA:=Aside0.mk (show ∃ n1 n2,n1 ≤ 200 * i + o.f5.length ∧ n2 ≤ 12 * i ∧ MapE wA w.heap.size n1 (addS (goneS l0 (l0.take i)) o.f5) ∧ MapE wA (w.heap.size + 1 + 1) n2 (theS l0 (l0.take i)) by
       obtain ⟨n1,n2,h1,h2,h3,h4⟩:=HM.out
       rw [List.take_length] at h3
       exact ⟨n1,n2,h1,h2,h3.below hbA h3.lt,h4.below hbA h4.lt⟩)
      have HLA:=Aside0.mk (show (chainE o).length ≤ 12 by rw [hlA]; exact HSZ.out)
      clear hRA hRA2 hlA hcA hbA HAL HK HM x0 x1 x2 x3 x4 x5 x6 x7 x8 x9 x10 hsr
      go_wp2
      go_loopg [42] (chainE o).length (fun gg s42 w' => ∃ j : Nat,j ≤ (chainE o).length ∧ (chainE o).length - j ≤ gg ∧ s42 = .int .i64 j ∧ Aside0 (K2 w.heap.size (w.heap.size + 1 + 1) wA w') ∧ Aside0 (∃ n1 n2,n1 ≤ 200 * (i + 1) ∧ n2 ≤ 12 * i + j ∧ MapE w' w.heap.size n1 (addS (goneS l0 (l0.take i)) o.f5) ∧ MapE w' (w.heap.size + 1 + 1) n2 (addS (theS l0 (l0.take i)) ((chainE o).take j))))
      case atStart =>
       obtain ⟨n1,n2,h1,h2,h3,h4⟩:=HMA.out
       exact ⟨0,Nat.zero_le _,by omega,rfl,⟨K2.refl _ _ _⟩,⟨n1,n2,by omega,by omega,h3,by rw [List.take_zero,addS_nil]; exact h4⟩⟩
      case round =>
       clear HMA
       obtain ⟨j,hj,hgk2,rfl,HK,HM⟩:=hrel
       have hcl:=HLA.out
       by_cases hjl : j < (chainE o).length
       ·obtain ⟨g2,rfl⟩ : ∃ g2,gk = g2 + 1:=⟨gk - 1,by omega⟩
        have hjz : (j : Int) < ((chainE o).length : Int):=by omega
        have hj0 : (0 : Int) ≤ (j : Int):=by omega
        obtain ⟨ad7,rfl,y0,y1,y2⟩:=at_Elem (HCA.out wr HK.out) (j : Int) hj0 hjz
        simp only [Int.toNat_natCast,rd_Elem_nat _ _ hjl] at y0 y1 y2
        have hxi:=chain_in HOI.out _ (List.getElem_mem hjl)
        have hsn:=addS_snoc (theS l0 (l0.take i)) ((chainE o).take j) (chainE o)[j]
        rw [← List.take_succ_eq_append_getElem hjl] at hsn
        generalize (chainE o)[j] = x at y0 y1 y2 hxi hsn
        obtain ⟨n1,n2,h1,h2,h3,h4⟩:=HM.out
        have hal : Below wr.heap.size wr (wr.alloc (.cells #[.int .i64 x.f0, .int .i64 x.f1, .int .i64 x.f2] 43)):=below_alloc (Below.refl _ _) _
        obtain ⟨kl,hkl⟩:=keyE (x:=(x.f0,x.f1,x.f2)) hxi.1 hxi.2.1 hxi.2.2
        obtain ⟨w6,hrun,hm6,hg6⟩:=(h4.below hal h4.lt).store lawE Tryd.underlying117 Tryd.underlying4 (Nat.lt_of_le_of_lt (m:=10000) (by omega) (by decide)) encE_inj (x.f0,x.f1,x.f2) hkl
        rw [hsn] at hm6
        simp only [encE] at hrun
        have q1:=pw_cell_below hal (HK.out.cell (HKA.out.cell HC2.out (by show w.heap.size + 1 + 1 + 1 ≠ _; omega) (by show w.heap.size + 1 + 1 + 1 ≠ _; omega)) (by show w.heap.size + 1 + 1 + 1 ≠ _; omega) (by show w.heap.size + 1 + 1 + 1 ≠ _; omega))
        have HK6:=Aside0.mk ((HK.out.below hal).grown hg6 (.inr rfl))
        have HM6:=Aside0.mk (show ∃ n1 n2,n1 ≤ 200 * (i + 1) ∧ n2 ≤ 12 * i + (j + 1) ∧ MapE w6 w.heap.size n1 (addS (goneS l0 (l0.take i)) o.f5) ∧ MapE w6 (w.heap.size + 1 + 1) n2 (addS (theS l0 (l0.take i)) ((chainE o).take (j + 1))) from
         ⟨n1,n2 + 1,h1,by omega,(h3.below hal h3.lt).kept hg6 (fun e => by injection e with e; omega),hm6⟩)
        clear h1 h2 h3 h4 hm6 hg6 hsn hxi hkl hal HM HK
        go_wp2
        go_roundg g2
        case measure => omega
        case rel => exact ⟨j + 1,by omega,by omega,by go_num,HK6,HM6⟩
       ·obtain rfl : j = (chainE o).length:=by omega
        have hjz : ¬ ((chainE o).length : Int) < ((chainE o).length : Int):=by omega
        have HK8:=Aside0.mk (K2.trans HKA.out HK.out)
        have HM8:=Aside0.mk (show ∃ n1 n2,n1 ≤ 200 * (i + 1) ∧ n2 ≤ 12 * (i + 1) ∧ MapE wr w.heap.size n1 (goneS l0 (l0.take (i + 1))) ∧ MapE wr (w.heap.size + 1 + 1) n2 (theS l0 (l0.take (i + 1))) by
         obtain ⟨n1,n2,h1,h2,h3,h4⟩:=HM.out
         rw [List.take_length] at h4
         rw [List.take_succ_eq_append_getElem hlt,HOE.out,goneS_snoc,theS_snoc,HWK.out]
         exact ⟨n1,n2,h1,by omega,h3,h4⟩)
        clear HK HM
        go_wp2
        go_roundg g'
        case measure => omega
        case rel => exact ⟨i + 1,by omega,by omega,by go_num,HK8,HM8⟩
  ·obtain rfl : i = l0.length:=by omega
   have hltz : ¬ (l0.length : Int) < (l0.length : Int):=by omega
   have LW1:=LW.out
   have hbr : Below w.heap.size w wr:=K2.toBelow HBW.out HK.out (by omega) (Nat.le_refl _) (by omega)
   have HAL:=Aside0.mk (tree_All.calls A0 c0 l0 (ordL l0) wr (Kd.C_below HR0.out hbr) HC0.out (tree_All_f HSM.out HROW.out))
   have HBR:=Aside0.mk hbr
   clear hbr
   go_wp2_with fail
   refine HAL.out.mono ?_
   rintro e wA ⟨vA,rfl,hRA,hbA⟩
   obtain ⟨AA,cA,rfl⟩:=Kd.R_slice hRA
   have hsr:=HK.out.size
   have hlen : (ordL l0).length ≤ 200:=by rw [(ordL_nodup HROW.out).2]; exact HROW.out.sums.2
   have hown:=Kd.R_base hRA
   have hD:=DeleteFuncElem 111 #[.pointer (some ⟨w.heap.size + 1,0,none⟩), .pointer (some ⟨w.heap.size + 1 + 1 + 1,0,none⟩)] wr.heap.size cA AA (ordL l0) (fun x => goneS l0 l0 (x.f0,x.f1,x.f2) || !theS l0 l0 (x.f0,x.f1,x.f2)) wA
    (enters_at Tryd.func111 (by kernel_rfl) rfl) (by omega) hRA (fun W x hx hg => by
     obtain ⟨n1,n2,h1,h2,h3,h4⟩:=HM.out
     rw [List.take_length] at h3 h4
     have a3:=(h3.below hbA h3.lt).kept hg (fun e => by have:=hown _ e.symm; omega)
     have a4:=(h4.below hbA h4.lt).kept hg (fun e => by have:=hown _ e.symm; omega)
     have k1:=pw_cell_below hbA (HK.out.cell HC1.out (by show w.heap.size + 1 ≠ _; omega) (by show w.heap.size + 1 ≠ _; omega))
     have k2:=pw_cell_below hbA (HK.out.cell HC2.out (by show w.heap.size + 1 + 1 + 1 ≠ _; omega) (by show w.heap.size + 1 + 1 + 1 ≠ _; omega))
     have k1':=cell_grown hg (fun e => by have:=hown _ e.symm; simp only at this; omega) k1
     have k2':=cell_grown hg (fun e => by have:=hown _ e.symm; simp only at this; omega) k2
     exact seen1_calls _ _ _ _ n1 n2 x _ _ W k1' k2' a3 a4 (ord_in HROW.out x hx))
   have HD:=Aside0.mk hD
   have HBA:=Aside0.mk (below_step HBR.out hbA)
   have HOWN:=Aside0.mk hown
   have HSZ:=Aside0.mk hbA.size
   clear hD hRA hbA hown
   go_wp2_with fail
   refine HD.out.mono ?_
   rintro e w2 ⟨v,rfl,hRv,hgv⟩
   have HRV:=Aside0.mk hRv
   have HGV:=Aside0.mk hgv
   clear hRv hgv
   go_wp2
   go_ret
   have hz:=HBR.out.size
   have hzA:=HSZ.out
   refine ⟨_,rfl,Kd.R_lower HRV.out hz,pw_below_grown HBA.out _ HBA.out.size HGV.out (fun k hk => by have:=HOWN.out k hk; omega)⟩
end Go.Proofs.YtonoaflfobajcaaDoor.L
end

section
namespace Go.Proofs.YtonoaflfobajcaaDoor.L
open Go.RowKit Go.Proofs.YtonoaflfobajcaaDoorW.PrintWords Go.Proofs.YtonoaflfobajcaaDoorW.PrintLast Go.Proofs.YtonoaflfobajcaaDoorW.PrintMore
def t_doc_At.T1 : Bool × List (List Nat × List Nat):=(true,[([],[]),([],[]),([],[]),([2],[2]),([],[]),([4],[4]),([1,3,5],[1,3,5]),([0,6],[0,6]),([7],[7]),([8],[8]),([9],[9]),([],[]),([11],[11]),([10,12],[10,12]),([13],[13]),([14,6,0,1,2,3,4,5,6,7,8,9,10,11,12,13,14],[14])])
def t_doc_At.B1 : List Nat:=[0,0,0,4,0,16,62,127,255,511,1023,0,2048,8191,16383,32767]
theorem t_doc_At.tab1 : rtab .any (opsOf Tryd.f133 1) = t_doc_At.T1:=by kernel_rfl
theorem t_doc_At.bits1 : waitsOk t_doc_At.T1.2 t_doc_At.B1 = true:=by kernel_rfl
end Go.Proofs.YtonoaflfobajcaaDoor.L
end

section
namespace Go.Proofs.YtonoaflfobajcaaDoor.L
open Go.RowKit Go.Proofs.YtonoaflfobajcaaDoorW.PrintWords Go.Proofs.YtonoaflfobajcaaDoorW.PrintLast Go.Proofs.YtonoaflfobajcaaDoorW.PrintMore
set_option linter.unusedVariables false
set_option linter.unusedSimpArgs false
theorem runesFrom_eq (s : ByteArray) : ∀ (n i : Nat) (acc : Array Value),Conv.runesFrom s n i acc = acc ++ ((decFrom s n i).map (Value.int .i32)).toArray
 | 0,i,acc => by simp [Conv.runesFrom,decFrom]
 | n + 1,i,acc => by
  unfold Conv.runesFrom decFrom
  by_cases h : i < s.size
  ·rw [if_pos h,if_pos h]
   refine (runesFrom_eq s n (i + (Utf8.decode s i).2) (acc.push (.int .i32 ((Utf8.decode s i).1 : Int)))).trans ?_
   simp
  ·rw [if_neg h,if_neg h]; simp
theorem runesFrom_all (s : ByteArray) : Conv.runesFrom s s.size 0 #[] = ((runesOf s).map (Value.int .i32)).toArray:=by rw [runesFrom_eq]; simp [runesOf]
def doc_At.f (l0 : List (SOp)) (a1_0 : Int) (a1_1 : Int) (a1_2 : Int) : Option (Int) :=
 if l0.length ≤ 1000000 ∧ 0 ≤ findOp l0 a1_0 a1_1 ∧ 0 ≤ a1_2 ∧ a1_2 < (sizeOf' (rd_Op l0 (findOp l0 a1_0 a1_1)) : Int) ∧ sizeOf' (rd_Op l0 (findOp l0 a1_0 a1_1)) ≤ 1000000 then some ((runesOf (rd_Op l0 (findOp l0 a1_0 a1_1)).f4).getD a1_2.toNat 0) else none
set_option maxHeartbeats 4000000 in
set_option maxRecDepth 1000000 in
theorem doc_At.calls (A0 : Option Addr) (c0 : Nat) (l0 : List (SOp)) (a1_0 : Int) (a1_1 : Int) (a1_2 : Int) (r : Int) (w : World) (hr0 : Kd.C kOp w A0 l0.length l0) (hc0 : l0.length ≤ c0) (h : doc_At.f l0 a1_0 a1_1 a1_2 = some r) :
  Calls Tryd.prog 133 #[.slice A0 l0.length c0, .agg #[.int .i64 a1_0, .int .i64 a1_1, .int .i64 a1_2]] w fun e w' => e = .returned (.int .i32 r) ∧ Below w.heap.size w w':=by
 unfold doc_At.f at h
 split at h
 case isFalse => cases h
 rename_i hq
 obtain ⟨hl,hf0,h2,h3,h4⟩:=hq
 obtain rfl:=Option.some.inj h
 clear h
 obtain ⟨i,hi,hfi⟩ : ∃ i,i < l0.length ∧ findOp l0 a1_0 a1_1 = (i : Int):=by
  rcases findOp_cases l0 a1_0 a1_1 with ⟨i,hi,_,_,_,e⟩ | ⟨_,e⟩
  ·exact ⟨i,hi,e⟩
  ·omega
 have hcF:=fun W (hb : Below w.heap.size w W) => tree_Find.calls A0 c0 l0 a1_0 a1_1 (i : Int) W (Kd.C_below hr0 hb) hc0 (by rw [tree_Find_f hl,hfi])
 rw [hfi] at h3 h4 ⊢
 have hi0 : (0 : Int) ≤ (i : Int):=by omega
 have hi1 : (i : Int) < (l0.length : Int):=by omega
 obtain ⟨ad,A7,c7,rfl,x0,x1,x2,x3,x4,x5,x6,x7,x8,x9,x10,l7,g7⟩:=at_Op hr0 (i : Int) hi0 hi1
 simp only [Int.toNat_natCast] at x6
 generalize rd_Op l0 (i : Int) = o at x6 h3 h4 ⊢
 clear x0 x1 x2 x3 x4 x5 x7 x8 x9 x10 l7 g7 hr0 hf0 hfi hi hl
 have HF:=Aside0.mk hcF
 clear hcF
 obtain ⟨j,rfl⟩ : ∃ j : Nat,a1_2 = (j : Int):=⟨a1_2.toNat,by omega⟩
 have hj : j < (runesOf o.f4).length:=by have : sizeOf' o = (runesOf o.f4).length:=rfl; omega
 rw [Int.toNat_natCast]
 generalize hrv : (runesOf o.f4).getD j 0 = rv
 have HRV:=Aside0.mk hrv
 clear hrv
 have hru:=Tryd.underlying9
 have hrs:=Tryd.underlying87
 have hri:=Tryd.underlying21
 have hal : Below w.heap.size w (w.alloc (.cells #[.int .i64 a1_0, .int .i64 a1_1, .int .i64 (j : Int)] 43)):=below_alloc (Below.refl _ _) _
 have y6:=pw_cell_below hal x6
 have b0 : (w.alloc (.cells #[.int .i64 a1_0, .int .i64 a1_1, .int .i64 (j : Int)] 43)).cell? ⟨w.heap.size,0,none⟩ = some (.int .i64 a1_0):=by simp
 have b1 : (w.alloc (.cells #[.int .i64 a1_0, .int .i64 a1_1, .int .i64 (j : Int)] 43)).cell? ⟨w.heap.size,1,none⟩ = some (.int .i64 a1_1):=by simp
 have b2 : (w.alloc (.cells #[.int .i64 a1_0, .int .i64 a1_1, .int .i64 (j : Int)] 43)).cell? ⟨w.heap.size,2,none⟩ = some (.int .i64 (j : Int)):=by simp
 have HAL:=Aside0.mk hal
 have HB3:=Aside0.mk h3
 have HB4:=Aside0.mk h4
 clear hal x6 h3 h4 h2
 go_enter Tryd.func133,Tryd.ntmps133
 go_wp2_with fail
 refine stL (S:=fun w' => w'.cell? ⟨w.heap.size,0,none⟩ = some (.int .i64 a1_0) ∧ w'.cell? ⟨w.heap.size,1,none⟩ = some (.int .i64 a1_1) ∧ w'.cell? ⟨w.heap.size,2,none⟩ = some (.int .i64 (j : Int)) ∧ w'.cell? ⟨(ad.add (i * 11)).block,(ad.add (i * 11)).off + 6,none⟩ = some (.string o.f4)) [14] 16 t_doc_At.bits1 t_doc_At.tab1 (hS:=⟨b0,b1,b2,y6⟩) (h:=fun hS HT HW => ?_)
 refine pu HT 0 5 1 (h := ?_)
 refine pu HT 1 6 3 (h := ?_)
 refine pu HT 2 7 7 (h := ?_)
 refine tk HT HW hS 3 8 15 (h := ?_)
 refine pu HT 4 9 31 (h := ?_)
 refine tk HT HW hS 5 10 63 (h := ?_)
 refine pu HT 11 16 2111 (h := ?_)
 refine tk HT HW hS 12 17 6207 (h := ?_)
 refine ca HT 6 (some 11) 6271 #[.slice (some ad) l0.length c0, .int .i64 a1_0, .int .i64 a1_1] Tryd.func103 (h:=fun K hK => ?_)
 refine (HF.out _ (below_drew1 HAL.out)).mono ?_
 rintro e w3 ⟨rfl,hb3⟩
 refine ⟨_,rfl, ?_⟩
 refine hK.out _ _ ⟨pw_cell_below hb3 b0,pw_cell_below hb3 b1,pw_cell_below hb3 b2,pw_cell_below hb3 y6⟩ (fun hS => ?_)
 have HBW:=Aside0.mk (below_step (below_drew1 HAL.out) hb3)
 clear hK hb3 b0 b1 b2 y6 HF
 refine nm (h := ?_)
 refine pu HT 7 12 6399 (h := ?_)
 refine pu HT 8 13 6655 (h := ?_)
 refine tk HT HW hS 9 14 7167 (h := ?_)
 have hcv:=run_runes_of_string (P:=Tryd.prog) w3 9 87 21 o.f4 hru hrs hri (by rw [runesFrom_all]; have hs : sizeOf' o = (runesOf o.f4).length:=rfl; simp; have:=HB4.out; omega)
 rw [runesFrom_all] at hcv
 have hcap:=grownCap_ge w3 ((runesOf o.f4).map (Value.int .i32)).toArray.size 0 21
 generalize hgc : grownCap w3 ((runesOf o.f4).map (Value.int .i32)).toArray.size 0 21 = gc at hcv hcap
 have hsz : ((runesOf o.f4).map (Value.int .i32)).toArray.size = (runesOf o.f4).length:=by simp
 rw [hsz] at hcv hcap
 have hcell : (w3.drew.alloc (.cells (((runesOf o.f4).map (Value.int .i32)).toArray ++ Array.replicate (gc - (runesOf o.f4).length) (.int .i32 0)) 21)).cell? ⟨w3.heap.size,j,none⟩ = some (.int .i32 rv):=by
  rw [← HRV.out]
  have:=top_cell w3.drew (((runesOf o.f4).map (Value.int .i32)).toArray ++ Array.replicate (gc - (runesOf o.f4).length) (.int .i32 0)) 21 w3.heap.size j rfl
  rw [this,Array.getElem?_append_left (by simp; exact hj)]
  simp [List.getD_eq_getElem?_getD,hj]
 have HBE:=Aside0.mk (below_step HBW.out (below_alloc (below_drew1 (Below.refl w3.heap.size w3)) (.cells (((runesOf o.f4).map (Value.int .i32)).toArray ++ Array.replicate (gc - (runesOf o.f4).length) (.int .i32 0)) 21)))
 have hjz : (j : Int) < ((runesOf o.f4).length : Int):=by omega
 have hj0 : (0 : Int) ≤ (j : Int):=by omega
 have hbv:=below_alloc (below_drew1 (Below.refl w3.heap.size w3)) (.cells (((runesOf o.f4).map (Value.int .i32)).toArray ++ Array.replicate (gc - (runesOf o.f4).length) (.int .i32 0)) 21)
 have s0:=pw_cell_below hbv hS.1
 have s1:=pw_cell_below hbv hS.2.1
 have s2:=pw_cell_below hbv hS.2.2.1
 have s3:=pw_cell_below hbv hS.2.2.2
 clear hbv
 generalize w3.drew.alloc (.cells (((runesOf o.f4).map (Value.int .i32)).toArray ++ Array.replicate (gc - (runesOf o.f4).length) (.int .i32 0)) 21) = w4 at hcv hcell HBE s0 s1 s2 s3
 generalize (runesOf o.f4).length = rl at hcv hjz hcap
 refine exS HT 10 (some 15) 8191 (.slice (some ⟨w3.heap.size,0,none⟩) rl gc) w4 (hrun := ?_) (hS:=⟨s0,s1,s2,s3⟩) (h:=fun hS => ?_)
 ·go_simp
 clear hcv hcap hsz hS
 refine nm (h := ?_)
 refine pu HT 13 18 16383 (h := ?_)
 refine exL HT 14 (some 19) 32767 (.int .i32 rv) w4 (hrun := ?_) (h := ?_)
 ·go_simp
 refine nm (h := ?_)
 refine pu HT 15 4 65535 (h := ?_)
 refine dn HT (h := ?_)
 clear HT HW
 go_wp2
 go_ret
 exact ⟨rfl,HBE.out⟩
end Go.Proofs.YtonoaflfobajcaaDoor.L
end

section
namespace Go.Proofs.YtonoaflfobajcaaDoor.L
open Go.RowKit Go.Proofs.YtonoaflfobajcaaDoorW.PrintWords Go.Proofs.YtonoaflfobajcaaDoorW.PrintLast Go.Proofs.YtonoaflfobajcaaDoorW.PrintMore
set_option linter.unusedVariables false
set_option linter.unusedSimpArgs false
theorem infoI32 : (Tryd.prog.info? 21).map (fun i => (i.zero,i.size,i.bytes)) = some (some (.int .i32 0),1,4):=by kernel_rfl
def atR (l : List SOp) (e : SElem) : Int:=(runesOf (rd_Op l (findOp l e.f0 e.f1)).f4).getD e.f2.toNat 0
def plainR (l : List SOp) : ByteArray:=runesBytes ((seenL l).map (atR l))
def doc_Plain.f (l0 : List (SOp)) : Option (ByteArray):=if smalls l0 = true ∧ mayB l0 = true then some (plainR l0) else none
theorem At_ok {l : List SOp} (h : RowOk l) {e : SElem} (he : e ∈ ordL l) : doc_At.f l e.f0 e.f1 e.f2 = some (atR l e):=by
 obtain ⟨p,hp,e0,e1,h2,h3⟩:=(mem_ordL h e).1 he
 obtain ⟨i,hi,ef,ei⟩:=findOp_mem h hp
 rw [e0,e1] at ef
 have hs:=(opOk_size2 (h.oks p hp)).1
 have h40:=h.sums.1
 unfold doc_At.f atR
 rw [ef,rd_Op_nat _ _ hi,ei,if_pos ⟨by omega,by omega,h2,h3,by omega⟩]
set_option maxHeartbeats 4000000 in
set_option maxRecDepth 1000000 in
theorem doc_Plain.calls (A0 : Option Addr) (c0 : Nat) (l0 : List (SOp)) (r : ByteArray) (w : World) (hr0 : Kd.C kOp w A0 l0.length l0) (hc0 : l0.length ≤ c0) (h : doc_Plain.f l0 = some r) :
  Calls Tryd.prog 107 #[.slice A0 l0.length c0] w fun e w' => e = .returned (.string r) ∧ Below w.heap.size w w':=by
 unfold doc_Plain.f at h
 split at h
 case isFalse => cases h
 rename_i hsm
 obtain rfl:=Option.some.inj h
 have hrow:=(mayB_iff l0).1 hsm.2
 have hcS:=doc_Seen.calls A0 c0 l0 (seenL l0) w hr0 hc0 (by unfold doc_Seen.f; rw [if_pos hsm])
 have hru:=Tryd.underlying9
 have hrs:=Tryd.underlying87
 have hri:=Tryd.underlying21
 have HR0:=Aside0.mk hr0
 have HC0:=Aside0.mk hc0
 have HS:=Aside0.mk hcS
 have HROW:=Aside0.mk hrow
 clear hr0 hc0 h hcS hsm hrow
 go_enter Tryd.func107,Tryd.ntmps107
 go_wp2_with fail
 refine HS.out.mono ?_
 rintro e wS ⟨vS,rfl,hRS,hbS⟩
 obtain ⟨AS,cS,rfl,hcS,hCS⟩:=Kd.R_reads hRS
 have HBS:=Aside0.mk hbS
 have HCS:=Aside0.mk hCS
 have hlen : (seenL l0).length ≤ 200:=Nat.le_trans (List.length_filter_le _ _) (by rw [(ordL_nodup HROW.out).2]; exact HROW.out.sums.2)
 have HLEN:=Aside0.mk hlen
 clear hRS hbS hCS hcS hlen HS
 go_wp2
 go_loopg [3,9] (seenL l0).length (fun gg s3 s9 w' => ∃ j : Nat,j ≤ (seenL l0).length ∧ (seenL l0).length - j ≤ gg ∧ s9 = .int .i64 j ∧ Aside0 (Below wS.heap.size wS w') ∧ Aside0 (Kd.R (Kd.int .i32) 21 w' wS.heap.size (fun _ => True) s3 (((seenL l0).take j).map (atR l0))))
 case atStart => exact ⟨0,Nat.zero_le _,by omega,rfl,⟨Below.refl _ _⟩,⟨Kd.R_nil _ _ _ _ _⟩⟩
 case round =>
  obtain ⟨j,hj,hgk,rfl,HB,HR⟩:=hrel
  by_cases hjl : j < (seenL l0).length
  ·obtain ⟨g2,rfl⟩ : ∃ g2,gk = g2 + 1:=⟨gk - 1,by omega⟩
   have hjz : (j : Int) < ((seenL l0).length : Int):=by omega
   have hj0 : (0 : Int) ≤ (j : Int):=by omega
   obtain ⟨ad7,rfl,y0,y1,y2⟩:=at_Elem (Kd.C_below HCS.out HB.out) (j : Int) hj0 hjz
   simp only [Int.toNat_natCast,rd_Elem_nat _ _ hjl] at y0 y1 y2
   have hmem : (seenL l0)[j] ∈ ordL l0:=(seen_mem.1 (List.getElem_mem hjl)).1
   have hat:=At_ok HROW.out hmem
   have htk : ((seenL l0).take (j + 1)).map (atR l0) = ((seenL l0).take j).map (atR l0) ++ [atR l0 (seenL l0)[j]]:=by rw [List.take_succ_eq_append_getElem hjl,List.map_append]; rfl
   have HTK:=Aside0.mk htk
   clear htk
   generalize hxe : (seenL l0)[j] = x at y0 y1 y2 hat HTK
   generalize atR l0 x = rv at hat HTK
   have hal : Below wr.heap.size wr (wr.alloc (.cells #[.int .i64 x.f0, .int .i64 x.f1, .int .i64 x.f2] 43)):=below_alloc (Below.refl _ _) _
   have hbw : Below wS.heap.size wS (wr.alloc (.cells #[.int .i64 x.f0, .int .i64 x.f1, .int .i64 x.f2] 43)):=below_step HB.out hal
   have HAT:=Aside0.mk (doc_At.calls A0 c0 l0 x.f0 x.f1 x.f2 rv _ (Kd.C_below HR0.out (below_step HBS.out hbw)) HC0.out hat)
   have HB2:=Aside0.mk hbw
   have HR2:=Aside0.mk (Kd.R_below HR.out hal)
   clear hal hbw hat hxe hmem HB HR
   go_wp2_with fail
   refine HAT.out.mono ?_
   rintro e w5 ⟨rfl,hb5⟩
   have HB5:=Aside0.mk (below_step HB2.out hb5)
   have HR5:=Aside0.mk (Kd.R_below HR2.out hb5)
   clear hb5 HB2 HR2 HAT
   have hl200 : (((seenL l0).take j).map (atR l0)).length ≤ 200:=by rw [List.length_map,List.length_take]; have:=HLEN.out; omega
   have hsz5:=HB5.out.size
   have hl2:=HLEN.out
   go_wp2_with (first | ((with_reducible refine gate_builtin (b:=.append) (xs:=#[.tmp 13, .tmp 17]) rfl ?_); at_builtin; refine Kd.R_append (Kd.int .i32) (w0:=wS) wS.heap.size rfl (.tmp 13) (.tmp 17) 87 21 (.int .i32 0) 4 rfl Tryd.underlying87 infoI32 rfl (by decide) (by omega) u3 (((seenL l0).take j).map (atR l0)) rv [.int .i32 rv] (fun _ => True) (fun _ => False) rfl rfl ?aP (fun _ hk => hk.elim) ?aF ?aO ?aB ?aS ?aL ?_; (case aP => exact rfl); (case aB => exact HB5.out); (case aF => exact (fun _ _ => trivial)); (case aO => exact HR5.out); (case aS => exact hsz5); (case aL => omega); intro v1 w6 ho hb hg hat; have HO:=Aside0.mk ho; have HBB:=Aside0.mk hb; clear ho hb hg hat))
   go_roundg g2
   case measure => omega
   case rel => exact ⟨j + 1,by omega,by omega,by go_num,HBB,⟨by rw [HTK.out]; exact HO.out⟩⟩
  ·obtain rfl : j = (seenL l0).length:=by omega
   have hjz : ¬ ((seenL l0).length : Int) < ((seenL l0).length : Int):=by omega
   rw [List.take_length] at HR
   obtain ⟨AR,cR,rfl,hcR,hCR⟩:=Kd.R_reads HR.out
   have hcv : ∀ v,(convert 87 9 (.slice AR ((seenL l0).map (atR l0)).length cR)).run Tryd.prog wr = .ok v wr → v = .string (plainR l0) → True:=fun _ _ _ => trivial
   have hcv : (convert 87 9 (.slice AR ((seenL l0).map (atR l0)).length cR)).run Tryd.prog wr = .ok (.string (plainR l0)) wr:=by
    unfold plainR
    cases AR with
    | none =>
     cases hz : (seenL l0).map (atR l0) with
     | nil => exact run_convert_runes_nil wr _ _ 21 _ _ hrs hri hru
     | cons a b =>
      rw [hz] at hCR
      obtain ⟨ad,e,_⟩:=Kd.at_int hCR 0 (Int.le_refl _) (by simp)
      cases e
    | some ad =>
     have:=run_convert_runes (P:=Tryd.prog) wr 87 9 21 ad ((seenL l0).map (atR l0)).length cR ((seenL l0).map (atR l0)) (Nat.le_refl _) hrs hri hru (fun q hq => by
      obtain ⟨ad',e,hc⟩:=Kd.at_int hCR (q : Int) (by omega) (by omega)
      injection e with e
      subst e
      rw [Int.toNat_natCast] at hc
      rw [hc]; unfold rd; rw [Int.toNat_natCast])
     rw [List.take_length] at this
     exact this
   have HBE:=Aside0.mk (below_step HBS.out HB.out)
   clear hcR hCR HR HB
   generalize ((seenL l0).map (atR l0)).length = nn at hcv
   go_wp2
   go_ret
   exact ⟨rfl,HBE.out⟩
end Go.Proofs.YtonoaflfobajcaaDoor.L
end

section
namespace Go.Proofs.YtonoaflfobajcaaDoor.L
open Go.RowKit Go.Proofs.YtonoaflfobajcaaDoorW.PrintWords Go.Proofs.YtonoaflfobajcaaDoorW.PrintLast Go.Proofs.YtonoaflfobajcaaDoorW.PrintMore
attribute [local go_sem] max2_int min2_int max_two min_two max_three min_three max_four min_four
set_option linter.unusedVariables false
set_option linter.unusedSimpArgs false
def doc_Text.f (l0 : List (SOp)) : Option (ByteArray × Int):=(tree_May.f l0).bind fun t366 => (if t366 = true then ((doc_Plain.f l0).bind fun t367 => (some (t367,0))) else (some ((⟨#[]⟩ : ByteArray),1)))
set_option maxHeartbeats 8000000 in
set_option maxRecDepth 100000 in
theorem doc_Text.calls (A0 : Option Addr) (c0 : Nat) (l0 : List (SOp)) (r1 : ByteArray) (r2 : Int) (w : World) (hr0 : Kd.C kOp w A0 l0.length l0) (hc0 : l0.length ≤ c0) (h : doc_Text.f l0 = some (r1,r2)) :
  Calls Tryd.prog 70 #[.slice A0 l0.length c0] w fun e w' => e = .returned (.tuple #[.string r1, .int .i64 r2]) ∧ Below w.heap.size w w':=by
 have HR0:=Aside0.mk hr0
 have HC0:=Aside0.mk hc0
 clear hr0 hc0
 have HB:=Aside0.mk (Below.refl w.heap.size w)
 unfold doc_Text.f at h; have H:=h
 clear h
 obtain ⟨t366,A2,H⟩:=bE H
 by_cases c3 : t366 = true
 ·subst c3
  rw [if_pos rfl] at H
  obtain ⟨t367,A4,H⟩:=bE H
  simp only [Option.some.injEq,Prod.mk.injEq] at H
  obtain ⟨rfl,rfl⟩:=H
  go_enter Tryd.func70,Tryd.ntmps70
  go_wp2_with (first | ((with_reducible refine gate_callee (f:=60) rfl ?_); refine gl (some 5) Tryd.func60 #[.slice A0 l0.length c0] (h := ?_); (with_reducible refine (tree_May.calls _ _ l0 true _ ?side1 ?side2 A2.out).mono ?_); (case side1 => repeat (first | exact HR0.out | (with_reducible refine Kd.C_alloc ?_ _) | (with_reducible refine Kd.C_drewN ?_ _) | (with_reducible refine Kd.C_drew ?_))); (case side2 => exact HC0.out); rintro e w5 ⟨rfl,hb⟩; refine ⟨_,rfl, ?_⟩; replace HB:=bs HB hb; clear hb) | ((with_reducible refine gate_callee (f:=107) rfl ?_); refine gl (some 8) Tryd.func107 #[.slice A0 l0.length c0] (h := ?_); (with_reducible refine (doc_Plain.calls _ _ l0 t367 _ ?side1 ?side2 A4.out).mono ?_); (case side1 => exact cb HR0 HB); (case side2 => exact HC0.out); rintro e w6 ⟨rfl,hb⟩; refine ⟨_,rfl, ?_⟩; replace HB:=bs HB hb; clear hb))
  go_ret2
  exact ⟨re,bw HB⟩
 replace c3:=Bool.eq_false_iff.mpr c3
 subst c3
 rw [if_neg nft] at H
 simp only [Option.some.injEq,Prod.mk.injEq] at H
 obtain ⟨rfl,rfl⟩:=H
 go_enter Tryd.func70,Tryd.ntmps70
 go_wp2_with (first | ((with_reducible refine gate_callee (f:=60) rfl ?_); refine gl (some 5) Tryd.func60 #[.slice A0 l0.length c0] (h := ?_); (with_reducible refine (tree_May.calls _ _ l0 false _ ?side1 ?side2 A2.out).mono ?_); (case side1 => repeat (first | exact HR0.out | (with_reducible refine Kd.C_alloc ?_ _) | (with_reducible refine Kd.C_drewN ?_ _) | (with_reducible refine Kd.C_drew ?_))); (case side2 => exact HC0.out); rintro e w7 ⟨rfl,hb⟩; refine ⟨_,rfl, ?_⟩; replace HB:=bs HB hb; clear hb))
 go_ret2
 exact ⟨re,bw HB⟩
def doc_Visible.f (l0 : List (SOp)) : Option ((List (SElem)) × Int):=(tree_May.f l0).bind fun t368 => (if t368 = true then ((doc_Seen.f l0).bind fun t369 => (some (t369,0))) else (some (([] : List (SElem)),1)))
set_option maxHeartbeats 8000000 in
set_option maxRecDepth 100000 in
theorem doc_Visible.calls (A0 : Option Addr) (c0 : Nat) (l0 : List (SOp)) (r1 : List (SElem)) (r2 : Int) (w : World) (hr0 : Kd.C kOp w A0 l0.length l0) (hc0 : l0.length ≤ c0) (h : doc_Visible.f l0 = some (r1,r2)) :
  Calls Tryd.prog 71 #[.slice A0 l0.length c0] w fun e w' => ∃ v0_ : Value,e = .returned (.tuple #[v0_, .int .i64 r2]) ∧ Kd.R kElem 43 w' w.heap.size (fun _ => True) v0_ r1 ∧ Below w.heap.size w w':=by
 have HR0:=Aside0.mk hr0
 have HC0:=Aside0.mk hc0
 clear hr0 hc0
 have HB:=Aside0.mk (Below.refl w.heap.size w)
 unfold doc_Visible.f at h; have H:=h
 clear h
 obtain ⟨t368,A2,H⟩:=bE H
 by_cases c3 : t368 = true
 ·subst c3
  rw [if_pos rfl] at H
  obtain ⟨t369,A4,H⟩:=bE H
  simp only [Option.some.injEq,Prod.mk.injEq] at H
  obtain ⟨rfl,rfl⟩:=H
  go_enter Tryd.func71,Tryd.ntmps71
  go_wp2_with (first | ((with_reducible refine gate_callee (f:=60) rfl ?_); refine gl (some 5) Tryd.func60 #[.slice A0 l0.length c0] (h := ?_); (with_reducible refine (tree_May.calls _ _ l0 true _ ?side1 ?side2 A2.out).mono ?_); (case side1 => repeat (first | exact HR0.out | (with_reducible refine Kd.C_alloc ?_ _) | (with_reducible refine Kd.C_drewN ?_ _) | (with_reducible refine Kd.C_drew ?_))); (case side2 => exact HC0.out); rintro e w5 ⟨rfl,hb⟩; refine ⟨_,rfl, ?_⟩; replace HB:=bs HB hb; clear hb) | ((with_reducible refine gate_callee (f:=77) rfl ?_); refine gl (some 8) Tryd.func77 #[.slice A0 l0.length c0] (h := ?_); (with_reducible refine (doc_Seen.calls _ _ l0 t369 _ ?side1 ?side2 A4.out).mono ?_); (case side1 => exact cb HR0 HB); (case side2 => exact HC0.out); rintro e w6 ⟨v370,rfl,ho0,hb⟩; refine ⟨_,rfl, ?_⟩; have HO371:=Aside0.mk (Kd.R_lower ho0 (below_size (bw HB))); replace HB:=bs HB hb; clear hb; clear ho0))
  go_ret2
  exact ⟨_,re,by (with_reducible repeat (first | apply Kd.R_alloc | apply Kd.R_drewN | apply Kd.R_drew)); exact HO371.out,bw HB⟩
 replace c3:=Bool.eq_false_iff.mpr c3
 subst c3
 rw [if_neg nft] at H
 simp only [Option.some.injEq,Prod.mk.injEq] at H
 obtain ⟨rfl,rfl⟩:=H
 go_enter Tryd.func71,Tryd.ntmps71
 go_wp2_with (first | ((with_reducible refine gate_callee (f:=60) rfl ?_); refine gl (some 5) Tryd.func60 #[.slice A0 l0.length c0] (h := ?_); (with_reducible refine (tree_May.calls _ _ l0 false _ ?side1 ?side2 A2.out).mono ?_); (case side1 => repeat (first | exact HR0.out | (with_reducible refine Kd.C_alloc ?_ _) | (with_reducible refine Kd.C_drewN ?_ _) | (with_reducible refine Kd.C_drew ?_))); (case side2 => exact HC0.out); rintro e w7 ⟨rfl,hb⟩; refine ⟨_,rfl, ?_⟩; replace HB:=bs HB hb; clear hb))
 go_ret2
 exact ⟨_,re,by first | exact Kd.R_nil _ _ _ _ _ | exact Kd.N_nil _ _ _ _ _ | exact Kd.V_nil _ _ _ _ _ | exact Kd.Q_nil _ _ _ _ _ | exact Kd.S_nil _ _ _ _ _,bw HB⟩
def w6_num.f (a0 : Int) : Option (Int):=some a0
set_option maxHeartbeats 8000000 in
set_option maxRecDepth 100000 in
theorem w6_num.calls (a0 : Int) (r : Int) (w : World) (h : w6_num.f a0 = some r) :
  Calls Tryd.prog 72 #[.int .i64 a0] w fun e w' => e = .returned (.int .i64 r) ∧ Drawn0 w w':=by
 unfold w6_num.f at h; have H:=h
 clear h
 obtain rfl:=Option.some.inj H
 go_enter Tryd.func72,Tryd.ntmps72
 go_wp2
 go_ret
 exact ⟨rf,by repeat (first | exact Drawn0.refl _ | apply Drawn0.step)⟩
def r4_Rune.f (k : Nat) (l0 : List (SOp)) (a1_0 : Int) (a1_1 : Int) (a1_2 : Int) : Option (Int):=(r4_Find.f k l0 a1_0 a1_1).bind fun t373 => (if 0 ≤ t373 then (if t373 < (l0.length : Int) then ((r1_Runes.f k ((rd_Op l0 t373).f4)).bind fun bt375 => (if 0 ≤ a1_2 then (if a1_2 < (bt375.1.length : Int) then (some (rd bt375.1 a1_2)) else (none)) else (none))) else (none)) else (none))
set_option maxHeartbeats 8000000 in
set_option maxRecDepth 100000 in
theorem r4_Rune.calls (k : Nat) (A0 : Option Addr) (c0 : Nat) (l0 : List (SOp)) (a1_0 : Int) (a1_1 : Int) (a1_2 : Int) (r : Int) (w : World) (hr0 : Kd.C kOp w A0 l0.length l0) (hc0 : l0.length ≤ c0) (hT : GT w) (h : r4_Rune.f k l0 a1_0 a1_1 a1_2 = some r) :
  Calls Tryd.prog 108 #[.slice A0 l0.length c0, .agg #[.int .i64 a1_0, .int .i64 a1_1, .int .i64 a1_2]] w fun e w' => e = .returned (.int .i32 r) ∧ Below w.heap.size w w':=by
 have hu43:=Tryd.underlying43
 have HR0:=Aside0.mk hr0
 have HC0:=Aside0.mk hc0
 clear hr0 hc0
 have HB:=Aside0.mk (Below.refl w.heap.size w)
 unfold r4_Rune.f at h; have H:=h
 clear h
 obtain ⟨t373,A3,H⟩:=bE H
 by_cases c4 : 0 ≤ t373; rotate_left
 ·rw [if_neg c4] at H
  exact absurd H (by simp)
 rw [if_pos c4] at H
 have c4b0:=decide_eq_true c4
 clear c4
 by_cases c5 : t373 < (l0.length : Int); rotate_left
 ·rw [if_neg c5] at H
  exact absurd H (by simp)
 rw [if_pos c5] at H
 have c5b0:=decide_eq_true c5
 clear c5
 obtain ⟨⟨t375,t376⟩,A6,H⟩:=bE H
 try dsimp only at H
 by_cases c7 : 0 ≤ a1_2; rotate_left
 ·rw [if_neg c7] at H
  exact absurd H (by simp)
 rw [if_pos c7] at H
 have c7b0:=decide_eq_true c7
 clear c7
 by_cases c8 : a1_2 < (t375.length : Int); rotate_left
 ·rw [if_neg c8] at H
  exact absurd H (by simp)
 rw [if_pos c8] at H
 have c8b0:=decide_eq_true c8
 clear c8
 obtain rfl:=Option.some.inj H
 go_enter Tryd.func108,Tryd.ntmps108
 go_wp2_with (first | ((with_reducible refine gate_dst (N:=3) rfl ?_); refine bx 3 #[.int .i64 a1_0, .int .i64 a1_1, .int .i64 a1_2] 43 (h := ?_); intro gb372 hg w9 hbox hb; have BK372:=Aside0.mk (hbox); have GW372:=bz HB hg; have GE372:=bz HB hg; replace HB:=bs HB hb; clear hb hbox hg; obtain ⟨_,_,_,_,_,_⟩:=kc3 BK372) | ((with_reducible refine gate_callee (f:=76) rfl ?_); refine gl (some 14) Tryd.func76 #[.slice A0 l0.length c0, .int .i64 a1_0, .int .i64 a1_1] (h := ?_); (with_reducible refine (r4_Find.calls k _ _ l0 a1_0 a1_1 t373 _ ?side1 ?side2 A3.out).mono ?_); (case side1 => exact cb HR0 HB); (case side2 => exact HC0.out); rintro e w' ⟨rfl,⟨nd,rfl⟩⟩; refine ⟨_,rfl, ?_⟩; have p374 : 0 ≤ (t373 : Int):=od; have q374 : t373 < (l0.length : Int):=od; obtain ⟨ad374,A374_7,c374_7,e374,hx374_0,hx374_1,hx374_2,hx374_3,hx374_4,hx374_5,hx374_6,hx374_7,hx374_8,hx374_9,hx374_10,hl374_7,hi374_7⟩:=at_Op HR0.out t373 p374 q374; cases e374; replace hx374_0:=cl HB hx374_0; replace hx374_1:=cl HB hx374_1; replace hx374_2:=cl HB hx374_2; replace hx374_3:=cl HB hx374_3; replace hx374_4:=cl HB hx374_4; replace hx374_5:=cl HB hx374_5; replace hx374_6:=cl HB hx374_6; replace hx374_7:=cl HB hx374_7; replace hx374_8:=cl HB hx374_8; replace hx374_9:=cl HB hx374_9; replace hx374_10:=cl HB hx374_10; have HR374_7:=Aside0.mk hi374_7; have HC374_7:=Aside0.mk hl374_7; clear hi374_7 hl374_7; replace p374:=eq_true p374; replace q374:=eq_true q374) | ((with_reducible refine gate_callee (f:=78) rfl ?_); refine gl (some 18) Tryd.func78 #[.string ((rd_Op l0 t373).f4)] (h := ?_); (with_reducible refine (r1_Runes.calls k ((rd_Op l0 t373).f4) t375 t376 _ ?side1 A6.out).mono ?_); (case side1 => exact (hT.below (bw HB))); rintro e w11 ⟨v377,rfl,ho0,hb⟩; refine ⟨_,rfl, ?_⟩; have HO378:=Aside0.mk (Kd.R_lower ho0 (below_size (bw HB))); replace BK372:=bl BK372 hb; replace HB:=bs HB hb; clear hb; clear ho0; obtain ⟨_,_,_,_,_,_⟩:=kc3 BK372; obtain ⟨Ao13,co13,eo13⟩:=Kd.R_slice HO378.out; subst eo13; have p379 : 0 ≤ (a1_2 : Int):=od; have q379 : a1_2 < (t375.length : Int):=od; obtain ⟨ad379,e379,hx379_0⟩:=Kd.at_int (Kd.R_reads' HO378.out).2.2 a1_2 p379 q379; cases e379; replace p379:=eq_true p379; replace q379:=eq_true q379))
 go_ret
 exact ⟨re,bw HB⟩
def r1_Make.l0 : Nat → List Int → ByteArray → Int → Option (ByteArray)
 | 0,_,_,_ => none
 | k + 1,x0,x3,x4 => if x4 < (x0.length : Int) then (if 0 ≤ x4 then (if x3.size + (Utf8.encode (rd x0 x4)).size ≤ 9223372036854775807 then (r1_Make.l0 k x0 (x3 ++ (Utf8.encode (rd x0 x4))) (wrap64 (x4 + 1))) else (none)) else (none)) else (some x3)
def r1_Make.f (k : Nat) (l0 : List Int) : Option (ByteArray):=r1_Make.l0 k l0 (⟨#[]⟩ : ByteArray) 0
set_option maxHeartbeats 8000000 in
set_option maxRecDepth 100000 in
theorem r1_Make.calls (k : Nat) (A0 : Option Addr) (c0 : Nat) (l0 : List Int) (r : ByteArray) (w : World) (hr0 : Kd.C (Kd.int .i32) w A0 l0.length l0) (hc0 : l0.length ≤ c0) (h : r1_Make.f k l0 = some r) :
  Calls Tryd.prog 109 #[.slice A0 l0.length c0] w fun e w' => e = .returned (.string r) ∧ Drawn0 w w':=by
 have HR0:=Aside0.mk hr0
 have HC0:=Aside0.mk hc0
 clear hr0 hc0
 unfold r1_Make.f at h; have H:=h
 clear h
 have H':=Aside0.mk H
 clear H
 go_enter Tryd.func109,Tryd.ntmps109
 go_wp2
 go_loopg [3,4] k (fun kq v3 v4 w' => ∃ (x3_1 : ByteArray) (x4_1 : Int),v3 = .string x3_1 ∧ v4 = .int .i64 x4_1 ∧ Aside0 (r1_Make.l0 kq l0 x3_1 x4_1 = some r) ∧ Aside0 (kq ≤ k) ∧ Drawn0 w w')
 case atStart => exact ⟨((⟨#[]⟩ : ByteArray)),(0),rf,rf,H',⟨Nat.le_refl _⟩,by repeat (first | exact Drawn0.refl _ | apply Drawn0.step)⟩
 case round =>
  clear H'
  obtain ⟨x3_1,x4_1,rfl,rfl,HA,HK1,⟨m1,rfl⟩⟩:=hrel
  cases gk with
  | zero => exact absurd HA.out (by simp [r1_Make.l0])
  | succ k1 =>
   have H:=HA.out
   clear HA
   simp only [r1_Make.l0] at H
   by_cases c2 : x4_1 < (l0.length : Int); rotate_left
   ·rw [if_neg c2] at H
    have c2b0:=decide_eq_false c2
    clear c2
    obtain rfl:=Option.some.inj H
    go_wp2
    go_ret
    exact ⟨rf,by repeat (first | exact Drawn0.refl _ | apply Drawn0.step)⟩
   rw [if_pos c2] at H
   have c2b0:=decide_eq_true c2
   clear c2
   by_cases c3 : 0 ≤ x4_1; rotate_left
   ·rw [if_neg c3] at H
    exact absurd H (by simp)
   rw [if_pos c3] at H
   have c3b0:=decide_eq_true c3
   clear c3
   by_cases c4 : x3_1.size + (Utf8.encode (rd l0 x4_1)).size ≤ 9223372036854775807; rotate_left
   ·rw [if_neg c4] at H
    exact absurd H (by simp)
   rw [if_pos c4] at H
   have c4b0:=eq_true c4
   have c4b1:=decide_eq_true c4
   try have c4b2 : (9223372036854775807 < x3_1.size + (Utf8.encode (rd l0 x4_1)).size) = False:=eq_false (Nat.not_lt.2 c4)
   have H':=Aside0.mk H
   clear H
   have p380 : 0 ≤ (x4_1 : Int):=od
   have q380 : x4_1 < (l0.length : Int):=od
   obtain ⟨ad380,e380,hx380_0⟩:=Kd.at_int HR0.out x4_1 p380 q380
   cases e380
   replace p380:=eq_true p380
   replace q380:=eq_true q380
   go_wp2
   go_roundg k1
   case measure => have:=HK1.out; omega
   case rel => exact ⟨(x3_1 ++ (Utf8.encode (rd l0 x4_1))),(wrap64 (x4_1 + 1)),rf,rf,H',⟨by have:=HK1.out; omega⟩,by repeat (first | exact Drawn0.refl _ | apply Drawn0.step)⟩
def r4_Text.l0 : Nat → List (SOp) → List (SElem) → List Int → Int → Option (ByteArray)
 | 0,_,_,_,_ => none
 | k + 1,x0,x3,x4,x5 => if x5 < (x3.length : Int) then (if 0 ≤ x5 then ((r4_Rune.f k x0 ((rd_Elem x3 x5).f0) ((rd_Elem x3 x5).f1) ((rd_Elem x3 x5).f2)).bind fun t385 => (if x4.length < 35184372088832 then (r4_Text.l0 k x0 x3 (x4 ++ [t385]) (wrap64 (x5 + 1))) else (none))) else (none)) else ((r1_Make.f k x4).bind fun t389 => (some t389))
def r4_Text.f (k : Nat) (l0 : List (SOp)) : Option (ByteArray):=(r4_Visible.f k l0).bind fun t381 => (r4_Text.l0 k l0 t381 ([] : List Int) 0)
set_option maxHeartbeats 8000000 in
set_option maxRecDepth 100000 in
theorem r4_Text.calls (k : Nat) (A0 : Option Addr) (c0 : Nat) (l0 : List (SOp)) (r : ByteArray) (w : World) (hr0 : Kd.C kOp w A0 l0.length l0) (hc0 : l0.length ≤ c0) (hT : GT w) (h : r4_Text.f k l0 = some r) :
  Calls Tryd.prog 73 #[.slice A0 l0.length c0] w fun e w' => e = .returned (.string r) ∧ Below w.heap.size w w':=by
 have hu43:=Tryd.underlying43
 have HR0:=Aside0.mk hr0
 have HC0:=Aside0.mk hc0
 clear hr0 hc0
 have HB:=Aside0.mk (Below.refl w.heap.size w)
 unfold r4_Text.f at h; have H:=h
 clear h
 obtain ⟨t381,A2,H⟩:=bE H
 have H':=Aside0.mk H
 clear H
 go_enter Tryd.func73,Tryd.ntmps73
 go_wp2_with (first | ((with_reducible refine gate_callee (f:=31) rfl ?_); refine gl (some 7) Tryd.func31 #[.slice A0 l0.length c0] (h := ?_); (with_reducible refine (r4_Visible.calls k _ _ l0 t381 _ ?side1 ?side2 ?side3 A2.out).mono ?_); (case side1 => repeat (first | exact HR0.out | (with_reducible refine Kd.C_alloc ?_ _) | (with_reducible refine Kd.C_drewN ?_ _) | (with_reducible refine Kd.C_drew ?_))); (case side2 => exact HC0.out); (case side3 => exact (hT.below (bw HB))); rintro e w3 ⟨v382,rfl,ho0,hb⟩; refine ⟨_,rfl, ?_⟩; have HO383:=Aside0.mk (Kd.R_lower ho0 (below_size (bw HB))); replace HB:=bs HB hb; clear hb; clear ho0))
 go_loopg [4,5] k (fun kq v4 v5 w' => ∃ (x4_1 : List Int) (x5_1 : Int),v5 = .int .i64 x5_1 ∧ Aside0 (r4_Text.l0 kq l0 t381 x4_1 x5_1 = some r) ∧ Aside0 (kq ≤ k) ∧ Aside0 (Kd.R kElem 43 w' w.heap.size (fun _ => True) v382 t381) ∧ Aside0 (Kd.R (Kd.int .i32) 21 w' w.heap.size (fun _ => True) v4 x4_1) ∧ Aside0 (Below w.heap.size w w'))
 case atStart => exact ⟨(([] : List Int)),(0),rf,H',⟨Nat.le_refl _⟩,⟨rk HO383⟩,⟨by first | exact Kd.R_nil _ _ _ _ _ | exact Kd.N_nil _ _ _ _ _ | exact Kd.V_nil _ _ _ _ _ | exact Kd.Q_nil _ _ _ _ _ | exact Kd.S_nil _ _ _ _ _⟩,⟨bw HB⟩⟩
 case round =>
  clear H'
  obtain ⟨x4_1,x5_1,rfl,HA,HK1,HO_3,HO_4,HB⟩:=hrel
  cases gk with
  | zero => exact absurd HA.out (by simp [r4_Text.l0])
  | succ k1 =>
   have H:=HA.out
   clear HA
   simp only [r4_Text.l0] at H
   by_cases c4 : x5_1 < (t381.length : Int); rotate_left
   ·rw [if_neg c4] at H
    have c4b0:=decide_eq_false c4
    clear c4
    obtain ⟨t389,A11,H⟩:=bE H
    obtain rfl:=Option.some.inj H
    obtain ⟨Ao12,co12,eo12⟩:=Kd.R_slice HO_3.out
    subst eo12
    obtain ⟨Ao13,co13,eo13⟩:=Kd.R_slice HO_4.out
    subst eo13
    go_wp2_with (first | ((with_reducible refine gate_callee (f:=109) rfl ?_); refine gl (some 24) Tryd.func109 #[.slice Ao13 x4_1.length co13] (h := ?_); (with_reducible refine (r1_Make.calls k1 _ _ x4_1 t389 _ ?side1 ?side2 A11.out).mono ?_); (case side1 => exact cr HO_4); (case side2 => exact (Kd.R_reads' HO_4.out).2.1); rintro e w' ⟨rfl,⟨nd,rfl⟩⟩; refine ⟨_,rfl, ?_⟩))
    go_ret
    exact ⟨re,bw HB⟩
   rw [if_pos c4] at H
   have c4b0:=decide_eq_true c4
   clear c4
   by_cases c5 : 0 ≤ x5_1; rotate_left
   ·rw [if_neg c5] at H
    exact absurd H (by simp)
   rw [if_pos c5] at H
   have c5b0:=decide_eq_true c5
   clear c5
   obtain ⟨t385,A6,H⟩:=bE H
   by_cases c7 : x4_1.length < 35184372088832; rotate_left
   ·rw [if_neg c7] at H
    exact absurd H (by simp)
   rw [if_pos c7] at H
   have LMc7:=Aside0.mk c7
   clear c7
   obtain ⟨y386,hy386⟩ : ∃ y_ : List Int,y_ = (x4_1 ++ [t385]):=⟨_,rfl⟩
   first | rw [Option.bind_some,← hy386] at H | rw [← hy386] at H
   have Ny386:=Aside0.mk hy386
   clear hy386
   have H':=Aside0.mk H
   clear H
   obtain ⟨Ao8,co8,eo8⟩:=Kd.R_slice HO_3.out
   subst eo8
   have p384 : 0 ≤ (x5_1 : Int):=od
   have q384 : x5_1 < (t381.length : Int):=od
   obtain ⟨ad384,e384,hx384_0,hx384_1,hx384_2⟩:=at_Elem (Kd.R_reads' HO_3.out).2.2 x5_1 p384 q384
   cases e384
   replace p384:=eq_true p384
   replace q384:=eq_true q384
   go_wp2_with (first | ((with_reducible refine gate_callee (f:=108) rfl ?_); refine gl (some 20) Tryd.func108 #[.slice A0 l0.length c0, .agg #[.int .i64 ((rd_Elem t381 x5_1).f0), .int .i64 ((rd_Elem t381 x5_1).f1), .int .i64 ((rd_Elem t381 x5_1).f2)]] (h := ?_); (with_reducible refine (r4_Rune.calls k1 _ _ l0 ((rd_Elem t381 x5_1).f0) ((rd_Elem t381 x5_1).f1) ((rd_Elem t381 x5_1).f2) t385 _ ?side1 ?side2 ?side3 A6.out).mono ?_); (case side1 => exact cb HR0 HB); (case side2 => exact HC0.out); (case side3 => exact (hT.below (bw HB))); rintro e w9 ⟨rfl,hb⟩; refine ⟨_,rfl, ?_⟩; replace HO_3:=rb HO_3 hb; replace HO_4:=rb HO_4 hb; replace HB:=bs HB hb; clear hb) | ((with_reducible refine gate_builtin (b:=.append) (xs:=#[.tmp 14, .tmp 21]) rfl ?_); at_builtin; refine Kd.R_append (Kd.int .i32) (w0:=w) w.heap.size rfl (.tmp 14) (.tmp 21) 87 21 (.int .i32 0) 4 rfl Tryd.underlying87 info21 rfl (by decide) (by omega) u4 x4_1 t385 [.int .i32 t385] (fun _ => True) (fun _ => False) rfl rfl ?aP (fun _ hk => hk.elim) ?aF ?aO ?aB ?aS ?aL ?_; (case aP => exact rfl); (case aB => exact (bw HB)); (case aF => exact (fun _ _ => trivial)); (case aO => exact (rk HO_4)); (case aS => exact (below_size (bw HB))); (case aL => have:=LMc7.out; omega); intro v387 w10 ho hb hg hat; rw [← Ny386.out] at ho; have n0_:=Aside0.mk (Kd.R_over' (rk HO_3) (Kd.R_typed (rk HO_4)) (by decide) hg); have n1_:=Aside0.mk (hb); have n2_:=Aside0.mk (ho); clear HO_3; clear HB; clear HO_4; have HO_3:=n0_; have HB:=n1_; have HO388:=n2_; clear n0_ n1_ n2_; clear ho hb hg hat))
   go_roundg k1
   case measure => have:=HK1.out; omega
   case rel => exact ⟨(y386),(wrap64 (x5_1 + 1)),rf,H',⟨by have:=HK1.out; omega⟩,⟨rk HO_3⟩,⟨rk HO388⟩,⟨bw HB⟩⟩
def w6_wakes.f  : Option (Bool):=(doc_Text.f ([] : List (SOp))).bind fun bt390 => ((some (([(⟨1,1,1,(⟨0,0,0⟩ : SElem),(⟨#[97]⟩ : ByteArray),([] : List (SElem)),0,0,0⟩ : SOp),(⟨1,2,2,(⟨0,0,0⟩ : SElem),(⟨#[]⟩ : ByteArray),([] : List (SElem)),1,1,0⟩ : SOp)] : List (SOp)) : List (SOp))).bind fun y392 => (if 1 ≤ (y392.length : Int) then ((doc_Text.f (y392.take 1)).bind fun bt399 => ((doc_Text.f y392).bind fun bt401 => ((w6_num.f bt390.2).bind fun t403 => (if t403 = 0 then ((w6_num.f bt399.2).bind fun t404 => (if t404 = 0 then ((w6_num.f bt401.2).bind fun t405 => (if t405 = 0 then (if bt390.1.toList = ([] : List UInt8) then (if bt399.1.toList = ([97] : List UInt8) then (some (bt401.1.toList == ([] : List UInt8))) else (some false)) else (some false)) else (some false))) else (some false))) else (some false))))) else (none)))
set_option maxHeartbeats 8000000 in
set_option maxRecDepth 100000 in
theorem w6_wakes.calls  (r : Bool) (w : World) (h : w6_wakes.f  = some r) :
  Calls Tryd.prog 74 #[] w fun e w' => e = .returned (.bool r) ∧ Below w.heap.size w w':=by
 have hu55:=Tryd.underlying55
 have HB:=Aside0.mk (Below.refl w.heap.size w)
 unfold w6_wakes.f at h; have H:=h
 clear h
 obtain ⟨⟨t390,t391⟩,A1,H⟩:=bE H
 try dsimp only at H
 obtain ⟨y392,hy392⟩ : ∃ y_ : List (SOp),y_ = (([(⟨1,1,1,(⟨0,0,0⟩ : SElem),(⟨#[97]⟩ : ByteArray),([] : List (SElem)),0,0,0⟩ : SOp),(⟨1,2,2,(⟨0,0,0⟩ : SElem),(⟨#[]⟩ : ByteArray),([] : List (SElem)),1,1,0⟩ : SOp)] : List (SOp))):=⟨_,rfl⟩
 first | rw [Option.bind_some,← hy392] at H | rw [← hy392] at H
 have Ny392:=Aside0.mk hy392
 clear hy392
 by_cases c2 : 1 ≤ (y392.length : Int); rotate_left
 ·rw [if_neg c2] at H
  exact absurd H (by simp)
 rw [if_pos c2] at H
 have c2b0:=eq_true c2
 have c2b1:=decide_eq_true c2
 clear c2
 obtain ⟨y395,hy395⟩ : ∃ y_ : List (SOp),y_ = (y392.take 1):=⟨_,rfl⟩
 first | rw [Option.bind_some,← hy395] at H | rw [← hy395] at H
 have Ny395:=Aside0.mk hy395
 clear hy395
 obtain ⟨⟨t399,t400⟩,A3,H⟩:=bE H
 try dsimp only at H
 obtain ⟨⟨t401,t402⟩,A4,H⟩:=bE H
 try dsimp only at H
 obtain ⟨t403,A5,H⟩:=bE H
 by_cases c6 : t403 = 0; rotate_left
 ·rw [if_neg c6] at H
  obtain ⟨c6b0,c6b1⟩:=bF c6
  obtain rfl:=Option.some.inj H
  go_enter Tryd.func74,Tryd.ntmps74
  go_wp2_with (first | ((with_reducible refine gate_callee (f:=70) rfl ?_); refine gl (some 9) Tryd.func70 #[.slice none 0 0] (h := ?_); (refine (doc_Text.calls _ _ ([] : List (SOp)) t390 t391 _ ?side1 ?side2 A1.out).mono ?_); (case side1 => exact Kd.C_nil _ _); (case side2 => exact Nat.le_refl _); rintro e w48 ⟨rfl,hb⟩; refine ⟨_,rfl, ?_⟩; replace HB:=bs HB hb; clear hb) | ((with_reducible refine gate_dst (N:=14) rfl ?_); refine Kd.S_lit kOp _ 55 ?hg (N:=14) ?hd (xs:=([(⟨1,1,1,(⟨0,0,0⟩ : SElem),(⟨#[97]⟩ : ByteArray),([] : List (SElem)),0,0,0⟩ : SOp),(⟨1,2,2,(⟨0,0,0⟩ : SElem),(⟨#[]⟩ : ByteArray),([] : List (SElem)),1,1,0⟩ : SOp)] : List (SOp))) (inner:=[.int .i64 1, .int .i64 1, .int .i64 1, .int .i64 0, .int .i64 0, .int .i64 0, .string (⟨#[97]⟩ : ByteArray), .slice none 0 0, .int .i64 0, .int .i64 0, .int .i64 0, .int .i64 1, .int .i64 2, .int .i64 2, .int .i64 0, .int .i64 0, .int .i64 0, .string (⟨#[]⟩ : ByteArray), .slice none 0 0, .int .i64 1, .int .i64 1, .int .i64 0]) (ok:=fun _ => True) (okp:=fun _ => True) ?hr ?hp (fun _ hk => hk) trivial (Below.refl _ _) (Nat.le_refl _) (by simp) ?_; (case hd => rfl); (case hg => rfl); (case hr => first | (go_simp; done) | (go_simp; rfl)); (case hp => exact (Reps.front (show Kd.M kOp _ _ _ (⟨1,1,1,(⟨0,0,0⟩ : SElem),(⟨#[97]⟩ : ByteArray),([] : List (SElem)),0,0,0⟩ : SOp) [.int .i64 1, .int .i64 1, .int .i64 1, .int .i64 0, .int .i64 0, .int .i64 0, .string (⟨#[97]⟩ : ByteArray), .slice none 0 0, .int .i64 0, .int .i64 0, .int .i64 0] from (kOp_mkM _ _ _ (⟨1,1,1,(⟨0,0,0⟩ : SElem),(⟨#[97]⟩ : ByteArray),([] : List (SElem)),0,0,0⟩ : SOp) (Kd.R_nil _ _ _ _ _))) rfl (Reps.front (show Kd.M kOp _ _ _ (⟨1,2,2,(⟨0,0,0⟩ : SElem),(⟨#[]⟩ : ByteArray),([] : List (SElem)),1,1,0⟩ : SOp) [.int .i64 1, .int .i64 2, .int .i64 2, .int .i64 0, .int .i64 0, .int .i64 0, .string (⟨#[]⟩ : ByteArray), .slice none 0 0, .int .i64 1, .int .i64 1, .int .i64 0] from (kOp_mkM _ _ _ (⟨1,2,2,(⟨0,0,0⟩ : SElem),(⟨#[]⟩ : ByteArray),([] : List (SElem)),1,1,0⟩ : SOp) (Kd.R_nil _ _ _ _ _))) rfl (Reps.none _ _) rfl) rfl)); intro v393 w49 ho50 hb hg_ hnew_; clear hg_ hnew_; (first | rw [← Ny392.out] at ho50 | (simp only [Int.reduceToNat] at ho50; rw [← Ny392.out] at ho50)); have HO394:=Aside0.mk (Kd.S_lower ho50 (below_size (bw HB))); replace HB:=bs HB hb; clear hb ho50; obtain ⟨Ao52,co52,eo52⟩:=Kd.S_slice HO394.out; subst eo52; have q51 : (1 : Int) ≤ ((y392.length : Int) : Int):=od; obtain ⟨i051,hi051,_,hsz51,_⟩:=info_parts info55; have hroom51 : y392.length ≤ co52:=(Kd.S_reads' HO394.out).2.1; have hC51 : Kd.C kOp _ Ao52 y392.length y392:=(Kd.S_reads' HO394.out).2.2; have hcut51:=cut_to (P:=Tryd.prog) 24 55 .i64 Tryd.underlying24 hi051 Ao52 y392.length co52 1 (by omega) q51 hroom51; have hr51:=Kd.C_take (m:=1) hC51 (by omega); have hy51 : y395.length = (1 : Int).toNat:=(by rw [Ny395.out,List.length_take]; omega); rw [← Ny395.out] at hr51; rw [← hy51] at hcut51; have HR398:=Aside0.mk hr51; have HC398:=Aside0.mk (show y395.length ≤ co52 from by omega); clear hr51 hC51 hroom51 hi051 hsz51; have KY51:=Aside0.mk hy51; clear hy51; have KL51:=Aside0.mk (show 1 ≤ y392.length from by omega); replace q51:=eq_true q51) | ((with_reducible refine gate_callee (f:=70) rfl ?_); refine gl (some 18) Tryd.func70 #[.slice Ao52 y395.length co52] (h := ?_); (with_reducible refine (doc_Text.calls _ _ y395 t399 t400 _ ?side1 ?side2 A3.out).mono ?_); (case side1 => repeat (first | exact (ck HR398) | (with_reducible refine Kd.C_alloc ?_ _) | (with_reducible refine Kd.C_drewN ?_ _) | (with_reducible refine Kd.C_drew ?_))); (case side2 => exact HC398.out); rintro e w53 ⟨rfl,hb⟩; refine ⟨_,rfl, ?_⟩; replace HO394:=sb HO394 hb; replace HR398:=Aside0.mk (Kd.C_below (ck HR398) hb); replace HB:=bs HB hb; clear hb) | ((with_reducible refine gate_callee (f:=70) rfl ?_); refine gl (some 23) Tryd.func70 #[.slice Ao52 y392.length co52] (h := ?_); (with_reducible refine (doc_Text.calls _ _ y392 t401 t402 _ ?side1 ?side2 A4.out).mono ?_); (case side1 => exact cs HO394); (case side2 => exact (Kd.S_reads' HO394.out).2.1); rintro e w54 ⟨rfl,hb⟩; refine ⟨_,rfl, ?_⟩; replace HO394:=sb HO394 hb; replace HR398:=Aside0.mk (Kd.C_below (ck HR398) hb); replace HB:=bs HB hb; clear hb) | ((with_reducible refine gate_callee (f:=72) rfl ?_); refine gl (some 27) Tryd.func72 #[.int .i64 t391] (h := ?_); (with_reducible refine (w6_num.calls t391 t403 _ A5.out).mono ?_); rintro e w' ⟨rfl,⟨nd,rfl⟩⟩; refine ⟨_,rfl, ?_⟩))
  go_ret
  exact ⟨re,bw HB⟩
 rw [if_pos c6] at H
 obtain ⟨c6b0,c6b1⟩:=bT c6
 clear c6
 obtain ⟨t404,A7,H⟩:=bE H
 by_cases c8 : t404 = 0; rotate_left
 ·rw [if_neg c8] at H
  obtain ⟨c8b0,c8b1⟩:=bF c8
  obtain rfl:=Option.some.inj H
  go_enter Tryd.func74,Tryd.ntmps74
  go_wp2_with (first | ((with_reducible refine gate_callee (f:=70) rfl ?_); refine gl (some 9) Tryd.func70 #[.slice none 0 0] (h := ?_); (refine (doc_Text.calls _ _ ([] : List (SOp)) t390 t391 _ ?side1 ?side2 A1.out).mono ?_); (case side1 => exact Kd.C_nil _ _); (case side2 => exact Nat.le_refl _); rintro e w41 ⟨rfl,hb⟩; refine ⟨_,rfl, ?_⟩; replace HB:=bs HB hb; clear hb) | ((with_reducible refine gate_dst (N:=14) rfl ?_); refine Kd.S_lit kOp _ 55 ?hg (N:=14) ?hd (xs:=([(⟨1,1,1,(⟨0,0,0⟩ : SElem),(⟨#[97]⟩ : ByteArray),([] : List (SElem)),0,0,0⟩ : SOp),(⟨1,2,2,(⟨0,0,0⟩ : SElem),(⟨#[]⟩ : ByteArray),([] : List (SElem)),1,1,0⟩ : SOp)] : List (SOp))) (inner:=[.int .i64 1, .int .i64 1, .int .i64 1, .int .i64 0, .int .i64 0, .int .i64 0, .string (⟨#[97]⟩ : ByteArray), .slice none 0 0, .int .i64 0, .int .i64 0, .int .i64 0, .int .i64 1, .int .i64 2, .int .i64 2, .int .i64 0, .int .i64 0, .int .i64 0, .string (⟨#[]⟩ : ByteArray), .slice none 0 0, .int .i64 1, .int .i64 1, .int .i64 0]) (ok:=fun _ => True) (okp:=fun _ => True) ?hr ?hp (fun _ hk => hk) trivial (Below.refl _ _) (Nat.le_refl _) (by simp) ?_; (case hd => rfl); (case hg => rfl); (case hr => first | (go_simp; done) | (go_simp; rfl)); (case hp => exact (Reps.front (show Kd.M kOp _ _ _ (⟨1,1,1,(⟨0,0,0⟩ : SElem),(⟨#[97]⟩ : ByteArray),([] : List (SElem)),0,0,0⟩ : SOp) [.int .i64 1, .int .i64 1, .int .i64 1, .int .i64 0, .int .i64 0, .int .i64 0, .string (⟨#[97]⟩ : ByteArray), .slice none 0 0, .int .i64 0, .int .i64 0, .int .i64 0] from (kOp_mkM _ _ _ (⟨1,1,1,(⟨0,0,0⟩ : SElem),(⟨#[97]⟩ : ByteArray),([] : List (SElem)),0,0,0⟩ : SOp) (Kd.R_nil _ _ _ _ _))) rfl (Reps.front (show Kd.M kOp _ _ _ (⟨1,2,2,(⟨0,0,0⟩ : SElem),(⟨#[]⟩ : ByteArray),([] : List (SElem)),1,1,0⟩ : SOp) [.int .i64 1, .int .i64 2, .int .i64 2, .int .i64 0, .int .i64 0, .int .i64 0, .string (⟨#[]⟩ : ByteArray), .slice none 0 0, .int .i64 1, .int .i64 1, .int .i64 0] from (kOp_mkM _ _ _ (⟨1,2,2,(⟨0,0,0⟩ : SElem),(⟨#[]⟩ : ByteArray),([] : List (SElem)),1,1,0⟩ : SOp) (Kd.R_nil _ _ _ _ _))) rfl (Reps.none _ _) rfl) rfl)); intro v393 w42 ho43 hb hg_ hnew_; clear hg_ hnew_; (first | rw [← Ny392.out] at ho43 | (simp only [Int.reduceToNat] at ho43; rw [← Ny392.out] at ho43)); have HO394:=Aside0.mk (Kd.S_lower ho43 (below_size (bw HB))); replace HB:=bs HB hb; clear hb ho43; obtain ⟨Ao45,co45,eo45⟩:=Kd.S_slice HO394.out; subst eo45; have q44 : (1 : Int) ≤ ((y392.length : Int) : Int):=od; obtain ⟨i044,hi044,_,hsz44,_⟩:=info_parts info55; have hroom44 : y392.length ≤ co45:=(Kd.S_reads' HO394.out).2.1; have hC44 : Kd.C kOp _ Ao45 y392.length y392:=(Kd.S_reads' HO394.out).2.2; have hcut44:=cut_to (P:=Tryd.prog) 24 55 .i64 Tryd.underlying24 hi044 Ao45 y392.length co45 1 (by omega) q44 hroom44; have hr44:=Kd.C_take (m:=1) hC44 (by omega); have hy44 : y395.length = (1 : Int).toNat:=(by rw [Ny395.out,List.length_take]; omega); rw [← Ny395.out] at hr44; rw [← hy44] at hcut44; have HR398:=Aside0.mk hr44; have HC398:=Aside0.mk (show y395.length ≤ co45 from by omega); clear hr44 hC44 hroom44 hi044 hsz44; have KY44:=Aside0.mk hy44; clear hy44; have KL44:=Aside0.mk (show 1 ≤ y392.length from by omega); replace q44:=eq_true q44) | ((with_reducible refine gate_callee (f:=70) rfl ?_); refine gl (some 18) Tryd.func70 #[.slice Ao45 y395.length co45] (h := ?_); (with_reducible refine (doc_Text.calls _ _ y395 t399 t400 _ ?side1 ?side2 A3.out).mono ?_); (case side1 => repeat (first | exact (ck HR398) | (with_reducible refine Kd.C_alloc ?_ _) | (with_reducible refine Kd.C_drewN ?_ _) | (with_reducible refine Kd.C_drew ?_))); (case side2 => exact HC398.out); rintro e w46 ⟨rfl,hb⟩; refine ⟨_,rfl, ?_⟩; replace HO394:=sb HO394 hb; replace HR398:=Aside0.mk (Kd.C_below (ck HR398) hb); replace HB:=bs HB hb; clear hb) | ((with_reducible refine gate_callee (f:=70) rfl ?_); refine gl (some 23) Tryd.func70 #[.slice Ao45 y392.length co45] (h := ?_); (with_reducible refine (doc_Text.calls _ _ y392 t401 t402 _ ?side1 ?side2 A4.out).mono ?_); (case side1 => exact cs HO394); (case side2 => exact (Kd.S_reads' HO394.out).2.1); rintro e w47 ⟨rfl,hb⟩; refine ⟨_,rfl, ?_⟩; replace HO394:=sb HO394 hb; replace HR398:=Aside0.mk (Kd.C_below (ck HR398) hb); replace HB:=bs HB hb; clear hb) | ((with_reducible refine gate_callee (f:=72) rfl ?_); refine gl (some 27) Tryd.func72 #[.int .i64 t391] (h := ?_); (with_reducible refine (w6_num.calls t391 t403 _ A5.out).mono ?_); rintro e w' ⟨rfl,⟨nd,rfl⟩⟩; refine ⟨_,rfl, ?_⟩) | (go_at_call 72; (with_reducible refine (w6_num.calls t400 t404 _ A7.out).mono ?_); rintro e w' ⟨rfl,⟨nd,rfl⟩⟩))
  go_ret
  exact ⟨re,bw HB⟩
 rw [if_pos c8] at H
 obtain ⟨c8b0,c8b1⟩:=bT c8
 clear c8
 obtain ⟨t405,A9,H⟩:=bE H
 by_cases c10 : t405 = 0; rotate_left
 ·rw [if_neg c10] at H
  obtain ⟨c10b0,c10b1⟩:=bF c10
  obtain rfl:=Option.some.inj H
  go_enter Tryd.func74,Tryd.ntmps74
  go_wp2_with (first | ((with_reducible refine gate_callee (f:=70) rfl ?_); refine gl (some 9) Tryd.func70 #[.slice none 0 0] (h := ?_); (refine (doc_Text.calls _ _ ([] : List (SOp)) t390 t391 _ ?side1 ?side2 A1.out).mono ?_); (case side1 => exact Kd.C_nil _ _); (case side2 => exact Nat.le_refl _); rintro e w34 ⟨rfl,hb⟩; refine ⟨_,rfl, ?_⟩; replace HB:=bs HB hb; clear hb) | ((with_reducible refine gate_dst (N:=14) rfl ?_); refine Kd.S_lit kOp _ 55 ?hg (N:=14) ?hd (xs:=([(⟨1,1,1,(⟨0,0,0⟩ : SElem),(⟨#[97]⟩ : ByteArray),([] : List (SElem)),0,0,0⟩ : SOp),(⟨1,2,2,(⟨0,0,0⟩ : SElem),(⟨#[]⟩ : ByteArray),([] : List (SElem)),1,1,0⟩ : SOp)] : List (SOp))) (inner:=[.int .i64 1, .int .i64 1, .int .i64 1, .int .i64 0, .int .i64 0, .int .i64 0, .string (⟨#[97]⟩ : ByteArray), .slice none 0 0, .int .i64 0, .int .i64 0, .int .i64 0, .int .i64 1, .int .i64 2, .int .i64 2, .int .i64 0, .int .i64 0, .int .i64 0, .string (⟨#[]⟩ : ByteArray), .slice none 0 0, .int .i64 1, .int .i64 1, .int .i64 0]) (ok:=fun _ => True) (okp:=fun _ => True) ?hr ?hp (fun _ hk => hk) trivial (Below.refl _ _) (Nat.le_refl _) (by simp) ?_; (case hd => rfl); (case hg => rfl); (case hr => first | (go_simp; done) | (go_simp; rfl)); (case hp => exact (Reps.front (show Kd.M kOp _ _ _ (⟨1,1,1,(⟨0,0,0⟩ : SElem),(⟨#[97]⟩ : ByteArray),([] : List (SElem)),0,0,0⟩ : SOp) [.int .i64 1, .int .i64 1, .int .i64 1, .int .i64 0, .int .i64 0, .int .i64 0, .string (⟨#[97]⟩ : ByteArray), .slice none 0 0, .int .i64 0, .int .i64 0, .int .i64 0] from (kOp_mkM _ _ _ (⟨1,1,1,(⟨0,0,0⟩ : SElem),(⟨#[97]⟩ : ByteArray),([] : List (SElem)),0,0,0⟩ : SOp) (Kd.R_nil _ _ _ _ _))) rfl (Reps.front (show Kd.M kOp _ _ _ (⟨1,2,2,(⟨0,0,0⟩ : SElem),(⟨#[]⟩ : ByteArray),([] : List (SElem)),1,1,0⟩ : SOp) [.int .i64 1, .int .i64 2, .int .i64 2, .int .i64 0, .int .i64 0, .int .i64 0, .string (⟨#[]⟩ : ByteArray), .slice none 0 0, .int .i64 1, .int .i64 1, .int .i64 0] from (kOp_mkM _ _ _ (⟨1,2,2,(⟨0,0,0⟩ : SElem),(⟨#[]⟩ : ByteArray),([] : List (SElem)),1,1,0⟩ : SOp) (Kd.R_nil _ _ _ _ _))) rfl (Reps.none _ _) rfl) rfl)); intro v393 w35 ho36 hb hg_ hnew_; clear hg_ hnew_; (first | rw [← Ny392.out] at ho36 | (simp only [Int.reduceToNat] at ho36; rw [← Ny392.out] at ho36)); have HO394:=Aside0.mk (Kd.S_lower ho36 (below_size (bw HB))); replace HB:=bs HB hb; clear hb ho36; obtain ⟨Ao38,co38,eo38⟩:=Kd.S_slice HO394.out; subst eo38; have q37 : (1 : Int) ≤ ((y392.length : Int) : Int):=od; obtain ⟨i037,hi037,_,hsz37,_⟩:=info_parts info55; have hroom37 : y392.length ≤ co38:=(Kd.S_reads' HO394.out).2.1; have hC37 : Kd.C kOp _ Ao38 y392.length y392:=(Kd.S_reads' HO394.out).2.2; have hcut37:=cut_to (P:=Tryd.prog) 24 55 .i64 Tryd.underlying24 hi037 Ao38 y392.length co38 1 (by omega) q37 hroom37; have hr37:=Kd.C_take (m:=1) hC37 (by omega); have hy37 : y395.length = (1 : Int).toNat:=(by rw [Ny395.out,List.length_take]; omega); rw [← Ny395.out] at hr37; rw [← hy37] at hcut37; have HR398:=Aside0.mk hr37; have HC398:=Aside0.mk (show y395.length ≤ co38 from by omega); clear hr37 hC37 hroom37 hi037 hsz37; have KY37:=Aside0.mk hy37; clear hy37; have KL37:=Aside0.mk (show 1 ≤ y392.length from by omega); replace q37:=eq_true q37) | ((with_reducible refine gate_callee (f:=70) rfl ?_); refine gl (some 18) Tryd.func70 #[.slice Ao38 y395.length co38] (h := ?_); (with_reducible refine (doc_Text.calls _ _ y395 t399 t400 _ ?side1 ?side2 A3.out).mono ?_); (case side1 => repeat (first | exact (ck HR398) | (with_reducible refine Kd.C_alloc ?_ _) | (with_reducible refine Kd.C_drewN ?_ _) | (with_reducible refine Kd.C_drew ?_))); (case side2 => exact HC398.out); rintro e w39 ⟨rfl,hb⟩; refine ⟨_,rfl, ?_⟩; replace HO394:=sb HO394 hb; replace HR398:=Aside0.mk (Kd.C_below (ck HR398) hb); replace HB:=bs HB hb; clear hb) | ((with_reducible refine gate_callee (f:=70) rfl ?_); refine gl (some 23) Tryd.func70 #[.slice Ao38 y392.length co38] (h := ?_); (with_reducible refine (doc_Text.calls _ _ y392 t401 t402 _ ?side1 ?side2 A4.out).mono ?_); (case side1 => exact cs HO394); (case side2 => exact (Kd.S_reads' HO394.out).2.1); rintro e w40 ⟨rfl,hb⟩; refine ⟨_,rfl, ?_⟩; replace HO394:=sb HO394 hb; replace HR398:=Aside0.mk (Kd.C_below (ck HR398) hb); replace HB:=bs HB hb; clear hb) | ((with_reducible refine gate_callee (f:=72) rfl ?_); refine gl (some 27) Tryd.func72 #[.int .i64 t391] (h := ?_); (with_reducible refine (w6_num.calls t391 t403 _ A5.out).mono ?_); rintro e w' ⟨rfl,⟨nd,rfl⟩⟩; refine ⟨_,rfl, ?_⟩) | (go_at_call 72; (with_reducible refine (w6_num.calls t400 t404 _ A7.out).mono ?_); rintro e w' ⟨rfl,⟨nd,rfl⟩⟩) | (go_at_call 72; (with_reducible refine (w6_num.calls t402 t405 _ A9.out).mono ?_); rintro e w' ⟨rfl,⟨nd,rfl⟩⟩))
  go_ret
  exact ⟨re,bw HB⟩
 rw [if_pos c10] at H
 obtain ⟨c10b0,c10b1⟩:=bT c10
 clear c10
 by_cases c11 : t390.toList = ([] : List UInt8); rotate_left
 ·rw [if_neg c11] at H
  obtain ⟨c11b0,c11b1⟩:=bF c11
  obtain rfl:=Option.some.inj H
  go_enter Tryd.func74,Tryd.ntmps74
  go_wp2_with (first | ((with_reducible refine gate_callee (f:=70) rfl ?_); refine gl (some 9) Tryd.func70 #[.slice none 0 0] (h := ?_); (refine (doc_Text.calls _ _ ([] : List (SOp)) t390 t391 _ ?side1 ?side2 A1.out).mono ?_); (case side1 => exact Kd.C_nil _ _); (case side2 => exact Nat.le_refl _); rintro e w27 ⟨rfl,hb⟩; refine ⟨_,rfl, ?_⟩; replace HB:=bs HB hb; clear hb) | ((with_reducible refine gate_dst (N:=14) rfl ?_); refine Kd.S_lit kOp _ 55 ?hg (N:=14) ?hd (xs:=([(⟨1,1,1,(⟨0,0,0⟩ : SElem),(⟨#[97]⟩ : ByteArray),([] : List (SElem)),0,0,0⟩ : SOp),(⟨1,2,2,(⟨0,0,0⟩ : SElem),(⟨#[]⟩ : ByteArray),([] : List (SElem)),1,1,0⟩ : SOp)] : List (SOp))) (inner:=[.int .i64 1, .int .i64 1, .int .i64 1, .int .i64 0, .int .i64 0, .int .i64 0, .string (⟨#[97]⟩ : ByteArray), .slice none 0 0, .int .i64 0, .int .i64 0, .int .i64 0, .int .i64 1, .int .i64 2, .int .i64 2, .int .i64 0, .int .i64 0, .int .i64 0, .string (⟨#[]⟩ : ByteArray), .slice none 0 0, .int .i64 1, .int .i64 1, .int .i64 0]) (ok:=fun _ => True) (okp:=fun _ => True) ?hr ?hp (fun _ hk => hk) trivial (Below.refl _ _) (Nat.le_refl _) (by simp) ?_; (case hd => rfl); (case hg => rfl); (case hr => first | (go_simp; done) | (go_simp; rfl)); (case hp => exact (Reps.front (show Kd.M kOp _ _ _ (⟨1,1,1,(⟨0,0,0⟩ : SElem),(⟨#[97]⟩ : ByteArray),([] : List (SElem)),0,0,0⟩ : SOp) [.int .i64 1, .int .i64 1, .int .i64 1, .int .i64 0, .int .i64 0, .int .i64 0, .string (⟨#[97]⟩ : ByteArray), .slice none 0 0, .int .i64 0, .int .i64 0, .int .i64 0] from (kOp_mkM _ _ _ (⟨1,1,1,(⟨0,0,0⟩ : SElem),(⟨#[97]⟩ : ByteArray),([] : List (SElem)),0,0,0⟩ : SOp) (Kd.R_nil _ _ _ _ _))) rfl (Reps.front (show Kd.M kOp _ _ _ (⟨1,2,2,(⟨0,0,0⟩ : SElem),(⟨#[]⟩ : ByteArray),([] : List (SElem)),1,1,0⟩ : SOp) [.int .i64 1, .int .i64 2, .int .i64 2, .int .i64 0, .int .i64 0, .int .i64 0, .string (⟨#[]⟩ : ByteArray), .slice none 0 0, .int .i64 1, .int .i64 1, .int .i64 0] from (kOp_mkM _ _ _ (⟨1,2,2,(⟨0,0,0⟩ : SElem),(⟨#[]⟩ : ByteArray),([] : List (SElem)),1,1,0⟩ : SOp) (Kd.R_nil _ _ _ _ _))) rfl (Reps.none _ _) rfl) rfl)); intro v393 w28 ho29 hb hg_ hnew_; clear hg_ hnew_; (first | rw [← Ny392.out] at ho29 | (simp only [Int.reduceToNat] at ho29; rw [← Ny392.out] at ho29)); have HO394:=Aside0.mk (Kd.S_lower ho29 (below_size (bw HB))); replace HB:=bs HB hb; clear hb ho29; obtain ⟨Ao31,co31,eo31⟩:=Kd.S_slice HO394.out; subst eo31; have q30 : (1 : Int) ≤ ((y392.length : Int) : Int):=od; obtain ⟨i030,hi030,_,hsz30,_⟩:=info_parts info55; have hroom30 : y392.length ≤ co31:=(Kd.S_reads' HO394.out).2.1; have hC30 : Kd.C kOp _ Ao31 y392.length y392:=(Kd.S_reads' HO394.out).2.2; have hcut30:=cut_to (P:=Tryd.prog) 24 55 .i64 Tryd.underlying24 hi030 Ao31 y392.length co31 1 (by omega) q30 hroom30; have hr30:=Kd.C_take (m:=1) hC30 (by omega); have hy30 : y395.length = (1 : Int).toNat:=(by rw [Ny395.out,List.length_take]; omega); rw [← Ny395.out] at hr30; rw [← hy30] at hcut30; have HR398:=Aside0.mk hr30; have HC398:=Aside0.mk (show y395.length ≤ co31 from by omega); clear hr30 hC30 hroom30 hi030 hsz30; have KY30:=Aside0.mk hy30; clear hy30; have KL30:=Aside0.mk (show 1 ≤ y392.length from by omega); replace q30:=eq_true q30) | ((with_reducible refine gate_callee (f:=70) rfl ?_); refine gl (some 18) Tryd.func70 #[.slice Ao31 y395.length co31] (h := ?_); (with_reducible refine (doc_Text.calls _ _ y395 t399 t400 _ ?side1 ?side2 A3.out).mono ?_); (case side1 => repeat (first | exact (ck HR398) | (with_reducible refine Kd.C_alloc ?_ _) | (with_reducible refine Kd.C_drewN ?_ _) | (with_reducible refine Kd.C_drew ?_))); (case side2 => exact HC398.out); rintro e w32 ⟨rfl,hb⟩; refine ⟨_,rfl, ?_⟩; replace HO394:=sb HO394 hb; replace HR398:=Aside0.mk (Kd.C_below (ck HR398) hb); replace HB:=bs HB hb; clear hb) | ((with_reducible refine gate_callee (f:=70) rfl ?_); refine gl (some 23) Tryd.func70 #[.slice Ao31 y392.length co31] (h := ?_); (with_reducible refine (doc_Text.calls _ _ y392 t401 t402 _ ?side1 ?side2 A4.out).mono ?_); (case side1 => exact cs HO394); (case side2 => exact (Kd.S_reads' HO394.out).2.1); rintro e w33 ⟨rfl,hb⟩; refine ⟨_,rfl, ?_⟩; replace HO394:=sb HO394 hb; replace HR398:=Aside0.mk (Kd.C_below (ck HR398) hb); replace HB:=bs HB hb; clear hb) | ((with_reducible refine gate_callee (f:=72) rfl ?_); refine gl (some 27) Tryd.func72 #[.int .i64 t391] (h := ?_); (with_reducible refine (w6_num.calls t391 t403 _ A5.out).mono ?_); rintro e w' ⟨rfl,⟨nd,rfl⟩⟩; refine ⟨_,rfl, ?_⟩) | (go_at_call 72; (with_reducible refine (w6_num.calls t400 t404 _ A7.out).mono ?_); rintro e w' ⟨rfl,⟨nd,rfl⟩⟩) | (go_at_call 72; (with_reducible refine (w6_num.calls t402 t405 _ A9.out).mono ?_); rintro e w' ⟨rfl,⟨nd,rfl⟩⟩))
  go_ret
  exact ⟨re,bw HB⟩
 rw [if_pos c11] at H
 obtain ⟨c11b0,c11b1⟩:=bT c11
 clear c11
 by_cases c12 : t399.toList = ([97] : List UInt8)
 ·rw [if_pos c12] at H
  obtain ⟨c12b0,c12b1⟩:=bT c12
  clear c12
  obtain rfl:=Option.some.inj H
  go_enter Tryd.func74,Tryd.ntmps74
  go_wp2_with (first | ((with_reducible refine gate_callee (f:=70) rfl ?_); refine gl (some 9) Tryd.func70 #[.slice none 0 0] (h := ?_); (refine (doc_Text.calls _ _ ([] : List (SOp)) t390 t391 _ ?side1 ?side2 A1.out).mono ?_); (case side1 => exact Kd.C_nil _ _); (case side2 => exact Nat.le_refl _); rintro e w13 ⟨rfl,hb⟩; refine ⟨_,rfl, ?_⟩; replace HB:=bs HB hb; clear hb) | ((with_reducible refine gate_dst (N:=14) rfl ?_); refine Kd.S_lit kOp _ 55 ?hg (N:=14) ?hd (xs:=([(⟨1,1,1,(⟨0,0,0⟩ : SElem),(⟨#[97]⟩ : ByteArray),([] : List (SElem)),0,0,0⟩ : SOp),(⟨1,2,2,(⟨0,0,0⟩ : SElem),(⟨#[]⟩ : ByteArray),([] : List (SElem)),1,1,0⟩ : SOp)] : List (SOp))) (inner:=[.int .i64 1, .int .i64 1, .int .i64 1, .int .i64 0, .int .i64 0, .int .i64 0, .string (⟨#[97]⟩ : ByteArray), .slice none 0 0, .int .i64 0, .int .i64 0, .int .i64 0, .int .i64 1, .int .i64 2, .int .i64 2, .int .i64 0, .int .i64 0, .int .i64 0, .string (⟨#[]⟩ : ByteArray), .slice none 0 0, .int .i64 1, .int .i64 1, .int .i64 0]) (ok:=fun _ => True) (okp:=fun _ => True) ?hr ?hp (fun _ hk => hk) trivial (Below.refl _ _) (Nat.le_refl _) (by simp) ?_; (case hd => rfl); (case hg => rfl); (case hr => first | (go_simp; done) | (go_simp; rfl)); (case hp => exact (Reps.front (show Kd.M kOp _ _ _ (⟨1,1,1,(⟨0,0,0⟩ : SElem),(⟨#[97]⟩ : ByteArray),([] : List (SElem)),0,0,0⟩ : SOp) [.int .i64 1, .int .i64 1, .int .i64 1, .int .i64 0, .int .i64 0, .int .i64 0, .string (⟨#[97]⟩ : ByteArray), .slice none 0 0, .int .i64 0, .int .i64 0, .int .i64 0] from (kOp_mkM _ _ _ (⟨1,1,1,(⟨0,0,0⟩ : SElem),(⟨#[97]⟩ : ByteArray),([] : List (SElem)),0,0,0⟩ : SOp) (Kd.R_nil _ _ _ _ _))) rfl (Reps.front (show Kd.M kOp _ _ _ (⟨1,2,2,(⟨0,0,0⟩ : SElem),(⟨#[]⟩ : ByteArray),([] : List (SElem)),1,1,0⟩ : SOp) [.int .i64 1, .int .i64 2, .int .i64 2, .int .i64 0, .int .i64 0, .int .i64 0, .string (⟨#[]⟩ : ByteArray), .slice none 0 0, .int .i64 1, .int .i64 1, .int .i64 0] from (kOp_mkM _ _ _ (⟨1,2,2,(⟨0,0,0⟩ : SElem),(⟨#[]⟩ : ByteArray),([] : List (SElem)),1,1,0⟩ : SOp) (Kd.R_nil _ _ _ _ _))) rfl (Reps.none _ _) rfl) rfl)); intro v393 w14 ho15 hb hg_ hnew_; clear hg_ hnew_; (first | rw [← Ny392.out] at ho15 | (simp only [Int.reduceToNat] at ho15; rw [← Ny392.out] at ho15)); have HO394:=Aside0.mk (Kd.S_lower ho15 (below_size (bw HB))); replace HB:=bs HB hb; clear hb ho15; obtain ⟨Ao17,co17,eo17⟩:=Kd.S_slice HO394.out; subst eo17; have q16 : (1 : Int) ≤ ((y392.length : Int) : Int):=od; obtain ⟨i016,hi016,_,hsz16,_⟩:=info_parts info55; have hroom16 : y392.length ≤ co17:=(Kd.S_reads' HO394.out).2.1; have hC16 : Kd.C kOp _ Ao17 y392.length y392:=(Kd.S_reads' HO394.out).2.2; have hcut16:=cut_to (P:=Tryd.prog) 24 55 .i64 Tryd.underlying24 hi016 Ao17 y392.length co17 1 (by omega) q16 hroom16; have hr16:=Kd.C_take (m:=1) hC16 (by omega); have hy16 : y395.length = (1 : Int).toNat:=(by rw [Ny395.out,List.length_take]; omega); rw [← Ny395.out] at hr16; rw [← hy16] at hcut16; have HR398:=Aside0.mk hr16; have HC398:=Aside0.mk (show y395.length ≤ co17 from by omega); clear hr16 hC16 hroom16 hi016 hsz16; have KY16:=Aside0.mk hy16; clear hy16; have KL16:=Aside0.mk (show 1 ≤ y392.length from by omega); replace q16:=eq_true q16) | ((with_reducible refine gate_callee (f:=70) rfl ?_); refine gl (some 18) Tryd.func70 #[.slice Ao17 y395.length co17] (h := ?_); (with_reducible refine (doc_Text.calls _ _ y395 t399 t400 _ ?side1 ?side2 A3.out).mono ?_); (case side1 => repeat (first | exact (ck HR398) | (with_reducible refine Kd.C_alloc ?_ _) | (with_reducible refine Kd.C_drewN ?_ _) | (with_reducible refine Kd.C_drew ?_))); (case side2 => exact HC398.out); rintro e w18 ⟨rfl,hb⟩; refine ⟨_,rfl, ?_⟩; replace HO394:=sb HO394 hb; replace HR398:=Aside0.mk (Kd.C_below (ck HR398) hb); replace HB:=bs HB hb; clear hb) | ((with_reducible refine gate_callee (f:=70) rfl ?_); refine gl (some 23) Tryd.func70 #[.slice Ao17 y392.length co17] (h := ?_); (with_reducible refine (doc_Text.calls _ _ y392 t401 t402 _ ?side1 ?side2 A4.out).mono ?_); (case side1 => exact cs HO394); (case side2 => exact (Kd.S_reads' HO394.out).2.1); rintro e w19 ⟨rfl,hb⟩; refine ⟨_,rfl, ?_⟩; replace HO394:=sb HO394 hb; replace HR398:=Aside0.mk (Kd.C_below (ck HR398) hb); replace HB:=bs HB hb; clear hb) | ((with_reducible refine gate_callee (f:=72) rfl ?_); refine gl (some 27) Tryd.func72 #[.int .i64 t391] (h := ?_); (with_reducible refine (w6_num.calls t391 t403 _ A5.out).mono ?_); rintro e w' ⟨rfl,⟨nd,rfl⟩⟩; refine ⟨_,rfl, ?_⟩) | (go_at_call 72; (with_reducible refine (w6_num.calls t400 t404 _ A7.out).mono ?_); rintro e w' ⟨rfl,⟨nd,rfl⟩⟩) | (go_at_call 72; (with_reducible refine (w6_num.calls t402 t405 _ A9.out).mono ?_); rintro e w' ⟨rfl,⟨nd,rfl⟩⟩))
  go_ret
  exact ⟨re,bw HB⟩
 rw [if_neg c12] at H
 obtain ⟨c12b0,c12b1⟩:=bF c12
 obtain rfl:=Option.some.inj H
 go_enter Tryd.func74,Tryd.ntmps74
 go_wp2_with (first | ((with_reducible refine gate_callee (f:=70) rfl ?_); refine gl (some 9) Tryd.func70 #[.slice none 0 0] (h := ?_); (refine (doc_Text.calls _ _ ([] : List (SOp)) t390 t391 _ ?side1 ?side2 A1.out).mono ?_); (case side1 => exact Kd.C_nil _ _); (case side2 => exact Nat.le_refl _); rintro e w20 ⟨rfl,hb⟩; refine ⟨_,rfl, ?_⟩; replace HB:=bs HB hb; clear hb) | ((with_reducible refine gate_dst (N:=14) rfl ?_); refine Kd.S_lit kOp _ 55 ?hg (N:=14) ?hd (xs:=([(⟨1,1,1,(⟨0,0,0⟩ : SElem),(⟨#[97]⟩ : ByteArray),([] : List (SElem)),0,0,0⟩ : SOp),(⟨1,2,2,(⟨0,0,0⟩ : SElem),(⟨#[]⟩ : ByteArray),([] : List (SElem)),1,1,0⟩ : SOp)] : List (SOp))) (inner:=[.int .i64 1, .int .i64 1, .int .i64 1, .int .i64 0, .int .i64 0, .int .i64 0, .string (⟨#[97]⟩ : ByteArray), .slice none 0 0, .int .i64 0, .int .i64 0, .int .i64 0, .int .i64 1, .int .i64 2, .int .i64 2, .int .i64 0, .int .i64 0, .int .i64 0, .string (⟨#[]⟩ : ByteArray), .slice none 0 0, .int .i64 1, .int .i64 1, .int .i64 0]) (ok:=fun _ => True) (okp:=fun _ => True) ?hr ?hp (fun _ hk => hk) trivial (Below.refl _ _) (Nat.le_refl _) (by simp) ?_; (case hd => rfl); (case hg => rfl); (case hr => first | (go_simp; done) | (go_simp; rfl)); (case hp => exact (Reps.front (show Kd.M kOp _ _ _ (⟨1,1,1,(⟨0,0,0⟩ : SElem),(⟨#[97]⟩ : ByteArray),([] : List (SElem)),0,0,0⟩ : SOp) [.int .i64 1, .int .i64 1, .int .i64 1, .int .i64 0, .int .i64 0, .int .i64 0, .string (⟨#[97]⟩ : ByteArray), .slice none 0 0, .int .i64 0, .int .i64 0, .int .i64 0] from (kOp_mkM _ _ _ (⟨1,1,1,(⟨0,0,0⟩ : SElem),(⟨#[97]⟩ : ByteArray),([] : List (SElem)),0,0,0⟩ : SOp) (Kd.R_nil _ _ _ _ _))) rfl (Reps.front (show Kd.M kOp _ _ _ (⟨1,2,2,(⟨0,0,0⟩ : SElem),(⟨#[]⟩ : ByteArray),([] : List (SElem)),1,1,0⟩ : SOp) [.int .i64 1, .int .i64 2, .int .i64 2, .int .i64 0, .int .i64 0, .int .i64 0, .string (⟨#[]⟩ : ByteArray), .slice none 0 0, .int .i64 1, .int .i64 1, .int .i64 0] from (kOp_mkM _ _ _ (⟨1,2,2,(⟨0,0,0⟩ : SElem),(⟨#[]⟩ : ByteArray),([] : List (SElem)),1,1,0⟩ : SOp) (Kd.R_nil _ _ _ _ _))) rfl (Reps.none _ _) rfl) rfl)); intro v393 w21 ho22 hb hg_ hnew_; clear hg_ hnew_; (first | rw [← Ny392.out] at ho22 | (simp only [Int.reduceToNat] at ho22; rw [← Ny392.out] at ho22)); have HO394:=Aside0.mk (Kd.S_lower ho22 (below_size (bw HB))); replace HB:=bs HB hb; clear hb ho22; obtain ⟨Ao24,co24,eo24⟩:=Kd.S_slice HO394.out; subst eo24; have q23 : (1 : Int) ≤ ((y392.length : Int) : Int):=od; obtain ⟨i023,hi023,_,hsz23,_⟩:=info_parts info55; have hroom23 : y392.length ≤ co24:=(Kd.S_reads' HO394.out).2.1; have hC23 : Kd.C kOp _ Ao24 y392.length y392:=(Kd.S_reads' HO394.out).2.2; have hcut23:=cut_to (P:=Tryd.prog) 24 55 .i64 Tryd.underlying24 hi023 Ao24 y392.length co24 1 (by omega) q23 hroom23; have hr23:=Kd.C_take (m:=1) hC23 (by omega); have hy23 : y395.length = (1 : Int).toNat:=(by rw [Ny395.out,List.length_take]; omega); rw [← Ny395.out] at hr23; rw [← hy23] at hcut23; have HR398:=Aside0.mk hr23; have HC398:=Aside0.mk (show y395.length ≤ co24 from by omega); clear hr23 hC23 hroom23 hi023 hsz23; have KY23:=Aside0.mk hy23; clear hy23; have KL23:=Aside0.mk (show 1 ≤ y392.length from by omega); replace q23:=eq_true q23) | ((with_reducible refine gate_callee (f:=70) rfl ?_); refine gl (some 18) Tryd.func70 #[.slice Ao24 y395.length co24] (h := ?_); (with_reducible refine (doc_Text.calls _ _ y395 t399 t400 _ ?side1 ?side2 A3.out).mono ?_); (case side1 => repeat (first | exact (ck HR398) | (with_reducible refine Kd.C_alloc ?_ _) | (with_reducible refine Kd.C_drewN ?_ _) | (with_reducible refine Kd.C_drew ?_))); (case side2 => exact HC398.out); rintro e w25 ⟨rfl,hb⟩; refine ⟨_,rfl, ?_⟩; replace HO394:=sb HO394 hb; replace HR398:=Aside0.mk (Kd.C_below (ck HR398) hb); replace HB:=bs HB hb; clear hb) | ((with_reducible refine gate_callee (f:=70) rfl ?_); refine gl (some 23) Tryd.func70 #[.slice Ao24 y392.length co24] (h := ?_); (with_reducible refine (doc_Text.calls _ _ y392 t401 t402 _ ?side1 ?side2 A4.out).mono ?_); (case side1 => exact cs HO394); (case side2 => exact (Kd.S_reads' HO394.out).2.1); rintro e w26 ⟨rfl,hb⟩; refine ⟨_,rfl, ?_⟩; replace HO394:=sb HO394 hb; replace HR398:=Aside0.mk (Kd.C_below (ck HR398) hb); replace HB:=bs HB hb; clear hb) | ((with_reducible refine gate_callee (f:=72) rfl ?_); refine gl (some 27) Tryd.func72 #[.int .i64 t391] (h := ?_); (with_reducible refine (w6_num.calls t391 t403 _ A5.out).mono ?_); rintro e w' ⟨rfl,⟨nd,rfl⟩⟩; refine ⟨_,rfl, ?_⟩) | (go_at_call 72; (with_reducible refine (w6_num.calls t400 t404 _ A7.out).mono ?_); rintro e w' ⟨rfl,⟨nd,rfl⟩⟩) | (go_at_call 72; (with_reducible refine (w6_num.calls t402 t405 _ A9.out).mono ?_); rintro e w' ⟨rfl,⟨nd,rfl⟩⟩))
 go_ret
 exact ⟨re,bw HB⟩
end Go.Proofs.YtonoaflfobajcaaDoor.L
end
